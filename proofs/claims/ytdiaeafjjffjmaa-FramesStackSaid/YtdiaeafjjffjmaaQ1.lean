/-
  Walks. Written by program out of specs of mine.
-/
import Derived.Test.YtdiaeafjjffjmaaP
import Derived.Test.YtdiaeafjjffjmaaO
import Derived.Test.YtdiaeafjjffjmaaF
import Derived.Test.YtdiaeafjjffjmaaD
import Derived.Test.YtdiaeafjjffjmaaC
import Derived.Test.YtdiaeafjjffjmaaH
import Derived.Test.YtdiaeafjjffjmaaL
set_option linter.unusedSimpArgs false
set_option linter.unusedVariables false
set_option maxRecDepth 100000
namespace Go.Proofs.Ytdiaeafjjffjmaa
open Go Go.Vc Go.RowKit Go.Proofs

def fa : Fr := ⟨3, 7, 0, -1, -1, 0, []⟩
def fb : Fr := ⟨3, 7, 9, 300, 0, 2, [12, 300]⟩
def fb2 : Fr := ⟨3, 7, 0, -1, -1, 0, [12, 300]⟩
def fb3 : Fr := ⟨3, 7, 0, -1, -1, 0, [12, 300, 301]⟩
theorem fa_w : fwhole fa = true := by decide
theorem fb_w : fwhole fb = true := by decide
theorem pushA : pushR 2 0 [] fa = (0, 1, [fa]) := by rw [pushR, if_neg (by decide), if_pos fa_w]; rfl
theorem pushB : pushR 2 1 [fa] fb = (0, 2, [fa, fb]) := by rw [pushR, if_neg (by decide), if_pos fb_w]; rfl
theorem pushC : pushR 2 2 [fa, fb] fa = (220, 2, [fa, fb]) := by rw [pushR, if_pos (by decide)]
theorem goA : goR [fa, fb] fa = (0, [fa, fb2]) := by rw [goR, if_neg (by decide), if_pos (by decide)]; rfl
theorem markA : markR [fa, fb2] 301 = (0, [fa, fb3]) := by rw [markR, if_neg (by decide), if_pos (by decide), if_neg (by decide)]; rfl
theorem saveA : saved 2 2 [fa, fb] = [102, 2, 2, 2, 3, 7, 0, 0, 0, 0, 0, 3, 7, 9, 173, 2, 1, 2, 2, 12, 172, 2] := by
  have s : ∀ n : Nat, n < 128 → vput n = [UInt8.ofNat n] := fun n h => vput_lt h
  have h301 : vput 301 = [173, 2] := by rw [vput_ge (by decide), vput_lt (by decide)]; decide
  have h300 : vput 300 = [172, 2] := by rw [vput_ge (by decide), vput_lt (by decide)]; decide
  simp only [saved, fbytes, fnums, fa, fb, vI, List.flatMap_cons, List.flatMap_nil, List.append_nil, List.length_cons, List.length_nil]
  simp only [show ((2 : Nat) : Int).toNat = 2 from rfl, show (((0 + 1 + 1 : Nat)) : Int).toNat = 2 from rfl, show (3 : Int).toNat = 3 from rfl, show (7 : Int).toNat = 7 from rfl, show (0 : Int).toNat = 0 from rfl, show (-1 + 1 : Int).toNat = 0 from rfl, show ((0 : Nat) : Int).toNat = 0 from rfl, show (9 : Int).toNat = 9 from rfl, show (300 + 1 : Int).toNat = 301 from rfl, show (0 + 1 : Int).toNat = 1 from rfl, show (2 : Int).toNat = 2 from rfl, show (12 : Int).toNat = 12 from rfl, show (300 : Int).toNat = 300 from rfl, h301, h300, s 2 (by decide), s 3 (by decide), s 7 (by decide), s 0 (by decide), s 9 (by decide), s 1 (by decide), s 12 (by decide)]
  rfl
theorem Turn.keep {w w' : World} {H p most high high' : Nat} {L L' : List Fr} {lv lv' : Value} {V V' : Nat → Value} {c : Nat} {o : Obj} (t : Turn w w' H p most high L lv V high' L' lv' V') (hC : w.heap[c]? = some o) (hn : ¬ SF p lv V L.length c) : w'.heap[c]? = some o ∧ ¬ SF p lv' V' L'.length c :=
  ⟨t.only.blk hC hn, fun h => by
    rcases t.new _ h with h | h
    · exact hn h
    · have := (Array.getElem?_eq_some_iff.1 hC).1; omega⟩
theorem Turn.row {w w' : World} {H p most high high' B s n : Nat} {el : TypeId} {L L' : List Fr} {lv lv' v : Value} {V V' : Nat → Value} {xs : List Value} (t : Turn w w' H p most high L lv V high' L' lv' V') (hr : w.ownsRow B el s v n xs) (hn : ∀ k, v.ownBlock = some k → ¬ SF p lv V L.length k) : w'.ownsRow B el s v n xs ∧ ∀ k, v.ownBlock = some k → ¬ SF p lv' V' L'.length k :=
  ⟨own_only hr t.only hn, fun k hk h => by
    rcases t.new _ h with h | h
    · exact hn k hk h
    · have := (hr.lt k hk).2; omega⟩
theorem Turn.ext {w w' : World} {H p most high high' : Nat} {L L' : List Fr} {lv lv' : Value} {V V' : Nat → Value} (t : Turn w w' H p most high L lv V high' L' lv' V') {w0 : World} (hx : Ext w0 w) (hH : w0.heap.size ≤ H) (h : Stk w H p most high L lv V) : Ext w0 w' :=
  hx.trans' t.only (fun _ h => h) (fun k hk hF => by have := (h.lt k hF).1; omega)
theorem Sl.clip {w : World} {base : Nat} {el : TypeId} {s n c : Nat} {a : Option Addr} {xs : List Value} (h : w.ownsRow base el s (.slice a n c) n xs) : Sl w s (.slice a n n) n xs := by
  rcases h.2 with ⟨h1, h2⟩ | ⟨g, cap', cur, h1, hb, hc, hnc, hcm, hcs, ht⟩
  · simp only [Value.slice.injEq] at h1
    obtain ⟨rfl, rfl, rfl⟩ := h1
    have : xs = [] := List.eq_nil_of_length_eq_zero (by simpa using h.1)
    subst this
    exact Sl.nil w s
  · simp only [Value.slice.injEq] at h1
    obtain ⟨rfl, -, rfl⟩ := h1
    refine Sl.blk hc 0 _ h.1 (Nat.le_refl _) (fun i v hv => ?_)
    rw [← ht, List.getElem?_take] at hv
    split at hv
    · simpa using hv
    · simp at hv
theorem save_spec' (H p most high : Nat) (L : List Fr) (lv : Value) (V : Nat → Value) (w0 : World) (h : Stk w0 H p most high L lv V) (hw : ∀ f ∈ L, fwhole f = true) (hh : high ≤ 1048576) (sv : List UInt8) (hsv : sv = saved most high L) : Ca Try.prog 8 #[.pointer (some ⟨p, 0, none⟩)] w0 (fun v w' => ∃ g cap, v = .slice (some ⟨g, 0, none⟩) sv.length sv.length ∧ w'.ownsRow w0.heap.size 5 1 (.slice (some ⟨g, 0, none⟩) sv.length cap) sv.length (sv.map bv) ∧ By w' v sv ∧ Ext w0 w') := by
  subst hsv
  refine (save_spec H p most high L lv V w0 h hw hh).mono ?_
  rintro v w ⟨g, cap, rfl, hr, hx⟩
  exact ⟨g, cap, rfl, hr, Sl.clip hr, hx⟩
theorem len_ok {sv : List UInt8} {most high : Nat} {L : List Fr} (hsv : sv = saved most high L) (hm : most ≤ 1048576) (hl : L.length ≤ most) (hh : high ≤ 1048576) (hw : ∀ f ∈ L, fwhole f = true) : sv.length ≤ 100000000000000 := by
  subst hsv
  have h1 := vIs_len (l := [(most : Int), (L.length : Int), (high : Int)]) (by intro n hn; simp only [List.mem_cons, List.not_mem_nil, or_false] at hn; unfold numOk; omega)
  have h2 := frames_len hw
  rw [saved, List.length_cons, List.length_append]
  simp only [List.length_cons, List.length_nil] at h1
  omega
theorem rdA {sv : List UInt8} (h : sv = saved 2 2 [fa, fb]) : rdS sv = .ok ⟨2, 2, [fa, fb]⟩ sv.length := by
  rw [h]; exact rdS_saved (by omega) (by omega) (by simp) (by omega) (by simp [fa_w, fb_w])
theorem slA {sv : List UInt8} (h : sv = saved 2 2 [fa, fb]) : sv.length ≤ 1000000000000000000 := by
  have hsa := h.trans saveA
  rw [hsa]; simp
theorem slotA : slotR [fa, fb] 1 = (300, 0) := by decide
theorem hwA : ∀ f ∈ [fa, fb], fwhole f = true := by simp [fa_w, fb_w]
theorem exA : ∃ sv, sv = saved 2 2 [fa, fb] := ⟨_, rfl⟩

set_option maxHeartbeats 4000000 in
theorem awake_spec (w0 : World) : Ca Try.prog 6 #[] w0 (fun v w' => v = .bool true ∧ Ext w0 w') := by
  refine Ca.of Try.func6 Try.ntmps6 rfl rfl ?_
  refine W.seq ?_
  refine W.region ?_
  refine WL.c rfl (o_ash (show _ = Value.bool _ from rfl) ?_)
  refine WL.nil ?_
  refine W.seq ?_
  refine W.region ?_
  refine WL.c rfl (o_call Try.call27 (lc rfl ln) ((new_spec 2 _).mono ?_))
  rintro v17 w17 ⟨hA, -, hx17⟩
  obtain ⟨rfl, h⟩ := hA (by decide)
  replace h : Stk w17 w0.heap.size w0.heap.size 2 0 [] (.slice none 0 0) (fun _ => undef) := h
  refine WL.c rfl (o_mvh (by first | exact (show _ = Value.tuple _ from rfl) | exact rfl) ?_)
  refine WL.c rfl (o_ext rfl rfl ?_)
  refine WL.c rfl (o_ext rfl rfl ?_)
  refine WL.c rfl (o_ash (by first | exact (show _ = Value.pointer _ from rfl) | exact rfl) ?_)
  refine WL.c rfl (o_ash (show _ = Value.int _ _ from rfl) ?_)
  refine WL.nil ?_
  refine W.seq ?_
  refine W.region ?_
  refine WL.c rfl (o_call Try.call27 (lc rfl ln) ((new_spec 0 _).mono ?_))
  rintro v21 w21 ⟨-, hB, hx21⟩
  obtain rfl := hB (by decide)
  replace h := h.ext hx21
  replace hx17 := hx17.tr hx21
  have h17 := h.cell
  refine WL.c rfl (o_mvh (by first | exact (show _ = Value.tuple _ from rfl) | exact rfl) ?_)
  refine WL.c rfl (o_ext rfl rfl ?_)
  refine WL.c rfl (o_ext rfl rfl ?_)
  refine WL.c rfl (o_ash (by first | exact (show _ = Value.pointer _ from rfl) | exact rfl) ?_)
  refine WL.c rfl (o_ash (show _ = Value.int _ _ from rfl) ?_)
  refine WL.nil ?_
  refine W.seq ?_
  refine W.seq ?_
  refine W.region ?_
  refine WL.c rfl (o_mvh (by first | exact (show _ = Value.pointer _ from rfl) | exact rfl) ?_)
  refine WL.c rfl (o_eqN (p := some ⟨w0.heap.size, 0, none⟩) TI25 rfl rfl ?_)
  refine WL.c rfl (o_mvh (show _ = Value.bool _ from rfl) ?_)
  refine WL.g rfl (by simp) rfl (o_mvh (show _ = Value.int _ _ from rfl) ?_)
  refine WL.g rfl (by simp) rfl (o_call Try.call10 (lc rfl ln) ((num_spec _ _).mono ?_))
  rintro v28 w28 ⟨rfl, hw28⟩
  replace hw28 := hw28.symm
  subst hw28
  refine WL.g rfl (by simp) rfl (o_ne rfl rfl ?_)
  refine WL.c rfl (o_pickO rfl rfl ?_)
  refine WL.c rfl (o_mvh (show _ = Value.bool _ from rfl) ?_)
  refine WL.g rfl (by simp) rfl (o_mvh (by first | exact (show _ = Value.pointer _ from rfl) | exact rfl) ?_)
  refine WL.g rfl (by simp) rfl (o_neN (p := none) TI25 rfl rfl ?_)
  refine WL.c rfl (o_pickO rfl rfl ?_)
  refine WL.c rfl (o_mvh (show _ = Value.bool _ from rfl) ?_)
  refine WL.g rfl (by simp) rfl (o_mvh (show _ = Value.int _ _ from rfl) ?_)
  refine WL.g rfl (by simp) rfl (o_call Try.call10 (lc rfl ln) ((num_spec _ _).mono ?_))
  rintro v37 w37 ⟨rfl, hw37⟩
  replace hw37 := hw37.symm
  subst hw37
  refine WL.g rfl (by simp) rfl (o_ne rfl rfl ?_)
  refine WL.c rfl (o_pickO rfl rfl ?_)
  refine WL.nil ?_
  refine W.condF' rfl (by simp) ?_
  refine W.skip ?_
  refine W.seq ?_
  refine W.region ?_
  refine WL.c rfl (o_bldC (cs := [(.int .i64 3), (.int .i64 7), (.int .i64 0), (.int .i64 (-1)), (.int .i64 (-1)), (.int .i64 0), (.slice none 0 0)]) TI39 (Sizes.cons TI3 (Sizes.cons TI3 (Sizes.cons TI3 (Sizes.cons TI3 (Sizes.cons TI3 (Sizes.cons TI3 (Sizes.cons TI37 Sizes.nil))))))) rfl (lcp (show _ = Value.int _ _ from rfl) (lcp (show _ = Value.int _ _ from rfl) (lcp (show _ = Value.int _ _ from rfl) (lcp (show _ = Value.int _ _ from rfl) lnp)))) rfl rfl ?_)
  refine WL.c rfl (o_alB TI39 ?_)
  intro w5 hC5 hx5 hs5
  replace h := h.ext hx5
  have hx := hx17.tr hx5
  refine WL.u (o_stA TI39 rfl (show _ = Value.agg (fcells fa (.slice none 0 0)).toArray from rfl) rfl rfl hC5 rfl ?_)
  intro w6 hB5 ho5 hs6
  obtain ⟨c5, hc5⟩ : ∃ c5, c5 = w21.heap.size := ⟨_, rfl⟩
  rw [← hc5] at hB5 ho5 ⊢
  have hge := hx17.size
  have hn5 : ¬ SF w0.heap.size (.slice none 0 0) (fun _ => undef) ([] : List Fr).length c5 := fun hk => by rcases hk with hk | hk | ⟨j, hj, -⟩; have := (Array.getElem?_eq_some_iff.1 h.cell).1; have := (Array.getElem?_eq_some_iff.1 h17).1; omega; cases hk; simp at hj
  replace h := h.only ho5 (fun k hk he => by subst he; exact hn5 hk)
  replace hx := hx.trans' ho5 (fun _ h => h) (fun k hk he => by omega)
  have hC5 := hB5
  refine WL.nil ?_
  refine W.seq ?_
  refine W.region ?_
  refine WL.c rfl (o_bsn (vs := [.int .i64 12, .int .i64 300]) (xs := [(.const (.int .i64 12)), (.const (.int .i64 300))]) TI37 TI3 rfl (lc (show _ = Value.int _ _ from rfl) (lc (show _ = Value.int _ _ from rfl) ln)) rfl rfl (by decide) (by decide) ?_)
  have hrT : (w6.alloc (.cells [Value.int .i64 12, Value.int .i64 300].toArray 3)).ownsRow w6.heap.size 3 1 (.slice (some ⟨w6.heap.size, 0, none⟩) 2 2) 2 (ints [12, 300]) := own_newN rfl (by decide)
  have hx41 : Ext w6 (w6.alloc (.cells [Value.int .i64 12, Value.int .i64 300].toArray 3)) := Only.alloc w6 _
  generalize w6.alloc (.cells [Value.int .i64 12, Value.int .i64 300].toArray 3) = w41 at *
  obtain ⟨cT, hcT⟩ : ∃ cT, cT = w6.heap.size := ⟨_, rfl⟩
  rw [← hcT] at hrT ⊢
  have hnT : ∀ k, (Value.slice (some ⟨cT, 0, none⟩) 2 2).ownBlock = some k → ¬ SF w0.heap.size (.slice none 0 0) (fun _ => undef) ([] : List Fr).length k := fun k hk hF => by simp only [Value.ownBlock, Option.some.injEq] at hk; have := (h.lt k hF).2; omega
  replace h := h.ext hx41
  replace hC5 := hx41.blk hC5 (fun h => h)
  replace hx := hx.tr hx41
  refine WL.c rfl (o_bldC (cs := [(.int .i64 3), (.int .i64 7), (.int .i64 9), (.int .i64 300), (.int .i64 0), (.int .i64 2), _]) TI39 (Sizes.cons TI3 (Sizes.cons TI3 (Sizes.cons TI3 (Sizes.cons TI3 (Sizes.cons TI3 (Sizes.cons TI3 (Sizes.cons TI37 Sizes.nil))))))) rfl (lcp (show _ = Value.int _ _ from rfl) (lcp (show _ = Value.int _ _ from rfl) (lcp (show _ = Value.int _ _ from rfl) (lcp (show _ = Value.int _ _ from rfl) (lcp (show _ = Value.int _ _ from rfl) (lcp (show _ = Value.int _ _ from rfl) (lcp (show _ = Value.slice _ _ _ from rfl) lnp))))))) rfl rfl ?_)
  refine WL.c rfl (o_alB TI39 ?_)
  have hw41 := hx.size
  have h5lt : c5 < w41.heap.size := (Array.getElem?_eq_some_iff.1 hC5).1
  have hTlt : cT < w41.heap.size := (hrT.lt cT rfl).2
  intro w7 hC6 hx7 hs7
  replace h := h.ext hx7
  replace hx := hx.tr hx7
  replace hC5 := hx7.blk hC5 (fun h => h)
  replace hrT := own_ext hrT hx7
  refine WL.u (o_stA TI39 rfl (show _ = Value.agg (fcells fb (.slice (some ⟨cT, 0, none⟩) 2 2)).toArray from rfl) rfl rfl hC6 rfl ?_)
  intro w8 hB6 ho6 hs8
  obtain ⟨c6, hc6⟩ : ∃ c6, c6 = w41.heap.size := ⟨_, rfl⟩
  rw [← hc6] at hB6 ho6 ⊢
  have hge6 := hx41.size
  have hn6 : ¬ SF w0.heap.size (.slice none 0 0) (fun _ => undef) ([] : List Fr).length c6 := fun hk => by rcases hk with hk | hk | ⟨j, hj, -⟩; have := hx17.size; have := hx.size; have := (Array.getElem?_eq_some_iff.1 h17).1; omega; cases hk; simp at hj
  replace h := h.only ho6 (fun k hk he => by subst he; exact hn6 hk)
  replace hx := hx.trans' ho6 (fun _ h => h) (fun k hk he => by omega)
  replace hC5 := ho6.blk hC5 (show ¬ c5 = c6 by omega)
  replace hrT := own_only hrT ho6 (fun k hk he => by simp only [Value.ownBlock, Option.some.injEq] at hk; omega)
  have hC6 := hB6
  refine WL.nil ?_
  refine W.seq ?_
  refine W.seq ?_
  refine W.region ?_
  refine WL.c rfl (o_mvh (by first | exact (show _ = Value.pointer _ from rfl) | exact rfl) ?_)
  refine WL.c rfl (o_ldA TI39 rfl rfl (show Cells _ c5 0 (fcells fa (.slice none 0 0)) from Cells.of hC5 0 _ (by simp)) rfl ?_)
  refine WL.c rfl (o_call Try.call16 (lc rfl (lc rfl ln)) ((push_spec w0.heap.size w0.heap.size 2 0 [] _ _ fa (.slice none 0 0) _ h (Sl.nil _ _) (by simp [fa])).mono ?_))
  rintro v45 w45 ⟨rfl, lv45, V45, t⟩
  rw [pushA] at t ⊢
  replace t : Turn _ _ _ _ 2 0 [] _ _ 1 [fa] lv45 V45 := t
  replace hx := t.ext hx (Nat.le_refl _) h
  replace h := t.stk
  obtain ⟨hC5', hn5'⟩ := t.keep hC5 hn5
  obtain ⟨hC6', hn6'⟩ := t.keep hC6 hn6
  obtain ⟨hrT', hnT'⟩ := t.row hrT hnT
  clear hC5 hn5 hC6 hn6 hrT hnT t
  have hC5 := hC5'
  have hn5 := hn5'
  have hC6 := hC6'
  have hn6 := hn6'
  have hrT := hrT'
  have hnT := hnT'
  clear hC5' hn5' hC6' hn6' hrT' hnT'
  refine WL.c rfl (o_call Try.call10 (lc rfl ln) ((num_spec _ _).mono ?_))
  rintro v46 w46 ⟨rfl, hw46⟩
  replace hw46 := hw46.symm
  subst hw46
  refine WL.c rfl (o_ne rfl rfl ?_)
  refine WL.c rfl (o_mvh (show _ = Value.bool _ from rfl) ?_)
  refine WL.g rfl (by first | decide | (simp [hsa]; done) | (rw [hsa]; decide) | (rw [hsa]; simp; done)) rfl (o_mvh (by first | exact (show _ = Value.pointer _ from rfl) | exact rfl) ?_)
  refine WL.g rfl (by first | decide | (simp [hsa]; done) | (rw [hsa]; decide) | (rw [hsa]; simp; done)) rfl (o_ldA TI39 rfl rfl (show Cells _ c6 0 (fcells fb (.slice (some ⟨cT, 0, none⟩) 2 2)) from Cells.of hC6 0 _ (by simp)) rfl ?_)
  refine WL.g rfl (by first | decide | (simp [hsa]; done) | (rw [hsa]; decide) | (rw [hsa]; simp; done)) rfl (o_call Try.call16 (lc rfl (lc rfl ln)) ((push_spec w0.heap.size w0.heap.size 2 1 [fa] _ _ fb (.slice (some ⟨cT, 0, none⟩) 2 2) _ h (Sl.own hrT) (by simp [fb])).mono ?_))
  rintro v51 w51 ⟨rfl, lv51, V51, t⟩
  rw [pushB] at t ⊢
  replace t : Turn _ _ _ _ 2 1 [fa] _ _ 2 [fa, fb] lv51 V51 := t
  replace hx := t.ext hx (Nat.le_refl _) h
  replace h := t.stk
  obtain ⟨hC5', hn5'⟩ := t.keep hC5 hn5
  obtain ⟨hC6', hn6'⟩ := t.keep hC6 hn6
  obtain ⟨hrT', hnT'⟩ := t.row hrT hnT
  clear hC5 hn5 hC6 hn6 hrT hnT t
  have hC5 := hC5'
  have hn5 := hn5'
  have hC6 := hC6'
  have hn6 := hn6'
  have hrT := hrT'
  have hnT := hnT'
  clear hC5' hn5' hC6' hn6' hrT' hnT'
  refine WL.g rfl (by first | decide | (simp [hsa]; done) | (rw [hsa]; decide) | (rw [hsa]; simp; done)) rfl (o_call Try.call10 (lc rfl ln) ((num_spec _ _).mono ?_))
  rintro v52 w52 ⟨rfl, hw52⟩
  replace hw52 := hw52.symm
  subst hw52
  refine WL.g rfl (by first | decide | (simp [hsa]; done) | (rw [hsa]; decide) | (rw [hsa]; simp; done)) rfl (o_ne rfl rfl ?_)
  refine WL.c rfl (o_pickO rfl rfl ?_)
  refine WL.c rfl (o_mvh (show _ = Value.bool _ from rfl) ?_)
  refine WL.g rfl (by first | decide | (simp [hsa]; done) | (rw [hsa]; decide) | (rw [hsa]; simp; done)) rfl (o_mvh (by first | exact (show _ = Value.pointer _ from rfl) | exact rfl) ?_)
  refine WL.g rfl (by first | decide | (simp [hsa]; done) | (rw [hsa]; decide) | (rw [hsa]; simp; done)) rfl (o_ldA TI39 rfl rfl (show Cells _ c5 0 (fcells fa (.slice none 0 0)) from Cells.of hC5 0 _ (by simp)) rfl ?_)
  refine WL.g rfl (by first | decide | (simp [hsa]; done) | (rw [hsa]; decide) | (rw [hsa]; simp; done)) rfl (o_call Try.call16 (lc rfl (lc rfl ln)) ((push_spec w0.heap.size w0.heap.size 2 2 [fa, fb] _ _ fa (.slice none 0 0) _ h (Sl.nil _ _) (by simp [fa])).mono ?_))
  rintro v58 w58 ⟨rfl, lv58, V58, t⟩
  rw [pushC] at t ⊢
  replace t : Turn _ _ _ _ 2 2 [fa, fb] _ _ 2 [fa, fb] lv58 V58 := t
  replace hx := t.ext hx (Nat.le_refl _) h
  replace h := t.stk
  obtain ⟨hC5', hn5'⟩ := t.keep hC5 hn5
  obtain ⟨hC6', hn6'⟩ := t.keep hC6 hn6
  obtain ⟨hrT', hnT'⟩ := t.row hrT hnT
  clear hC5 hn5 hC6 hn6 hrT hnT t
  have hC5 := hC5'
  have hn5 := hn5'
  have hC6 := hC6'
  have hn6 := hn6'
  have hrT := hrT'
  have hnT := hnT'
  clear hC5' hn5' hC6' hn6' hrT' hnT'
  refine WL.g rfl (by first | decide | (simp [hsa]; done) | (rw [hsa]; decide) | (rw [hsa]; simp; done)) rfl (o_call Try.call10 (lc rfl ln) ((num_spec _ _).mono ?_))
  rintro v59 w59 ⟨rfl, hw59⟩
  replace hw59 := hw59.symm
  subst hw59
  refine WL.g rfl (by first | decide | (simp [hsa]; done) | (rw [hsa]; decide) | (rw [hsa]; simp; done)) rfl (o_ne rfl rfl ?_)
  refine WL.c rfl (o_pickO rfl rfl ?_)
  refine WL.c rfl (o_mvh (show _ = Value.bool _ from rfl) ?_)
  refine WL.g rfl (by first | decide | (simp [hsa]; done) | (rw [hsa]; decide) | (rw [hsa]; simp; done)) rfl (o_mvh (by first | exact (show _ = Value.pointer _ from rfl) | exact rfl) ?_)
  refine WL.g rfl (by first | decide | (simp [hsa]; done) | (rw [hsa]; decide) | (rw [hsa]; simp; done)) rfl (o_call Try.call11 (lc rfl ln) ((len_spec w0.heap.size w0.heap.size 2 2 [fa, fb] _ _ _ h).mono ?_))
  rintro v64 w64 ⟨rfl, hw64⟩
  replace hw64 := hw64.symm
  subst hw64
  refine WL.g rfl (by first | decide | (simp [hsa]; done) | (rw [hsa]; decide) | (rw [hsa]; simp; done)) rfl (o_ne rfl rfl ?_)
  refine WL.c rfl (o_pickO rfl rfl ?_)
  refine WL.c rfl (o_mvh (show _ = Value.bool _ from rfl) ?_)
  refine WL.g rfl (by first | decide | (simp [hsa]; done) | (rw [hsa]; decide) | (rw [hsa]; simp; done)) rfl (o_mvh (by first | exact (show _ = Value.pointer _ from rfl) | exact rfl) ?_)
  refine WL.g rfl (by first | decide | (simp [hsa]; done) | (rw [hsa]; decide) | (rw [hsa]; simp; done)) rfl (o_call Try.call12 (lc rfl ln) ((high_spec w0.heap.size w0.heap.size 2 2 [fa, fb] _ _ _ h).mono ?_))
  rintro v69 w69 ⟨rfl, hw69⟩
  replace hw69 := hw69.symm
  subst hw69
  refine WL.g rfl (by first | decide | (simp [hsa]; done) | (rw [hsa]; decide) | (rw [hsa]; simp; done)) rfl (o_ne rfl rfl ?_)
  refine WL.c rfl (o_pickO rfl rfl ?_)
  refine WL.c rfl (o_mvh (show _ = Value.bool _ from rfl) ?_)
  refine WL.g rfl (by first | decide | (simp [hsa]; done) | (rw [hsa]; decide) | (rw [hsa]; simp; done)) rfl (o_mvh (by first | exact (show _ = Value.pointer _ from rfl) | exact rfl) ?_)
  refine WL.g rfl (by first | decide | (simp [hsa]; done) | (rw [hsa]; decide) | (rw [hsa]; simp; done)) rfl (o_call Try.call22 (lc rfl ln) ((slots_spec w0.heap.size w0.heap.size 2 2 [fa, fb] _ _ _ h).mono ?_))
  rintro v74 w74 ⟨rfl, hx74⟩
  replace h := h.ext hx74
  replace hx := hx.tr hx74
  replace hC5 := hx74.blk hC5 (fun h => h)
  replace hC6 := hx74.blk hC6 (fun h => h)
  replace hrT := own_ext hrT hx74
  refine WL.g rfl (by first | decide | (simp [hsa]; done) | (rw [hsa]; decide) | (rw [hsa]; simp; done)) rfl (o_ne rfl rfl ?_)
  refine WL.c rfl (o_pickO rfl rfl ?_)
  refine WL.nil ?_
  refine W.condF' rfl (by first | decide | (simp [hsa]; done) | (rw [hsa]; decide) | (rw [hsa]; simp; done)) ?_
  refine W.skip ?_
  refine W.seq ?_
  refine W.region ?_
  refine WL.c rfl (o_mvh (by first | exact (show _ = Value.pointer _ from rfl) | exact rfl) ?_)
  refine WL.c rfl (o_call Try.call26 (lc rfl (lc rfl ln)) ((slot_spec w0.heap.size w0.heap.size 2 2 [fa, fb] _ _ 1 _ h).mono ?_))
  rintro v79 w79 ⟨rfl, hx79⟩
  rw [slotA]
  replace h := h.ext hx79
  replace hx := hx.tr hx79
  replace hC5 := hx79.blk hC5 (fun h => h)
  replace hC6 := hx79.blk hC6 (fun h => h)
  replace hrT := own_ext hrT hx79
  refine WL.c rfl (o_mvh (by first | exact (show _ = Value.tuple _ from rfl) | exact rfl) ?_)
  refine WL.c rfl (o_ext rfl rfl ?_)
  refine WL.c rfl (o_ext rfl rfl ?_)
  refine WL.c rfl (o_ash (show _ = Value.int _ _ from rfl) ?_)
  refine WL.c rfl (o_ash (show _ = Value.int _ _ from rfl) ?_)
  refine WL.nil ?_
  refine W.seq ?_
  refine Exists.elim exA ?_
  intro sv hsv0
  have hrds := rdA hsv0
  have hsa := hsv0.trans saveA
  have hsl := slA hsv0
  refine W.region ?_
  refine WL.c rfl (o_mvh (by first | exact (show _ = Value.pointer _ from rfl) | exact rfl) ?_)
  refine WL.c rfl (o_call Try.call8 (lc rfl ln) ((save_spec' w0.heap.size w0.heap.size 2 2 [fa, fb] _ _ _ h hwA (by decide) sv hsv0).mono ?_))
  rintro v83 w83 ⟨g, cap, rfl, hsv, hSv, hx83⟩
  replace h := h.ext hx83
  replace hx := hx.tr hx83
  replace hC5 := hx83.blk hC5 (fun h => h)
  replace hC6 := hx83.blk hC6 (fun h => h)
  replace hrT := own_ext hrT hx83
  refine WL.c rfl (o_ash (by first | exact (show _ = Value.slice _ _ _ from rfl) | exact rfl) ?_)
  refine WL.nil ?_
  refine W.seq ?_
  refine W.region ?_
  refine WL.c rfl (o_mvh (by first | exact (show _ = Value.slice _ _ _ from rfl) | exact rfl) ?_)
  refine WL.c rfl (o_call Try.call9 (lc rfl ln) ((load_spec _ sv _ hSv hsl).mono ?_))
  rintro v86 w86 ⟨hok, -⟩
  obtain ⟨q, lq, Vq, rfl, hq, hy⟩ := hok _ _ hrds
  replace hq : Stk w86 w83.heap.size q 2 2 [fa, fb] lq Vq := hq
  refine WL.c rfl (o_mvh (by first | exact (show _ = Value.tuple _ from rfl) | exact rfl) ?_)
  refine WL.c rfl (o_ext rfl rfl ?_)
  refine WL.c rfl (o_ext rfl rfl ?_)
  refine WL.c rfl (o_alB TI31 ?_)
  have hy0 := hy.size
  intro w11 hC11 hx11 hs11
  replace hy := hy.tr hx11
  replace hq := hq.ext hx11
  refine WL.c rfl (o_ash (by first | exact (show _ = Value.pointer _ from rfl) | exact rfl) ?_)
  refine WL.u (o_stA TI31 rfl (show _ = Value.agg #[.int .i64 0, .int .i64 0] from rfl) rfl rfl hC11 rfl ?_)
  intro w12 hB11 ho11 hs12
  replace hy := hy.trans' ho11 (fun _ h => h) (fun k hk he => by omega)
  replace hq := hq.only ho11 (fun k hk he => by subst he; rcases hk with hk | hk | ⟨j, hj, hk⟩; rw [hk, hq.cell] at hC11; cases hC11; exact own_off hq.rows.row hC11 (by decide) hk; exact own_off (hq.rows.tabs.row j hj) hC11 (by decide) hk)
  refine WL.nil ?_
  refine W.seq ?_
  refine W.seq ?_
  refine W.region ?_
  refine WL.c rfl (o_mvh (show _ = Value.int _ _ from rfl) ?_)
  refine WL.c rfl (o_ne rfl rfl ?_)
  refine WL.c rfl (o_mvh (show _ = Value.bool _ from rfl) ?_)
  refine WL.g rfl (by first | decide | (simp [hsa]; done) | (rw [hsa]; decide) | (rw [hsa]; simp; done)) rfl (o_mvh (show _ = Value.int _ _ from rfl) ?_)
  refine WL.g rfl (by first | decide | (simp [hsa]; done) | (rw [hsa]; decide) | (rw [hsa]; simp; done)) rfl (o_call Try.call10 (lc rfl ln) ((num_spec _ _).mono ?_))
  rintro v93 w93 ⟨rfl, hw93⟩
  replace hw93 := hw93.symm
  subst hw93
  refine WL.g rfl (by first | decide | (simp [hsa]; done) | (rw [hsa]; decide) | (rw [hsa]; simp; done)) rfl (o_ne rfl rfl ?_)
  refine WL.c rfl (o_pickO rfl rfl ?_)
  refine WL.c rfl (o_mvh (show _ = Value.bool _ from rfl) ?_)
  refine WL.g rfl (by first | decide | (simp [hsa]; done) | (rw [hsa]; decide) | (rw [hsa]; simp; done)) rfl (o_mvh (by first | exact (show _ = Value.slice _ _ _ from rfl) | exact rfl) ?_)
  refine WL.g rfl (by first | decide | (simp [hsa]; done) | (rw [hsa]; decide) | (rw [hsa]; simp; done)) rfl (o_cvBS TI23 TI5 TI9 rfl (Sl.ext hSv hy) ?_)
  refine WL.g rfl (by first | decide | (simp [hsa]; done) | (rw [hsa]; decide) | (rw [hsa]; simp; done)) rfl (o_neT rfl rfl ?_)
  refine WL.c rfl (o_pickO rfl rfl ?_)
  refine WL.c rfl (o_mvh (show _ = Value.bool _ from rfl) ?_)
  refine WL.g rfl (by first | decide | (simp [hsa]; done) | (rw [hsa]; decide) | (rw [hsa]; simp; done)) rfl (o_mvh (by first | exact (show _ = Value.pointer _ from rfl) | exact rfl) ?_)
  refine WL.g rfl (by first | decide | (simp [hsa]; done) | (rw [hsa]; decide) | (rw [hsa]; simp; done)) rfl (o_eqN (p := some ⟨q, 0, none⟩) TI25 rfl rfl ?_)
  refine WL.c rfl (o_pickO rfl rfl ?_)
  refine WL.c rfl (o_mvh (show _ = Value.bool _ from rfl) ?_)
  refine WL.g rfl (by first | decide | (simp [hsa]; done) | (rw [hsa]; decide) | (rw [hsa]; simp; done)) rfl (o_fa 0 TI31 rfl TI29 rfl rfl ?_)
  refine WL.g rfl (by first | decide | (simp [hsa]; done) | (rw [hsa]; decide) | (rw [hsa]; simp; done)) rfl (o_ld TI29 rfl rfl (cell_of hB11 rfl) ?_)
  refine WL.g rfl (by first | decide | (simp [hsa]; done) | (rw [hsa]; decide) | (rw [hsa]; simp; done)) rfl (o_call Try.call10 (lc rfl ln) ((num_spec _ _).mono ?_))
  rintro v108 w108 ⟨rfl, hw108⟩
  replace hw108 := hw108.symm
  subst hw108
  refine WL.g rfl (by first | decide | (simp [hsa]; done) | (rw [hsa]; decide) | (rw [hsa]; simp; done)) rfl (o_ne rfl rfl ?_)
  refine WL.c rfl (o_pickO rfl rfl ?_)
  refine WL.nil ?_
  refine W.condF' rfl (by first | decide | (simp [hsa]; done) | (rw [hsa]; decide) | (rw [hsa]; simp; done)) ?_
  refine W.skip ?_
  refine W.seq ?_
  refine W.region ?_
  refine WL.c rfl (o_mvh (by first | exact (show _ = Value.pointer _ from rfl) | exact rfl) ?_)
  refine WL.c rfl (o_call Try.call14 (lc rfl ln) ((pop_spec w83.heap.size q 2 2 [fa, fb] lq Vq _ hq).mono ?_))
  rintro v113 w113 ⟨tv, rfl, hcl, lq2, Vq2, tq, -⟩
  replace hy := tq.ext hy (Nat.le_refl _) hq
  obtain ⟨ta, tc, rfl, hct⟩ := hcl
  have hct0 := hct
  refine WL.c rfl (o_mvh (by first | exact (show _ = Value.tuple _ from rfl) | exact rfl) ?_)
  refine WL.c rfl (o_ext rfl rfl ?_)
  refine WL.c rfl (o_ext rfl rfl ?_)
  refine WL.c rfl (o_alB TI39 ?_)
  intro w13 hC12 hx13 hs13
  have hct1 := own_ext hct hx13
  refine WL.u (o_stA TI39 rfl (show _ = Value.agg (fcells fb (.slice ta fb.tab.length fb.tab.length)).toArray from rfl) rfl rfl hC12 rfl ?_)
  intro w14 hB12 ho12 hs14
  have hct2 := own_only hct1 ho12 (fun k hk he => by subst he; exact own_off hct1 hC12 (by decide) hk)
  have hy2 : Ext w83 w14 := (hy.tr hx13).trans' ho12 (fun _ h => h) (fun k hk he => by have := hy.size; omega)
  obtain ⟨c12, hc12⟩ : ∃ c12, c12 = w113.heap.size := ⟨_, rfl⟩
  rw [← hc12] at hB12 ⊢
  have hcl : In w14 (.slice ta fb.tab.length fb.tab.length) fb.tab := Clipd.In (H := w83.heap.size) ⟨ta, tc, rfl, hct2⟩
  replace h := h.ext hy2
  replace hx := hx.tr hy2
  replace hC5 := hy2.blk hC5 (fun h => h)
  replace hC6 := hy2.blk hC6 (fun h => h)
  replace hrT := own_ext hrT hy2
  refine WL.c rfl (o_ash (show _ = Value.int _ _ from rfl) ?_)
  refine WL.nil ?_
  refine W.seq ?_
  refine W.region ?_
  refine WL.c rfl (o_mvh (by first | exact (show _ = Value.pointer _ from rfl) | exact rfl) ?_)
  refine WL.c rfl (o_call Try.call28 (lc rfl ln) ((head_spec w0.heap.size w0.heap.size 2 2 [fa, fb] _ _ _ h).mono ?_))
  rintro v118 w118 ⟨rfl, hx118⟩
  replace h := h.ext hx118
  replace hx := hx.tr hx118
  replace hC5 := hx118.blk hC5 (fun h => h)
  replace hC6 := hx118.blk hC6 (fun h => h)
  replace hrT := own_ext hrT hx118
  replace hcl := Sl.ext hcl hx118
  replace hB12 := hx118.blk hB12 (fun h => h)
  have h118 := h
  have hx0 := hx
  have hC5o := hC5
  have hC6o := hC6
  have hrTo := hrT
  have hclo := hcl
  have hB12o := hB12
  have h118n : ∀ k, w118.heap.size ≤ k → ¬ SF w0.heap.size _ _ [fa, fb].length k := fun k hk hF => by have := (h118.lt k hF).2; omega
  refine WL.c rfl (o_mvh (by first | exact (show _ = Value.tuple _ from rfl) | exact rfl) ?_)
  refine WL.c rfl (o_ext rfl rfl ?_)
  refine WL.c rfl (o_ext rfl rfl ?_)
  refine WL.c rfl (o_alB TI39 ?_)
  intro w15 hC14 hx15 hs15
  refine WL.u (o_stA TI39 rfl (show _ = Value.agg (fcells fb (.slice none 0 0)).toArray from rfl) rfl rfl hC14 rfl ?_)
  intro w16 hB14 ho14 hs16
  obtain ⟨c14, hc14⟩ : ∃ c14, c14 = w118.heap.size := ⟨_, rfl⟩
  rw [← hc14] at hB14 ho14 hC14 ⊢
  have hS14 : ∀ {o : Obj} {k : Nat}, w118.heap[k]? = some o → k ≠ c14 := fun hk he => by have := (Array.getElem?_eq_some_iff.1 hk).1; omega
  have hx14 : Ext w118 w16 := hx15.trans' ho14 (fun _ h => h) (fun k hk he => by omega)
  have hn14 : ¬ SF w0.heap.size _ _ [fa, fb].length c14 := h118n c14 (by omega)
  replace h := h118.ext hx14
  replace hx := hx0.tr hx14
  replace hC5 := hx14.blk hC5o (fun h => h)
  replace hC6 := hx14.blk hC6o (fun h => h)
  replace hrT := own_ext hrTo hx14
  replace hcl := Sl.ext hclo hx14
  replace hB12 := hx14.blk hB12o (fun h => h)
  refine WL.c rfl (o_ash (show _ = Value.int _ _ from rfl) ?_)
  refine WL.nil ?_
  refine W.seq ?_
  refine W.region ?_
  refine WL.c rfl (o_mvh (show _ = Value.int _ _ from rfl) ?_)
  refine WL.c rfl (o_call Try.call10 (lc rfl ln) ((num_spec _ _).mono ?_))
  rintro v122 w122 ⟨rfl, hw122⟩
  replace hw122 := hw122.symm
  subst hw122
  refine WL.c rfl (o_eq rfl rfl ?_)
  refine WL.c rfl (o_mvh (show _ = Value.bool _ from rfl) ?_)
  refine WL.g rfl (by first | decide | (simp [hsa]; done) | (rw [hsa]; decide) | (rw [hsa]; simp; done)) rfl (o_ldA TI39 rfl rfl (show Cells _ c12 0 (fcells fb (.slice ta fb.tab.length fb.tab.length)) from Cells.of hB12 0 _ (by simp)) rfl ?_)
  refine WL.g rfl (by first | decide | (simp [hsa]; done) | (rw [hsa]; decide) | (rw [hsa]; simp; done)) rfl (o_ldA TI39 rfl rfl (show Cells _ c6 0 (fcells fb (.slice (some ⟨cT, 0, none⟩) 2 2)) from Cells.of hC6 0 _ (by simp)) rfl ?_)
  refine WL.g rfl (by first | decide | (simp [hsa]; done) | (rw [hsa]; decide) | (rw [hsa]; simp; done)) rfl (o_call Try.call15 (lc rfl (lc rfl ln)) ((same_spec fb (.slice ta fb.tab.length fb.tab.length) (.slice (some ⟨cT, 0, none⟩) 2 2) _ hcl (Sl.own hrT) (by simp [fb])).mono ?_))
  rintro v127 w127 ⟨rfl, hx127⟩
  replace h := h.ext hx127
  replace hx := hx.tr hx127
  replace hC5 := hx127.blk hC5 (fun h => h)
  replace hC6 := hx127.blk hC6 (fun h => h)
  replace hrT := own_ext hrT hx127
  replace hB14 := hx127.blk hB14 (fun h => h)
  refine WL.c rfl (o_pickA rfl rfl ?_)
  refine WL.c rfl (o_mvh (show _ = Value.bool _ from rfl) ?_)
  refine WL.g rfl (by first | decide | (simp [hsa]; done) | (rw [hsa]; decide) | (rw [hsa]; simp; done)) rfl (o_mvh (show _ = Value.int _ _ from rfl) ?_)
  refine WL.g rfl (by first | decide | (simp [hsa]; done) | (rw [hsa]; decide) | (rw [hsa]; simp; done)) rfl (o_call Try.call10 (lc rfl ln) ((num_spec _ _).mono ?_))
  rintro v131 w131 ⟨rfl, hw131⟩
  replace hw131 := hw131.symm
  subst hw131
  refine WL.g rfl (by first | decide | (simp [hsa]; done) | (rw [hsa]; decide) | (rw [hsa]; simp; done)) rfl (o_eq rfl rfl ?_)
  refine WL.c rfl (o_pickA rfl rfl ?_)
  refine WL.c rfl (o_mvh (show _ = Value.bool _ from rfl) ?_)
  refine WL.g rfl (by first | decide | (simp [hsa]; done) | (rw [hsa]; decide) | (rw [hsa]; simp; done)) rfl (o_fa 6 TI39 rfl TI37 rfl rfl ?_)
  refine WL.g rfl (by first | decide | (simp [hsa]; done) | (rw [hsa]; decide) | (rw [hsa]; simp; done)) rfl (o_ld TI37 rfl rfl (cell_of hB14 rfl) ?_)
  refine WL.g rfl (by first | decide | (simp [hsa]; done) | (rw [hsa]; decide) | (rw [hsa]; simp; done)) rfl (o_len TI37 rfl ?_)
  refine WL.g rfl (by first | decide | (simp [hsa]; done) | (rw [hsa]; decide) | (rw [hsa]; simp; done)) rfl (o_eq rfl rfl ?_)
  refine WL.c rfl (o_pickA rfl rfl ?_)
  refine WL.c rfl (o_mvh (show _ = Value.bool _ from rfl) ?_)
  refine WL.g rfl (by first | decide | (simp [hsa]; done) | (rw [hsa]; decide) | (rw [hsa]; simp; done)) rfl (o_fa 5 TI39 rfl TI3 rfl rfl ?_)
  refine WL.g rfl (by first | decide | (simp [hsa]; done) | (rw [hsa]; decide) | (rw [hsa]; simp; done)) rfl (o_ld TI3 rfl rfl (cell_of hB14 rfl) ?_)
  refine WL.g rfl (by first | decide | (simp [hsa]; done) | (rw [hsa]; decide) | (rw [hsa]; simp; done)) rfl (o_eq rfl rfl ?_)
  refine WL.c rfl (o_pickA rfl rfl ?_)
  refine WL.c rfl (o_mvh (show _ = Value.bool _ from rfl) ?_)
  refine WL.g rfl (by first | decide | (simp [hsa]; done) | (rw [hsa]; decide) | (rw [hsa]; simp; done)) rfl (o_mvh (by first | exact (show _ = Value.pointer _ from rfl) | exact rfl) ?_)
  refine WL.g rfl (by first | decide | (simp [hsa]; done) | (rw [hsa]; decide) | (rw [hsa]; simp; done)) rfl (o_ldA TI39 rfl rfl (show Cells _ c5 0 (fcells fa (.slice none 0 0)) from Cells.of hC5 0 _ (by simp)) rfl ?_)
  refine WL.g rfl (by first | decide | (simp [hsa]; done) | (rw [hsa]; decide) | (rw [hsa]; simp; done)) rfl (o_call Try.call23 (lc rfl (lc rfl ln)) ((go_spec w0.heap.size w0.heap.size 2 2 [fa, fb] _ _ fa (.slice none 0 0) _ h).mono ?_))
  rintro v148 w148 ⟨rfl, lv148, V148, t⟩
  rw [goA] at t ⊢
  replace t : Turn _ _ _ _ 2 2 [fa, fb] _ _ 2 [fa, fb2] lv148 V148 := t
  replace hx := t.ext hx (Nat.le_refl _) h
  replace h := t.stk
  obtain ⟨hC5', hn5'⟩ := t.keep hC5 hn5
  obtain ⟨hC6', hn6'⟩ := t.keep hC6 hn6
  obtain ⟨hrT', hnT'⟩ := t.row hrT hnT
  clear hC5 hn5 hC6 hn6 hrT hnT t
  have hC5 := hC5'
  have hn5 := hn5'
  have hC6 := hC6'
  have hn6 := hn6'
  have hrT := hrT'
  have hnT := hnT'
  clear hC5' hn5' hC6' hn6' hrT' hnT'
  refine WL.g rfl (by first | decide | (simp [hsa]; done) | (rw [hsa]; decide) | (rw [hsa]; simp; done)) rfl (o_call Try.call10 (lc rfl ln) ((num_spec _ _).mono ?_))
  rintro v149 w149 ⟨rfl, hw149⟩
  replace hw149 := hw149.symm
  subst hw149
  refine WL.g rfl (by first | decide | (simp [hsa]; done) | (rw [hsa]; decide) | (rw [hsa]; simp; done)) rfl (o_eq rfl rfl ?_)
  refine WL.c rfl (o_pickA rfl rfl ?_)
  refine WL.c rfl (o_mvh (show _ = Value.bool _ from rfl) ?_)
  refine WL.g rfl (by first | decide | (simp [hsa]; done) | (rw [hsa]; decide) | (rw [hsa]; simp; done)) rfl (o_mvh (by first | exact (show _ = Value.pointer _ from rfl) | exact rfl) ?_)
  refine WL.g rfl (by first | decide | (simp [hsa]; done) | (rw [hsa]; decide) | (rw [hsa]; simp; done)) rfl (o_call Try.call25 (lc rfl (lc rfl ln)) ((mark_spec w0.heap.size w0.heap.size 2 2 [fa, fb2] _ _ 301 _ h).mono ?_))
  rintro v154 w154 ⟨rfl, lv154, V154, t⟩
  rw [markA] at t ⊢
  replace t : Turn _ _ _ _ 2 2 [fa, fb2] _ _ 2 [fa, fb3] lv154 V154 := t
  replace hx := t.ext hx (Nat.le_refl _) h
  replace h := t.stk
  obtain ⟨hC5', hn5'⟩ := t.keep hC5 hn5
  obtain ⟨hC6', hn6'⟩ := t.keep hC6 hn6
  obtain ⟨hrT', hnT'⟩ := t.row hrT hnT
  clear hC5 hn5 hC6 hn6 hrT hnT t
  have hC5 := hC5'
  have hn5 := hn5'
  have hC6 := hC6'
  have hn6 := hn6'
  have hrT := hrT'
  have hnT := hnT'
  clear hC5' hn5' hC6' hn6' hrT' hnT'
  refine WL.g rfl (by first | decide | (simp [hsa]; done) | (rw [hsa]; decide) | (rw [hsa]; simp; done)) rfl (o_call Try.call10 (lc rfl ln) ((num_spec _ _).mono ?_))
  rintro v155 w155 ⟨rfl, hw155⟩
  replace hw155 := hw155.symm
  subst hw155
  refine WL.g rfl (by first | decide | (simp [hsa]; done) | (rw [hsa]; decide) | (rw [hsa]; simp; done)) rfl (o_eq rfl rfl ?_)
  refine WL.c rfl (o_pickA rfl rfl ?_)
  refine WL.c rfl (o_mvh (show _ = Value.bool _ from rfl) ?_)
  refine WL.g rfl (by first | decide | (simp [hsa]; done) | (rw [hsa]; decide) | (rw [hsa]; simp; done)) rfl (o_mvh (by first | exact (show _ = Value.pointer _ from rfl) | exact rfl) ?_)
  refine WL.g rfl (by first | decide | (simp [hsa]; done) | (rw [hsa]; decide) | (rw [hsa]; simp; done)) rfl (o_call Try.call22 (lc rfl ln) ((slots_spec w0.heap.size w0.heap.size 2 2 [fa, fb3] _ _ _ h).mono ?_))
  rintro v160 w160 ⟨rfl, hx160⟩
  replace h := h.ext hx160
  replace hx := hx.tr hx160
  replace hC5 := hx160.blk hC5 (fun h => h)
  replace hC6 := hx160.blk hC6 (fun h => h)
  replace hrT := own_ext hrT hx160
  refine WL.g rfl (by first | decide | (simp [hsa]; done) | (rw [hsa]; decide) | (rw [hsa]; simp; done)) rfl (o_eq rfl rfl ?_)
  refine WL.c rfl (o_pickA rfl rfl ?_)
  refine WL.c rfl (o_ash (show _ = Value.bool _ from rfl) ?_)
  refine WL.nil ?_
  refine W.ret ?_
  refine ret1v rfl (show _ = Value.bool _ from rfl) ?_
  exact ⟨congrArg Value.bool (by decide), hx⟩
end Go.Proofs.Ytdiaeafjjffjmaa
