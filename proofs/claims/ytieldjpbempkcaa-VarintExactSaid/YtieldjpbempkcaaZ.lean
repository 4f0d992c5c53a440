/-
  Walks. Written by program out of specs of mine.
-/
import Derived.Test.YtieldjpbempkcaaY
import Derived.Test.YtieldjpbempkcaaBook
set_option linter.unusedSimpArgs false
set_option linter.unusedVariables false
namespace Go.Proofs.Ytieldjpbempkcaa
open Go Go.Vc Go.RowKit Go.Proofs

theorem rload_put_aux {n : Nat} (hn : n < 2 ^ 64) (k m : Nat) (hk : k < (vput n).length) (h : Rdn (vput n) k m) : rload [] false (vput n) = (0, vput n, true) ∧ vnum 0 0 (vput n) = n := by
  have hv : vget 0 0 (vput n) = (n, vsize n, 0) := by have := vget_put hn []; rwa [List.append_nil] at this
  have hl := vput_len n
  rcases h.three hk with ⟨hG, -⟩ | ⟨hG, hdo, her, hne, hov⟩ | ⟨hR, hz, -⟩
  · rw [hG] at hv; simp at hv
  · rw [hG] at hv
    simp only [Prod.mk.injEq] at hv
    have hk1 : k + 1 = (vput n).length := by have := hv.2.1; omega
    have ht : (vput n).take (k + 1) = vput n := by rw [hk1, List.take_length]
    rw [ht] at hne hv
    refine ⟨?_, hv.1⟩
    have hs : vput n = (vput n).take k ++ [(vput n)[k]] := by rw [← take_next hk, ht]
    have h1 := rload_snoc ((vput n).take k) [] false (vput n)[k] (by rw [h.load])
    rw [← hs, h.load] at h1
    rw [h1]
    show rload ((vput n).take k) false [(vput n)[k]] = _
    rw [rload, if_pos her, rload, hne, hov]
  · rw [hv] at hz
    have : k + 1 < vsize n := hz rfl
    exact rload_put_aux hn (k + 1) _ (by omega) hR
termination_by (vput n).length - k
theorem rload_put {n : Nat} (hn : n < 2 ^ 64) : rload [] false (vput n) = (0, vput n, true) ∧ vnum 0 0 (vput n) = n :=
  rload_put_aux hn 0 0 (by have := vsize_pos n; rw [vput_len]; omega) (Rdn.zero _)
/-- where the k-th of what is kept, and of the copies, stands in the order of making -/
def gi (j : Nat) : Nat := j + 4 * (j / 4)
def wi (j : Nat) : Nat := gi j + 4
def cz (a b : List UInt8) (j : Nat) : List UInt8 := if j % 4 = 1 then b else a
def mk8 (q : Nat) : UInt8 := UInt8.ofNat (100 + q)
def full (a b : List UInt8) (q : Nat) : List UInt8 := List.replicate (cz a b q).length (mk8 q)
theorem cz_gi (a b : List UInt8) (j : Nat) : cz a b (gi j) = cz a b j := by unfold cz gi; rw [show (j + 4 * (j / 4)) % 4 = j % 4 by omega]
theorem cz_wi (a b : List UInt8) (j : Nat) : cz a b (wi j) = cz a b j := by unfold cz wi gi; rw [show (j + 4 * (j / 4) + 4) % 4 = j % 4 by omega]
theorem gi_lt {t k : Nat} (hk : k < 4) : gi (4 * t + k) = 8 * t + k := by unfold gi; omega
theorem wi_lt {t k : Nat} (hk : k < 4) : wi (4 * t + k) = 8 * t + 4 + k := by unfold wi gi; omega
theorem gi_lt2 {q t : Nat} (h : q < 4 * t) : gi q < 8 * t := by unfold gi; omega
theorem wi_lt2 {q t : Nat} (h : q < 4 * t) : wi q < 8 * t := by unfold wi gi; omega
theorem gi_inj {q q' : Nat} (h : gi q = gi q') : q = q' := by unfold gi at h; omega
theorem gi_wi {q q' : Nat} : gi q ≠ wi q' := by unfold wi gi; omega
theorem list_snoc (V : Nat → Value) (f : Nat → Nat) (q : Nat) : (List.range (q + 1)).map (fun j => V (f j)) = (List.range q).map (fun j => V (f j)) ++ [V (f q)] := by rw [List.range_succ, List.map_append]; rfl
theorem list_congr {V V' : Nat → Value} {f : Nat → Nat} {q : Nat} (h : ∀ j, j < q → V' (f j) = V (f j)) : (List.range q).map (fun j => V' (f j)) = (List.range q).map (fun j => V (f j)) :=
  List.map_congr_left (fun j hj => h j (List.mem_range.1 hj))
theorem list_at {V : Nat → Value} {f : Nat → Nat} {q j : Nat} (h : j < q) : ((List.range q).map (fun j => V (f j)))[j]? = some (V (f j)) := by simp [h]
theorem rep_set (a : List UInt8) (c : UInt8) (i : Nat) (h : i < a.length) : (((List.replicate i c ++ a.drop i).map bv).set i (bv c)) = (List.replicate (i + 1) c ++ a.drop (i + 1)).map bv := by
  rw [← List.map_set]
  congr 1
  have hd := (List.getElem_cons_drop h).symm
  rw [List.set_append_right _ _ (by simp), List.length_replicate, Nat.sub_self, hd, List.set_cons_zero, List.replicate_succ', List.append_assoc]
  rfl
theorem mk8_toNat {q : Nat} (h : q < 12) : (mk8 q).toNat = 100 + q := by simp [mk8]; omega


theorem put_own {n : Nat} (hn : n < 2 ^ 64) (w0 : World) : Ca Try.prog 13 #[.int .u64 (n : Int)] w0 (fun v w' => Fresh w0 w' v (vput n)) :=
  (put_spec n hn w0).mono fun v w' ⟨b, hv, hb, hh, hx⟩ => by subst hv; exact put_fresh hb hh hn hx

set_option maxHeartbeats 4000000 in
theorem apart_walk (w0 : World) (n : Nat) (hn0 : n < 18446744073709551616) (m : Nat) (hm0 : m < 18446744073709551616) : Ca Try.prog 7 #[.int .u64 (n : Int), .int .u64 (m : Int)] w0 (fun v w' => v = .bool true ∧ Ext w0 w') := by
  have hn' : n < 2 ^ 64 := hn0
  have hm' : m < 2 ^ 64 := hm0
  obtain ⟨hld, hvn⟩ := rload_put hn'
  have hokn : RdOk (vput n) true := by have := rload_ok (vput n) [] false RdOk.new; rw [hld] at this; exact this
  have hna := vput_len n
  have hma := vput_len m
  have hn10 := vsize_10 hn'
  have hm10 := vsize_10 hm'
  have hn1 := vsize_pos n
  have hm1 := vsize_pos m
  generalize hpa : vput n = a at *
  generalize hpb : vput m = b at *
  have hcl : ∀ j, (cz a b j).length ≤ 10 ∧ 0 < (cz a b j).length := fun j => by unfold cz; split <;> omega
  refine Ca.of Try.func7 Try.ntmps7 rfl rfl ?_
  refine W.seq ?_
  refine W.region ?_
  refine WL.c rfl (o_as ?_)
  refine WL.nil ?_
  refine W.seq ?_
  refine W.seq ?_
  refine W.region ?_
  refine WL.c rfl (o_call Try.call8 ln ((awake_spec _).mono ?_))
  rintro v19 w19 ⟨rfl, hx⟩
  refine WL.c rfl (o_not' rfl ?_)
  refine WL.nil ?_
  refine W.condF' rfl (rfl) ?_
  refine W.skip ?_
  refine W.seq ?_
  refine W.region ?_
  refine WL.c rfl (o_mv ?_)
  refine WL.c rfl (o_call Try.call13 (lc rfl ln) ((put_spec n hn' _).mono ?_))
  rintro v23 w23 ⟨b23, hv23, hb23, hh23, hx23⟩
  subst hv23
  have hf23 := put_fresh hb23 hh23 hn' hx23
  replace hx := hx.tr hx23
  refine WL.c rfl (o_call Try.call18 (lc rfl ln) ((load_spec a _ _ (by have := hf23.by; rw [hpa] at this; exact this) (by rw [maxLen_eq]; omega)).mono ?_))
  rw [hld]
  rintro v24 w24 ⟨rfl, hr, hx24⟩
  replace hr : RdP w24 w23.heap.size a true := hr rfl
  replace hx := hx.tr hx24
  refine WL.c rfl (o_mv ?_)
  refine WL.c rfl (o_ext rfl rfl ?_)
  refine WL.c rfl (o_ext rfl rfl ?_)
  refine WL.c rfl (o_as ?_)
  refine WL.c rfl (o_as ?_)
  refine WL.nil ?_
  refine W.seq ?_
  refine W.seq ?_
  refine W.region ?_
  refine WL.c rfl (o_mv ?_)
  refine WL.c rfl (o_eqN (p := some ⟨_, 0, none⟩) TI25 rfl rfl ?_)
  refine WL.c rfl (o_mv ?_)
  refine WL.g rfl (rfl) rfl (o_mv ?_)
  refine WL.g rfl (rfl) rfl (o_call Try.call16 (lc rfl ln) ((num_spec _ _).mono ?_))
  rintro v31 w31 ⟨rfl, rfl⟩
  refine WL.g rfl (rfl) rfl (o_ne rfl rfl ?_)
  refine WL.c rfl (o_pickO rfl rfl ?_)
  refine WL.nil ?_
  refine W.condF' rfl (by simp) ?_
  refine W.skip ?_
  refine W.seq ?_
  have hz24 := (Array.getElem?_eq_some_iff.1 hr).1
  have hz0 := hx.size
  generalize hH0 : w31.heap.size = H0 at hz24 hz0
  have hxm := Only.refl No w31
  generalize hp : w23.heap.size = p at *
  refine W.region ?_
  refine WL.c rfl (o_as ?_)
  refine WL.nil ?_
  refine W.seq ?_
  refine W.region ?_
  refine WL.c rfl (o_as ?_)
  refine WL.nil ?_
  refine W.seq ?_
  refine W.seq ?_
  refine W.region ?_
  refine WL.c rfl (o_as ?_)
  refine WL.nil ?_
  refine W.block ?_
  refine W.loop (fun e w => ∃ (t : Nat) (V : Nat → Value) (vg vw : Value), t ≤ 3 ∧ e 0 = .int .u64 (n : Int) ∧ e 1 = .int .u64 (m : Int) ∧ e 5 = .pointer (some ⟨p, 0, none⟩) ∧ e 7 = vg ∧ e 8 = vw ∧ e 9 = .int .i64 (t : Int) ∧ Many w H0 5 1 (8 * t) V (fun j => (cz a b j).length) (fun j => (cz a b j).map bv) ∧ w.ownsRow H0 32 1 vg (4 * t) ((List.range (4 * t)).map fun j => V (gi j)) ∧ w.ownsRow H0 32 1 vw (4 * t) ((List.range (4 * t)).map fun j => V (wi j)) ∧ Dj vg vw ∧ H0 ≤ w.heap.size ∧ Ext w31 w) (fun e w => 3 - (intOf (e 9)).toNat) ?_ ?_
  · exact ⟨0, fun _ => undef, _, _, by omega, rfl, rfl, rfl, rfl, rfl, rfl, Many.zero, World.ownsRow_nil _ _ _ _, World.ownsRow_nil _ _ _ _, Dj.none, by omega, hxm⟩
  rintro e w ⟨t, V, vg, vw, ht, h0, h1, h5, h7, h8, h9, hM, hg, hw, hD, hzw, hxm⟩
  have hm9 := h9
  refine W.seq ?_
  refine W.seq ?_
  by_cases ht3 : t < 3
  · skip
    refine W.region ?_
    refine WL.c rfl (o_mvh h9 ?_)
    refine WL.c rfl (o_lt rfl rfl ?_)
    refine WL.nil ?_
    refine W.condT' rfl (by simp; omega) ?_
    refine W.skip ?_
    refine W.seq ?_
    refine W.block ?_
    refine W.seq ?_
    refine W.region ?_
    refine WL.c rfl (o_mvh h0 ?_)
    refine WL.c rfl (o_call Try.call13 (lc rfl ln) ((put_own hn' _).mono ?_))
    rw [hpa]
    rintro v39 w39 hf39
    have s39 := hM.freshC hf39.1 hf39.2 hzw (by unfold cz; rw [if_neg (by omega)])
    refine WL.c rfl (o_mvh h1 ?_)
    refine WL.c rfl (o_call Try.call13 (lc rfl ln) ((put_own hm' _).mono ?_))
    rw [hpb]
    rintro v41 w41 hf41
    have s41 := s39.freshC hf41.1 hf41.2 (by have := hf39.2.size; omega) (by unfold cz; rw [if_pos (by omega)])
    refine WL.c rfl (o_mvh h5 ?_)
    refine WL.c rfl (o_call Try.call19 (lc rfl ln) ((read_spec p a true _ (hr.ext (hxm.tr (hf39.2.tr hf41.2))) hokn).mono ?_))
    rintro v43 w43 hf43
    have s43 := s41.freshC hf43.1 hf43.2 (by have := hf39.2.size; have := hf41.2.size; omega) (by unfold cz; rw [if_neg (by omega)])
    refine WL.c rfl (o_mvh h0 ?_)
    refine WL.c rfl (o_call Try.call13 (lc rfl ln) ((put_own hn' _).mono ?_))
    rw [hpa]
    rintro v45 w45 hf45
    have s45 := s43.freshC hf45.1 hf45.2 (by have := hf39.2.size; have := hf41.2.size; have := hf43.2.size; omega) (by unfold cz; rw [if_neg (by omega)])
    have hyy := hf39.2.tr (hf41.2.tr (hf43.2.tr hf45.2))
    refine WL.c rfl (o_bsn (vs := [v39, v41, v43, v45]) (xs := [(.tmp 39), (.tmp 41), (.tmp 43), (.tmp 45)]) TI54 TI32 rfl (lc rfl (lc rfl (lc rfl (lc rfl ln)))) (by show List.all [v39, v41, v43, v45] (·.oneCell') = true; simp [own_one hf39.1, own_one hf41.1, own_one hf43.1, own_one hf45.1]) rfl (by decide) (by decide) ?_)
    have hlb : (w45.alloc (Obj.cells [v39, v41, v43, v45].toArray 32)).heap[w45.heap.size]? = some (.cells [v39, v41, v43, v45].toArray 32 (0, 0)) := heap_alloc_new _ _
    have hxl := Only.alloc w45 (Obj.cells [v39, v41, v43, v45].toArray 32)
    have hzl : (w45.alloc (Obj.cells [v39, v41, v43, v45].toArray 32)).heap.size = w45.heap.size + 1 := by show (Array.push _ _).size = _; simp
    generalize w45.alloc (Obj.cells [v39, v41, v43, v45].toArray 32) = w46 at hlb hxl hzl ⊢
    have hz45 := hyy.size
    obtain ⟨V4, hV4⟩ : ∃ V4 : Nat → Value, V4 = fun j => if j = 8 * t + 1 + 1 + 1 then v45 else if j = 8 * t + 1 + 1 then v43 else if j = 8 * t + 1 then v41 else if j = 8 * t then v39 else V j := ⟨_, rfl⟩
    replace s45 := s45.ext hxl
    rw [← hV4] at s45
    have eo : ∀ j, j < 8 * t → V4 j = V j := fun j hj => by rw [hV4]; dsimp only; rw [if_neg (by omega), if_neg (by omega), if_neg (by omega), if_neg (by omega)]
    have e0 : V4 (8 * t) = v39 := by rw [hV4]; dsimp only; rw [if_neg (by omega), if_neg (by omega), if_neg (by omega), if_pos rfl]
    have e1 : V4 (8 * t + 1) = v41 := by rw [hV4]; dsimp only; rw [if_neg (by omega), if_neg (by omega), if_pos rfl]
    have e2 : V4 (8 * t + 2) = v43 := by rw [hV4]; dsimp only; rw [if_neg (by omega), if_pos rfl]
    have e3 : V4 (8 * t + 3) = v45 := by rw [hV4]; dsimp only; rw [if_pos rfl]
    replace s45 : Many w46 H0 5 1 (8 * t + 4) V4 (fun j => (cz a b j).length) (fun j => (cz a b j).map bv) := s45
    have hl : w46.ownsRow H0 32 1 (.slice (some ⟨w45.heap.size, 0, none⟩) 4 4) 4 [V4 (8 * t), V4 (8 * t + 1), V4 (8 * t + 2), V4 (8 * t + 3)] := by
      rw [e0, e1, e2, e3]
      exact ⟨rfl, .inr ⟨_, _, _, rfl, by omega, hlb, by omega, by rw [maxLen_eq]; omega, rfl, rfl⟩⟩
    have hgl := hg.lt
    have hwl := hw.lt
    replace hg := own_ext hg (hyy.tr hxl)
    replace hw := own_ext hw (hyy.tr hxl)
    rw [← list_congr (V' := V4) (fun j hj => eo _ (gi_lt2 hj))] at hg
    rw [← list_congr (V' := V4) (fun j hj => eo _ (wi_lt2 hj))] at hw
    have hDgl : Dj vg (.slice (some ⟨w45.heap.size, 0, none⟩) 4 4) := fun k h1 h2 => by have := (hgl k h1).2; simp [Value.ownBlock] at h2; omega
    have hDwl : Dj vw (.slice (some ⟨w45.heap.size, 0, none⟩) 4 4) := fun k h1 h2 => by have := (hwl k h1).2; simp [Value.ownBlock] at h2; omega
    replace hxm := hxm.tr (hyy.tr hxl)
    clear hlb s39 s41 s43
    refine WL.c rfl (o_as ?_)
    refine WL.nil ?_
    refine W.seq ?_
    refine W.region ?_
    refine WL.c rfl (o_as ?_)
    refine WL.nil ?_
    refine W.block ?_
    refine W.loop (fun e w => ∃ (k : Nat) (V : Nat → Value) (vg vw : Value), k ≤ 4 ∧ e 0 = .int .u64 (n : Int) ∧ e 1 = .int .u64 (m : Int) ∧ e 5 = .pointer (some ⟨p, 0, none⟩) ∧ e 7 = vg ∧ e 8 = vw ∧ e 9 = .int .i64 (t : Int) ∧ e 10 = .slice (some ⟨w45.heap.size, 0, none⟩) 4 4 ∧ e 11 = .int .i64 (k : Int) ∧ Many w H0 5 1 (8 * t + 4 + k) V (fun j => (cz a b j).length) (fun j => (cz a b j).map bv) ∧ w.ownsRow H0 32 1 vg (4 * t + k) ((List.range (4 * t + k)).map fun j => V (gi j)) ∧ w.ownsRow H0 32 1 vw (4 * t + k) ((List.range (4 * t + k)).map fun j => V (wi j)) ∧ Dj vg vw ∧ w.ownsRow H0 32 1 (.slice (some ⟨w45.heap.size, 0, none⟩) 4 4) 4 [V (8 * t), V (8 * t + 1), V (8 * t + 2), V (8 * t + 3)] ∧ Dj vg (.slice (some ⟨w45.heap.size, 0, none⟩) 4 4) ∧ Dj vw (.slice (some ⟨w45.heap.size, 0, none⟩) 4 4) ∧ H0 ≤ w.heap.size ∧ Ext w31 w) (fun e w => 4 - (intOf (e 11)).toNat) ?_ ?_
    · exact ⟨0, V4, vg, vw, by omega, h0, h1, h5, h7, h8, h9, rfl, rfl, s45, hg, hw, hD, hl, hDgl, hDwl, by omega, hxm⟩
    rintro e w ⟨k, V, vg, vw, hk, h0, h1, h5, h7, h8, h9, h10, h11, hM, hg, hw, hD, hl, hDgl, hDwl, hzw, hxm⟩
    have hm11 := h11
    refine W.seq ?_
    refine W.seq ?_
    by_cases hk4 : k < 4
    · skip
      refine W.region ?_
      refine WL.c rfl (o_mvh h11 ?_)
      refine WL.c rfl (o_mvh h10 ?_)
      refine WL.c rfl (o_len TI54 rfl ?_)
      refine WL.c rfl (o_lt rfl rfl ?_)
      refine WL.nil ?_
      refine W.condT' rfl (by simp; omega) ?_
      refine W.skip ?_
      refine W.seq ?_
      refine W.block ?_
      refine W.seq ?_
      have hlk : [V (8 * t), V (8 * t + 1), V (8 * t + 2), V (8 * t + 3)][k]? = some (V (8 * t + k)) := by rcases (show k = 0 ∨ k = 1 ∨ k = 2 ∨ k = 3 by omega) with rfl | rfl | rfl | rfl <;> rfl
      have hrk := hM.row (8 * t + k) (by omega)
      have hwl := hw.lt
      have hll := hl.lt
      refine W.region ?_
      refine WL.c rfl (o_mvh h7 ?_)
      refine WL.c rfl (o_mvh h10 ?_)
      refine WL.c rfl (o_mvh h11 ?_)
      refine WL.c rfl (o_ixB TI54 TI32 rfl rfl (by omega) ?_)
      refine WL.c rfl (o_ld TI32 rfl rfl (own_at hl hlk) ?_)
      refine WL.apO (H0) rfl rfl TI54 TI32 (show _ = V (8 * t + k) from rfl) rfl hg (by decide) (by decide) (by rw [own_cells hrk]; rfl) (by rw [own_cells hrk]; intro a ha; simp at ha; rw [ha]; exact own_one hrk) rfl (by rw [maxLen_eq]; omega) (by omega) hzw ?_
      intro vg1 w59 hg1 hog hbg hSg
      rw [own_cells hrk] at hg1
      replace hg1 : w59.ownsRow H0 32 1 vg1 (4 * t + k + 1) ((List.range (4 * t + k + 1)).map fun j => V (gi j)) := by rw [list_snoc, gi_lt hk4]; exact hg1
      replace hM := hM.other hg (by decide) hog
      replace hw := own_only hw hog hD.symm
      replace hl := own_only hl hog hDgl.symm
      have hD1 : Dj vg1 vw := hD.step hbg (fun k hk => by have := (hwl k hk).2; omega)
      have hDgl1 : Dj vg1 _ := hDgl.step hbg (fun k hk => by have := (hll k hk).2; omega)
      replace hxm := Ext.many hxm (Nat.le_of_eq hH0) hog (fun k hk => (hg.lt k hk).1)
      have hz59 : H0 ≤ w59.heap.size := by have := hog.size; omega
      have hrk2 := hM.row (8 * t + k) (by omega)
      have hck := (hcl (8 * t + k)).1
      clear hg hSg hog hbg
      refine WL.c rfl (o_as ?_)
      refine WL.nil ?_
      refine W.region ?_
      refine WL.c rfl (o_mvh h8 ?_)
      refine WL.c rfl (o_mvh h10 ?_)
      refine WL.c rfl (o_mvh h11 ?_)
      refine WL.c rfl (o_ixB TI54 TI32 rfl rfl (by omega) ?_)
      refine WL.c rfl (o_ld TI32 rfl rfl (own_at hl hlk) ?_)
      refine WL.c rfl (o_apO (w59.heap.size) TI32 TI5 (show _ = Value.slice _ _ _ from rfl) (show _ = V (8 * t + k) from rfl) (World.ownsRow_nil _ _ _ _) (Sl.own hrk2) rfl (by decide) one_bv (by rw [maxLen_eq]; omega) (by omega) (Nat.le_refl _) ?_)
      intro v65 w65 hc65 hoc hbc hSc
      rw [Nat.zero_add, List.nil_append] at hc65
      have hec : Ext w59 w65 := hoc.mono (fun j _ h => by cases h)
      have hM1 := hM.freshC hc65 hec hz59 (by unfold cz; rw [show (8 * t + 4 + k) % 4 = (8 * t + k) % 4 by omega])
      obtain ⟨V1, hV1⟩ : ∃ V1 : Nat → Value, V1 = fun j => if j = 8 * t + 4 + k then v65 else V j := ⟨_, rfl⟩
      rw [← hV1] at hM1
      have eo : ∀ j, j < 8 * t + 4 + k → V1 j = V j := fun j hj => by rw [hV1]; dsimp only; rw [if_neg (by omega)]
      have en : V1 (8 * t + 4 + k) = v65 := by rw [hV1]; simp
      replace hg1 := own_ext hg1 hec
      replace hw := own_ext hw hec
      replace hl := own_ext hl hec
      rw [← list_congr (V' := V1) (fun j hj => eo _ (by unfold gi; omega))] at hg1
      rw [← list_congr (V' := V1) (fun j hj => eo _ (by unfold wi gi; omega))] at hw
      rw [← eo (8 * t) (by omega), ← eo (8 * t + 1) (by omega), ← eo (8 * t + 2) (by omega), ← eo (8 * t + 3) (by omega)] at hl
      replace hxm := hxm.tr hec
      have hgl := hg1.lt
      have hll2 := hl.lt
      have hz65 := hec.size
      have hw0 := hw
      refine WL.apO (H0) rfl rfl TI54 TI32 (show _ = v65 from rfl) rfl hw (by decide) (by decide) (by rw [own_cells hc65]; rfl) (by rw [own_cells hc65]; intro a ha; simp at ha; rw [ha]; exact own_one hc65) rfl (by rw [maxLen_eq]; omega) (by omega) (by omega) ?_
      intro vw1 w67 hw1 how hbw hSw
      rw [own_cells hc65] at hw1
      replace hw1 : w67.ownsRow H0 32 1 vw1 (4 * t + k + 1) ((List.range (4 * t + k + 1)).map fun j => V1 (wi j)) := by rw [list_snoc, wi_lt hk4, en]; exact hw1
      replace hM1 := hM1.other hw (by decide) how
      replace hg1 := own_only hg1 how hD1
      have hl1 := own_only hl how hDwl.symm
      replace hD1 : Dj vg1 vw1 := (hD1.symm.step hbw (fun k hk => by have := (hgl k hk).2; omega)).symm
      have hDwl1 : Dj vw1 _ := hDwl.step hbw (fun k hk => by have := (hll2 k hk).2; omega)
      have hxm1 := Ext.many hxm (Nat.le_of_eq hH0) how (fun k hk => (hw.lt k hk).1)
      have hzw1 : H0 ≤ w67.heap.size := by have := how.size; omega
      refine WL.c rfl (o_as ?_)
      refine WL.nil ?_
      refine W.region ?_
      refine WL.c rfl (o_mvh h11 ?_)
      refine WL.c rfl (o_addi rfl rfl (by omega) ?_)
      refine WL.c rfl (o_as ?_)
      refine WL.nil ?_
      refine ⟨⟨k + 1, V1, vg1, vw1, by omega, h0, h1, h5, rfl, rfl, h9, h10, rfl, hM1, hg1, hw1, hD1, hl1, hDgl1, hDwl1, hzw1, hxm1⟩, ?_⟩
      show 4 - ((k : Int) + 1).toNat < _
      rw [hm11]; simp [intOf]; omega
    · skip
      have hk : k = 4 := by omega
      subst hk
      replace hM := (show 8 * t + 4 + 4 = 8 * (t + 1) by omega) ▸ hM
      replace hg := (show 4 * t + 4 = 4 * (t + 1) by omega) ▸ hg
      replace hw := (show 4 * t + 4 = 4 * (t + 1) by omega) ▸ hw
      refine W.region ?_
      refine WL.c rfl (o_mvh h11 ?_)
      refine WL.c rfl (o_mvh h10 ?_)
      refine WL.c rfl (o_len TI54 rfl ?_)
      refine WL.c rfl (o_lt rfl rfl ?_)
      refine WL.nil ?_
      refine W.condF' rfl (by simp) ?_
      refine W.exit ?_
      refine W.region ?_
      refine WL.c rfl (o_mvh h9 ?_)
      refine WL.c rfl (o_addi rfl rfl (by omega) ?_)
      refine WL.c rfl (o_as ?_)
      refine WL.nil ?_
      refine ⟨⟨t + 1, V, vg, vw, by omega, h0, h1, h5, h7, h8, rfl, hM, hg, hw, hD, hzw, hxm⟩, ?_⟩
      show 3 - ((t : Int) + 1).toNat < _
      rw [hm9]; simp [intOf]; omega
  · skip
    have ht : t = 3 := by omega
    subst ht
    refine W.region ?_
    refine WL.c rfl (o_mvh h9 ?_)
    refine WL.c rfl (o_lt rfl rfl ?_)
    refine WL.nil ?_
    refine W.condF' rfl (by simp) ?_
    refine W.exit ?_
    refine W.seq ?_
    refine W.seq ?_
    refine W.region ?_
    refine WL.c rfl (o_as ?_)
    refine WL.nil ?_
    refine W.block ?_
    refine W.loop (fun e w => ∃ i : Nat, i ≤ 12 ∧ e 0 = .int .u64 (n : Int) ∧ e 1 = .int .u64 (m : Int) ∧ e 5 = .pointer (some ⟨p, 0, none⟩) ∧ e 7 = vg ∧ e 8 = vw ∧ e 12 = .int .i64 (i : Int) ∧ Many w H0 5 1 24 V (fun j => (cz a b j).length) (fun j => (cz a b j).map bv) ∧ w.ownsRow H0 32 1 vg 12 ((List.range 12).map fun j => V (gi j)) ∧ w.ownsRow H0 32 1 vw 12 ((List.range 12).map fun j => V (wi j)) ∧ H0 ≤ w.heap.size ∧ Ext w31 w) (fun e w => 12 - (intOf (e 12)).toNat) ?_ ?_
    · exact ⟨0, by omega, h0, h1, h5, h7, h8, rfl, hM, hg, hw, hzw, hxm⟩
    rintro e w ⟨i, hi, h0, h1, h5, h7, h8, h12, hM, hg, hw, hzw, hxm⟩
    have hm12 := h12
    obtain ⟨g1, cg, hvg, -⟩ := own_some hg (by omega)
    obtain ⟨g2, cw, hvw, -⟩ := own_some hw (by omega)
    have h7v := h7
    have h8v := h8
    rw [hvg] at h7
    rw [hvw] at h8
    have hge := hg
    have hwe := hw
    rw [hvg] at hge
    rw [hvw] at hwe
    refine W.seq ?_
    refine W.seq ?_
    by_cases hi12 : i < 12
    · skip
      refine W.region ?_
      refine WL.c rfl (o_mvh h12 ?_)
      refine WL.c rfl (o_mvh h7 ?_)
      refine WL.c rfl (o_len TI54 rfl ?_)
      refine WL.c rfl (o_lt rfl rfl ?_)
      refine WL.nil ?_
      refine W.condT' rfl (by simp; omega) ?_
      refine W.skip ?_
      refine W.seq ?_
      refine W.block ?_
      refine W.seq ?_
      have hai : ∀ k, By (w.drewN k) (V (gi i)) (cz a b (gi i)) := fun k => (Sl.own (hM.row (gi i) (by unfold gi; omega))).ext (Only.drewN _ _)
      have hbi : ∀ k, By (w.drewN k) (V (wi i)) (cz a b (wi i)) := fun k => (Sl.own (hM.row (wi i) (by unfold wi gi; omega))).ext (Only.drewN _ _)
      refine W.quiet rfl (by kernel_rfl) ?_
      refine WQ.c rfl ((QO.o rfl fun _ => o_mvh h7 ⟨rfl, rfl⟩)) ?_
      refine WQ.c rfl ((QO.o rfl fun _ => o_mvh h12 ⟨rfl, rfl⟩)) ?_
      refine WQ.c rfl ((QO.o rfl fun _ => o_ixB TI54 TI32 rfl rfl (by omega) ⟨rfl, rfl⟩)) ?_
      refine WQ.c rfl ((QO.o rfl fun _ => o_ld TI32 rfl rfl (own_at hge (list_at hi12)) ⟨rfl, rfl⟩)) ?_
      refine WQ.c rfl ((QO.o rfl fun _ => o_mvh h8 ⟨rfl, rfl⟩)) ?_
      refine WQ.c rfl ((QO.o rfl fun _ => o_mvh h12 ⟨rfl, rfl⟩)) ?_
      refine WQ.c rfl ((QO.o rfl fun _ => o_ixB TI54 TI32 rfl rfl (by omega) ⟨rfl, rfl⟩)) ?_
      refine WQ.c rfl ((QO.o rfl fun _ => o_ld TI32 rfl rfl (own_at hwe (list_at hi12)) ⟨rfl, rfl⟩)) ?_
      refine WQ.c rfl (QO.call Try.call17 (lc rfl (lc rfl ln)) (fun _ => Ca.same (same_spec _ _ _ _ _ (hai _) (hbi _)))) ?_
      refine WQ.c rfl ((QO.o rfl fun _ => o_not' rfl ⟨rfl, rfl⟩)) ?_
      refine WQ.nil ?_
      intro nq
      refine W.condF' rfl (by simp [cz_gi, cz_wi]) ?_
      refine W.skip ?_
      refine W.region ?_
      refine WL.c rfl (o_mvh h12 ?_)
      refine WL.c rfl (o_addi rfl rfl (by omega) ?_)
      refine WL.c rfl (o_as ?_)
      refine WL.nil ?_
      refine ⟨⟨i + 1, by omega, h0, h1, h5, h7v, h8v, rfl, hM.ext (Only.drewN _ nq), own_ext hg (Only.drewN _ nq), own_ext hw (Only.drewN _ nq), hzw, hxm.tr (Only.drewN _ nq)⟩, ?_⟩
      show 12 - ((i : Int) + 1).toNat < _
      rw [hm12]; simp [intOf]; omega
    · skip
      refine W.region ?_
      refine WL.c rfl (o_mvh h12 ?_)
      refine WL.c rfl (o_mvh h7 ?_)
      refine WL.c rfl (o_len TI54 rfl ?_)
      refine WL.c rfl (o_lt rfl rfl ?_)
      refine WL.nil ?_
      refine W.condF' rfl (by simp; omega) ?_
      refine W.exit ?_
      refine W.seq ?_
      refine W.seq ?_
      refine W.region ?_
      refine WL.c rfl (o_as ?_)
      refine WL.nil ?_
      refine W.block ?_
      refine W.loop (fun e w => ∃ (k : Nat) (X : Nat → List Value), k ≤ 12 ∧ e 0 = .int .u64 (n : Int) ∧ e 1 = .int .u64 (m : Int) ∧ e 5 = .pointer (some ⟨p, 0, none⟩) ∧ e 7 = vg ∧ e 8 = vw ∧ e 13 = .int .i64 (k : Int) ∧ Many w H0 5 1 24 V (fun j => (cz a b j).length) X ∧ (∀ q, q < 12 → X (gi q) = (if q < k then full a b q else cz a b q).map bv) ∧ (∀ q, q < 12 → X (wi q) = (cz a b q).map bv) ∧ w.ownsRow H0 32 1 vg 12 ((List.range 12).map fun j => V (gi j)) ∧ w.ownsRow H0 32 1 vw 12 ((List.range 12).map fun j => V (wi j)) ∧ H0 ≤ w.heap.size ∧ Ext w31 w) (fun e w => 12 - (intOf (e 13)).toNat) ?_ ?_
      · exact ⟨0, _, by omega, h0, h1, h5, h7v, h8v, rfl, hM, fun q _ => by simp [cz_gi], fun q _ => by simp [cz_wi], hg, hw, hzw, hxm⟩
      rintro e w ⟨k, X, hk, h0, h1, h5, h7, h8, h13, hM, hXg, hXw, hg, hw, hzw, hxm⟩
      have hm13 := h13
      obtain ⟨g1, cg, hvg, -⟩ := own_some hg (by omega)
      refine W.seq ?_
      refine W.seq ?_
      by_cases hk12 : k < 12
      · skip
        refine W.region ?_
        refine WL.c rfl (o_mvh h13 ?_)
        refine WL.c rfl (o_mvh h7 ?_)
        refine WL.c rfl (o_lenR TI54 rfl (Sl.own hg) ?_)
        refine WL.c rfl (o_lt rfl rfl ?_)
        refine WL.nil ?_
        refine W.condT' rfl (by simp; omega) ?_
        refine W.skip ?_
        refine W.seq ?_
        refine W.block ?_
        refine W.seq ?_
        refine W.region ?_
        refine WL.c rfl (o_as ?_)
        refine WL.nil ?_
        refine W.block ?_
        refine W.loop (fun e w => ∃ (i : Nat) (X : Nat → List Value), i ≤ (cz a b k).length ∧ e 0 = .int .u64 (n : Int) ∧ e 1 = .int .u64 (m : Int) ∧ e 5 = .pointer (some ⟨p, 0, none⟩) ∧ e 7 = vg ∧ e 8 = vw ∧ e 13 = .int .i64 (k : Int) ∧ e 14 = .int .i64 (i : Int) ∧ Many w H0 5 1 24 V (fun j => (cz a b j).length) X ∧ (∀ q, q < 12 → X (gi q) = (if q < k then full a b q else if q = k then List.replicate i (mk8 k) ++ (cz a b k).drop i else cz a b q).map bv) ∧ (∀ q, q < 12 → X (wi q) = (cz a b q).map bv) ∧ w.ownsRow H0 32 1 vg 12 ((List.range 12).map fun j => V (gi j)) ∧ w.ownsRow H0 32 1 vw 12 ((List.range 12).map fun j => V (wi j)) ∧ H0 ≤ w.heap.size ∧ Ext w31 w) (fun e w => (cz a b k).length - (intOf (e 14)).toNat) ?_ ?_
        · refine ⟨0, X, Nat.zero_le _, h0, h1, h5, h7, h8, h13, rfl, hM, fun q hq => ?_, hXw, hg, hw, hzw, hxm⟩
          rw [hXg q hq]
          by_cases e1 : q < k
          · rw [if_pos e1, if_pos e1]
          · rw [if_neg e1, if_neg e1]
            by_cases e2 : q = k
            · subst e2; rw [if_pos rfl]; simp
            · rw [if_neg e2]
        rintro e w ⟨i, X, hi, h0, h1, h5, h7, h8, h13, h14, hM, hXg, hXw, hg, hw, hzw, hxm⟩
        have hm14 := h14
        have h7v := h7
        rw [hvg] at h7
        have hge := hg
        rw [hvg] at hge
        have hrk := hM.row (gi k) (by unfold gi; omega)
        rw [cz_gi, hXg k hk12, if_neg (by omega), if_pos rfl] at hrk
        have hkl := (hcl k).1
        have hgk24 : gi k < 24 := by unfold gi; omega
        obtain ⟨gk, ck, hvk, hbk⟩ := own_some hrk (hcl k).2
        refine W.seq ?_
        refine W.seq ?_
        by_cases hi2 : i < (cz a b k).length
        · skip
          refine W.region ?_
          refine WL.c rfl (o_mvh h14 ?_)
          refine WL.c rfl (o_mvh h7 ?_)
          refine WL.c rfl (o_mvh h13 ?_)
          refine WL.c rfl (o_ixB TI54 TI32 rfl rfl (by omega) ?_)
          refine WL.c rfl (o_ld TI32 rfl rfl (own_at hge (list_at hk12)) ?_)
          refine WL.c rfl (o_lenR TI32 rfl (Sl.own hrk) ?_)
          refine WL.c rfl (o_lt rfl rfl ?_)
          refine WL.nil ?_
          refine W.condT' rfl (by simp; omega) ?_
          refine W.skip ?_
          refine W.seq ?_
          refine W.block ?_
          have hgk := own_row_off hrk hg (by decide)
          have hwk := own_row_off hrk hw (by decide)
          refine W.region ?_
          refine WL.c rfl (o_mvh h7 ?_)
          refine WL.c rfl (o_mvh h13 ?_)
          refine WL.c rfl (o_ixB TI54 TI32 rfl rfl (by omega) ?_)
          refine WL.c rfl (o_ld TI32 rfl rfl ((own_at hge (list_at hk12)).trans (congrArg some hvk)) ?_)
          refine WL.c rfl (o_mvh h14 ?_)
          refine WL.c rfl (o_mvh h13 ?_)
          refine WL.c rfl (o_addi rfl rfl (by omega) ?_)
          refine WL.c rfl (o_cvB8 (n := 100 + k) TI3 TI5 rfl (by omega) (by omega) ?_)
          refine WL.c rfl (o_ixB TI32 TI5 rfl rfl (hi2) ?_)
          refine WL.u (o_stR1 (i := i) TI5 rfl (by omega) (show _ = bv (mk8 k) from rfl) rfl hrk hbk hi2 ?_)
          intro w28 hr28 ho28 hs28
          have hM28 := (hM.set hgk24 ho28 hr28).congr (n' := fun j => (cz a b j).length) (fun _ _ => rfl) (fun j _ => by by_cases e : j = gi k <;> simp [e, cz_gi]) (fun _ _ => rfl)
          refine WL.nil ?_
          refine W.region ?_
          refine WL.c rfl (o_mvh h14 ?_)
          refine WL.c rfl (o_addi rfl rfl (by omega) ?_)
          refine WL.c rfl (o_as ?_)
          refine WL.nil ?_
          refine ⟨⟨i + 1, _, by omega, h0, h1, h5, h7v, h8, h13, rfl, hM28, fun q hq => ?_, fun q hq => ?_, own_only hg ho28 hgk, own_only hw ho28 hwk, by omega, Ext.many hxm (Nat.le_of_eq hH0) ho28 (fun k hk => (hrk.lt k hk).1)⟩, ?_⟩
          · by_cases e2 : q = k
            · subst e2
              simp only [if_pos]
              rw [if_neg (by omega), rep_set _ _ _ hi2]
            · have e3 : gi q ≠ gi k := fun h => e2 (gi_inj h)
              simp only [if_neg e3]
              rw [hXg q hq, if_neg e2, if_neg e2]
          · have e3 : wi q ≠ gi k := fun h => gi_wi h.symm
            simp only [if_neg e3]
            exact hXw q hq
          · show (cz a b k).length - ((i : Int) + 1).toNat < _
            rw [hm14]; simp [intOf]; omega
        · skip
          refine W.region ?_
          refine WL.c rfl (o_mvh h14 ?_)
          refine WL.c rfl (o_mvh h7 ?_)
          refine WL.c rfl (o_mvh h13 ?_)
          refine WL.c rfl (o_ixB TI54 TI32 rfl rfl (by omega) ?_)
          refine WL.c rfl (o_ld TI32 rfl rfl (own_at hge (list_at hk12)) ?_)
          refine WL.c rfl (o_lenR TI32 rfl (Sl.own hrk) ?_)
          refine WL.c rfl (o_lt rfl rfl ?_)
          refine WL.nil ?_
          refine W.condF' rfl (by simp; omega) ?_
          refine W.exit ?_
          refine W.region ?_
          refine WL.c rfl (o_mvh h13 ?_)
          refine WL.c rfl (o_addi rfl rfl (by omega) ?_)
          refine WL.c rfl (o_as ?_)
          refine WL.nil ?_
          refine ⟨⟨k + 1, X, by omega, h0, h1, h5, h7v, h8, rfl, hM, fun q hq => ?_, hXw, hg, hw, hzw, hxm⟩, ?_⟩
          · rw [hXg q hq]
            by_cases e1 : q < k
            · rw [if_pos e1, if_pos (by omega)]
            · rw [if_neg e1]
              by_cases e2 : q = k
              · subst e2
                rw [if_pos rfl, if_pos (by omega)]
                have : i = (cz a b q).length := by omega
                rw [this, List.drop_length, List.append_nil]; rfl
              · rw [if_neg e2, if_neg (by omega)]
          · show 12 - ((k : Int) + 1).toNat < _
            rw [hm13]; simp [intOf]; omega
      · skip
        have hk : k = 12 := by omega
        subst hk
        refine W.region ?_
        refine WL.c rfl (o_mvh h13 ?_)
        refine WL.c rfl (o_mvh h7 ?_)
        refine WL.c rfl (o_lenR TI54 rfl (Sl.own hg) ?_)
        refine WL.c rfl (o_lt rfl rfl ?_)
        refine WL.nil ?_
        refine W.condF' rfl (by simp) ?_
        refine W.exit ?_
        refine W.seq ?_
        refine W.region ?_
        refine WL.c rfl (o_as ?_)
        refine WL.nil ?_
        have hoff : ∀ q q', q < 12 → q' < 12 → q ≠ q' → Dj (V (gi q)) (V (gi q')) := fun q q' h1 h2 hne k hk => hM.off (gi q) (gi q') (by unfold gi; omega) (by unfold gi; omega) (fun h => hne (gi_inj h)) k hk
        have hlt4 : ∀ q, q < 12 → ∀ j, (V (gi q)).ownBlock = some j → j < w.heap.size := fun q hq j hj => (hM.lt (j := gi q) (by unfold gi; omega) hj).2
        have hgl4 := hg.lt
        have hwl4 := hw.lt
        generalize hHm : w.heap.size = Hm at hlt4 hgl4 hwl4 hzw
        refine W.seq ?_
        refine W.seq ?_
        refine W.region ?_
        refine WL.c rfl (o_as ?_)
        refine WL.nil ?_
        refine W.block ?_
        refine W.loop (fun e w => ∃ (k : Nat) (V1 : Nat → Value) (n1 : Nat → Nat) (X : Nat → List Value) (vm : Value), k ≤ 12 ∧ e 0 = .int .u64 (n : Int) ∧ e 1 = .int .u64 (m : Int) ∧ e 5 = .pointer (some ⟨p, 0, none⟩) ∧ e 7 = vg ∧ e 8 = vw ∧ e 15 = vm ∧ e 16 = .int .i64 (k : Int) ∧ Many w H0 5 1 24 V1 n1 X ∧ (∀ q, q < 12 → k ≤ q → V1 (gi q) = V (gi q) ∧ n1 (gi q) = (cz a b q).length ∧ X (gi q) = (full a b q).map bv) ∧ (∀ q, q < k → n1 (gi q) = (cz a b q).length + 1 ∧ X (gi q) = (full a b q ++ [mk8 q]).map bv ∧ Sl w 1 (V (gi q)) (cz a b q).length ((full a b q).map bv)) ∧ (∀ q, q < 12 → V1 (wi q) = V (wi q) ∧ n1 (wi q) = (cz a b q).length ∧ X (wi q) = (cz a b q).map bv) ∧ w.ownsRow H0 32 1 vg 12 ((List.range 12).map fun j => V (gi j)) ∧ w.ownsRow H0 32 1 vw 12 ((List.range 12).map fun j => V (wi j)) ∧ w.ownsRow Hm 32 1 vm k ((List.range k).map fun q => V1 (gi q)) ∧ Hm ≤ w.heap.size ∧ Ext w31 w) (fun e w => 12 - (intOf (e 16)).toNat) ?_ ?_
        · exact ⟨0, V, _, X, _, by omega, h0, h1, h5, h7, h8, rfl, rfl, hM, fun q hq _ => ⟨rfl, by rw [cz_gi], by rw [hXg q hq, if_pos hq]⟩, fun q hq => by omega, fun q hq => ⟨rfl, by rw [cz_wi], hXw q hq⟩, hg, hw, World.ownsRow_nil _ _ _ _, Nat.le_of_eq hHm.symm, hxm⟩
        rintro e w ⟨k, V1, n1, X, vm, hk, h0, h1, h5, h7, h8, h15, h16, hM, hN, hO, hW, hg, hw, hmo, hzm, hxm⟩
        have hm16 := h16
        have h7v := h7
        obtain ⟨g1, cg, hvg, -⟩ := own_some hg (by omega)
        have hge := hg
        rw [hvg] at hge
        refine W.seq ?_
        refine W.seq ?_
        by_cases hk12 : k < 12
        · skip
          rw [hvg] at h7
          refine W.region ?_
          refine WL.c rfl (o_mvh h16 ?_)
          refine WL.c rfl (o_mvh h7 ?_)
          refine WL.c rfl (o_len TI54 rfl ?_)
          refine WL.c rfl (o_lt rfl rfl ?_)
          refine WL.nil ?_
          refine W.condT' rfl (by simp; omega) ?_
          refine W.skip ?_
          refine W.seq ?_
          refine W.block ?_
          have hgk24 : gi k < 24 := by unfold gi; omega
          obtain ⟨eV, en, eX⟩ := hN k hk12 (Nat.le_refl _)
          have hrk := hM.row (gi k) hgk24
          rw [eV, en, eX] at hrk
          have hkl := (hcl k).1
          have hmg := hmo.lt
          refine W.region ?_
          refine WL.c rfl (o_mvh h15 ?_)
          refine WL.c rfl (o_mvh h7 ?_)
          refine WL.c rfl (o_mvh h16 ?_)
          refine WL.c rfl (o_ixB TI54 TI32 rfl rfl (by omega) ?_)
          refine WL.c rfl (o_ld TI32 rfl rfl (own_at hge (list_at hk12)) ?_)
          refine WL.c rfl (o_mvh h16 ?_)
          refine WL.c rfl (o_addi rfl rfl (by omega) ?_)
          refine WL.c rfl (o_cvB8 (n := 100 + k) TI3 TI5 rfl (by omega) (by omega) ?_)
          refine WL.apO (H0) rfl rfl TI32 TI5 (show _ = Value.int _ _ from rfl) (show _ = V (gi k) from rfl) hrk (by decide) (by decide) rfl (one1 rfl) rfl (by rw [maxLen_eq]; omega) (by omega) (by omega) ?_
          intro v123 w123 hr123 ho123 hb123 hS123
          replace hr123 : w123.ownsRow H0 5 1 v123 ((cz a b k).length + 1) ((full a b k).map bv ++ [bv (mk8 k)]) := hr123
          have hM1 := hM.grow hgk24 (by rw [eV]; exact ho123) (by rw [eV]; exact hb123) (by omega) hr123
          obtain ⟨V2, hV2⟩ : ∃ V2 : Nat → Value, V2 = fun j => if j = gi k then v123 else V1 j := ⟨_, rfl⟩
          rw [← hV2] at hM1
          have eo : ∀ j, j ≠ gi k → V2 j = V1 j := fun j hj => by rw [hV2]; dsimp only; rw [if_neg hj]
          have en2 : V2 (gi k) = v123 := by rw [hV2]; dsimp only; rw [if_pos rfl]
          replace hg := own_only hg ho123 (own_row_off hrk hg (by decide))
          have hge1 := hg
          replace hw := own_only hw ho123 (own_row_off hrk hw (by decide))
          replace hmo := own_only hmo ho123 (own_row_off hrk hmo (by decide))
          have hSO1 : ∀ q, q < k → Sl w123 1 (V (gi q)) (cz a b q).length ((full a b q).map bv) := fun q hq => ((hO q hq).2.2).only ho123 (fun j hj => hoff q k (by omega) hk12 (by omega) j hj)
          rw [← list_congr (V' := V2) (fun j hj => eo _ (fun h => by have := gi_inj h; omega))] at hmo
          have hxm1 := Ext.many hxm (Nat.le_of_eq hH0) ho123 (fun k hk => (hrk.lt k hk).1)
          have hz123 := ho123.size
          have hmo0 := hmo
          refine WL.apO (Hm) rfl rfl TI54 TI32 (show _ = v123 from rfl) rfl hmo (by decide) (by decide) (by rw [own_cells hr123]; rfl) (by rw [own_cells hr123]; intro a ha; simp at ha; rw [ha]; exact own_one hr123) rfl (by rw [maxLen_eq]; omega) (by omega) (by omega) ?_
          intro vm1 w125 hmo1 hom hbm hSm
          rw [own_cells hr123] at hmo1
          replace hmo1 : w125.ownsRow Hm 32 1 vm1 (k + 1) ((List.range (k + 1)).map fun q => V2 (gi q)) := by rw [list_snoc V2 gi, en2]; exact hmo1
          have hM2 := hM1.other hmo0 (by decide) hom
          replace hg := own_only hg hom (fun j hj he => by have := hgl4 j hj; have := (hmo0.lt j he).1; omega)
          replace hw := own_only hw hom (fun j hj he => by have := hwl4 j hj; have := (hmo0.lt j he).1; omega)
          have hSO : ∀ q, q < k → Sl w125 1 (V (gi q)) (cz a b q).length ((full a b q).map bv) := fun q hq => (hSO1 q hq).only hom (fun j hj he => by have := hlt4 q (by omega) j hj; have := (hmo0.lt j he).1; omega)
          have hS2 := (Sl.own hS123).only hom (fun j hj he => by have := hlt4 k hk12 j hj; have := (hmo0.lt j he).1; omega)
          have hHH : H0 ≤ Hm := hzw
          replace hxm := Ext.many hxm1 (show w31.heap.size ≤ Hm by omega) hom (fun k hk => (hmo0.lt k hk).1)
          have hz125 := hom.size
          refine WL.c rfl (o_as ?_)
          refine WL.nil ?_
          refine W.region ?_
          refine WL.c rfl (o_mvh h16 ?_)
          refine WL.c rfl (o_addi rfl rfl (by omega) ?_)
          refine WL.c rfl (o_as ?_)
          refine WL.nil ?_
          refine ⟨⟨k + 1, V2, _, _, vm1, by omega, h0, h1, h5, h7v, h8, rfl, rfl, hM2, fun q hq hkq => ?_, fun q hq => ?_, fun q hq => ?_, hg, hw, hmo1, by omega, hxm⟩, ?_⟩
          · have e3 : gi q ≠ gi k := fun h => by have := gi_inj h; omega
            rw [eo _ e3]
            simp only [if_neg e3]
            exact hN q hq (by omega)
          · by_cases e2 : q = k
            · subst e2
              simp only [if_pos]
              refine ⟨trivial, ?_, hS2⟩
              rw [List.map_append]; rfl
            · have e3 : gi q ≠ gi k := fun h => e2 (gi_inj h)
              simp only [if_neg e3]
              exact ⟨(hO q (by omega)).1, (hO q (by omega)).2.1, hSO q (by omega)⟩
          · have e3 : wi q ≠ gi k := fun h => gi_wi h.symm
            rw [eo _ e3]
            simp only [if_neg e3]
            exact hW q hq
          · show 12 - ((k : Int) + 1).toNat < _
            rw [hm16]; simp [intOf]; omega
        · skip
          have hk : k = 12 := by omega
          subst hk
          rw [hvg] at h7
          refine W.region ?_
          refine WL.c rfl (o_mvh h16 ?_)
          refine WL.c rfl (o_mvh h7 ?_)
          refine WL.c rfl (o_len TI54 rfl ?_)
          refine WL.c rfl (o_lt rfl rfl ?_)
          refine WL.nil ?_
          refine W.condF' rfl (by simp) ?_
          refine W.exit ?_
          refine W.seq ?_
          refine W.seq ?_
          refine W.region ?_
          refine WL.c rfl (o_as ?_)
          refine WL.nil ?_
          rename World => wE
          obtain ⟨g3, c3, hvm, -⟩ := own_some hmo (by omega)
          have hme := hmo
          rw [hvm] at hme h15
          refine W.block ?_
          refine W.loop (fun e w => ∃ q : Nat, q ≤ 12 ∧ e 0 = .int .u64 (n : Int) ∧ e 1 = .int .u64 (m : Int) ∧ e 5 = .pointer (some ⟨p, 0, none⟩) ∧ e 7 = .slice (some ⟨g1, 0, none⟩) 12 cg ∧ e 8 = vw ∧ e 15 = .slice (some ⟨g3, 0, none⟩) 12 c3 ∧ e 17 = .int .i64 (q : Int) ∧ w = wE) (fun e w => 12 - (intOf (e 17)).toNat) ?_ ?_
          · exact ⟨0, by omega, h0, h1, h5, h7, h8, h15, rfl, rfl⟩
          rintro e w ⟨q, hq, h0, h1, h5, h7, h8, h15, h17, rfl⟩
          have hm17 := h17
          rename World => wF
          refine W.seq ?_
          refine W.seq ?_
          by_cases hq12 : q < 12
          · skip
            refine W.region ?_
            refine WL.c rfl (o_mvh h17 ?_)
            refine WL.c rfl (o_mvh h15 ?_)
            refine WL.c rfl (o_len TI54 rfl ?_)
            refine WL.c rfl (o_lt rfl rfl ?_)
            refine WL.nil ?_
            refine W.condT' rfl (by simp; omega) ?_
            refine W.skip ?_
            refine W.seq ?_
            refine W.block ?_
            refine W.seq ?_
            refine W.region ?_
            refine WL.c rfl (o_as ?_)
            refine WL.nil ?_
            refine W.block ?_
            refine W.loop (fun e w => ∃ i : Nat, i ≤ (cz a b q).length + 1 ∧ e 0 = .int .u64 (n : Int) ∧ e 1 = .int .u64 (m : Int) ∧ e 5 = .pointer (some ⟨p, 0, none⟩) ∧ e 7 = .slice (some ⟨g1, 0, none⟩) 12 cg ∧ e 8 = vw ∧ e 15 = .slice (some ⟨g3, 0, none⟩) 12 c3 ∧ e 17 = .int .i64 (q : Int) ∧ e 18 = .int .i64 (i : Int) ∧ w = wF) (fun e w => (cz a b q).length + 1 - (intOf (e 18)).toNat) ?_ ?_
            · exact ⟨0, by omega, h0, h1, h5, h7, h8, h15, h17, rfl, rfl⟩
            rintro e w ⟨i, hi, h0, h1, h5, h7, h8, h15, h17, h18, rfl⟩
            have hm18 := h18
            have hrq := hM.row (gi q) (by unfold gi; omega)
            obtain ⟨o1, o2, hSq⟩ := hO q hq12
            rw [o1, o2] at hrq
            have hql := (hcl q).1
            refine W.seq ?_
            refine W.seq ?_
            by_cases hi2 : i < (cz a b q).length + 1
            · skip
              refine W.region ?_
              refine WL.c rfl (o_mvh h18 ?_)
              refine WL.c rfl (o_mvh h15 ?_)
              refine WL.c rfl (o_mvh h17 ?_)
              refine WL.c rfl (o_ixB TI54 TI32 rfl rfl (by omega) ?_)
              refine WL.c rfl (o_ld TI32 rfl rfl (own_at hme (list_at hq12)) ?_)
              refine WL.c rfl (o_lenR TI32 rfl (Sl.own hrq) ?_)
              refine WL.c rfl (o_lt rfl rfl ?_)
              refine WL.nil ?_
              refine W.condT' rfl (by simp; omega) ?_
              refine W.skip ?_
              refine W.seq ?_
              refine W.block ?_
              refine W.seq ?_
              by_cases hil : i < (cz a b q).length
              · skip
                have hget2 : ((full a b q).map bv)[i]? = some (bv (mk8 q)) := by rw [full, List.map_replicate]; simp [hil]
                obtain ⟨gq, cq, hvq, hbq⟩ := own_some hrq (by omega)
                have hrqe := hrq
                rw [hvq] at hrqe
                have hget : ((full a b q ++ [mk8 q]).map bv)[i]? = some (bv (mk8 q)) := by rw [full, ← List.replicate_succ', List.map_replicate]; simp [hi2]
                refine W.region ?_
                refine WL.c rfl (o_mvh h15 ?_)
                refine WL.c rfl (o_mvh h17 ?_)
                refine WL.c rfl (o_ixB TI54 TI32 rfl rfl (by omega) ?_)
                refine WL.c rfl (o_ld TI32 rfl rfl ((own_at hme (list_at hq12)).trans (congrArg some hvq)) ?_)
                refine WL.c rfl (o_mvh h18 ?_)
                refine WL.c rfl (o_ixB TI32 TI5 rfl rfl (hi2) ?_)
                refine WL.c rfl (o_ld TI5 rfl rfl (own_at hrqe hget) ?_)
                refine WL.c rfl (o_mvh h17 ?_)
                refine WL.c rfl (o_addi rfl rfl (by omega) ?_)
                refine WL.c rfl (o_cvB8 (n := 100 + q) TI3 TI5 rfl (by omega) (by omega) ?_)
                refine WL.c rfl (o_ne rfl rfl ?_)
                refine WL.c rfl (o_mv ?_)
                refine WL.g rfl (by simp [mk8]) rfl (o_mvh h18 ?_)
                refine WL.g rfl (by simp [mk8]) rfl (o_mvh h7 ?_)
                refine WL.g rfl (by simp [mk8]) rfl (o_mvh h17 ?_)
                refine WL.g rfl (by simp [mk8]) rfl (o_ixB TI54 TI32 rfl rfl (by omega) ?_)
                refine WL.g rfl (by simp [mk8]) rfl (o_ld TI32 rfl rfl (own_at hge (list_at hq12)) ?_)
                refine WL.g rfl (by simp [mk8]) rfl (o_lenR TI32 rfl hSq ?_)
                refine WL.g rfl (by simp [mk8]) rfl (o_lt rfl rfl ?_)
                refine WL.g rfl (by simp [mk8]) rfl (o_mv ?_)
                refine WL.g rfl (by simp; omega) rfl (o_mvh h7 ?_)
                refine WL.g rfl (by simp; omega) rfl (o_mvh h17 ?_)
                refine WL.g rfl (by simp; omega) rfl (o_ixB TI54 TI32 rfl rfl (by omega) ?_)
                refine WL.g rfl (by simp; omega) rfl (o_ld TI32 rfl rfl (own_at hge (list_at hq12)) ?_)
                refine WL.g rfl (by simp; omega) rfl (o_mvh h18 ?_)
                refine WL.g rfl (by simp; omega) rfl (o_ix1 TI32 TI5 rfl rfl hSq (hil) ?_)
                intro b166 o166 hc166 hb166
                refine WL.g rfl (by simp; omega) rfl (o_ld TI5 rfl rfl (hc166.trans hget2) ?_)
                refine WL.g rfl (by simp; omega) rfl (o_mvh h17 ?_)
                refine WL.g rfl (by simp; omega) rfl (o_addi rfl rfl (by omega) ?_)
                refine WL.g rfl (by simp; omega) rfl (o_cvB8 (n := 100 + q) TI3 TI5 rfl (by omega) (by omega) ?_)
                refine WL.g rfl (by simp; omega) rfl (o_ne rfl rfl ?_)
                refine WL.g rfl (by simp [mk8]) rfl (o_pickA rfl rfl ?_)
                refine WL.c rfl (o_pickO rfl rfl ?_)
                refine WL.nil ?_
                refine W.condF' rfl (by simp [mk8]) ?_
                refine W.skip ?_
                refine W.region ?_
                refine WL.c rfl (o_mvh h18 ?_)
                refine WL.c rfl (o_addi rfl rfl (by omega) ?_)
                refine WL.c rfl (o_as ?_)
                refine WL.nil ?_
                refine ⟨⟨i + 1, by omega, h0, h1, h5, h7, h8, h15, h17, rfl, rfl⟩, ?_⟩
                show (cz a b q).length + 1 - ((i : Int) + 1).toNat < _
                rw [hm18]; simp [intOf]; omega
              · skip
                obtain ⟨gq, cq, hvq, hbq⟩ := own_some hrq (by omega)
                have hrqe := hrq
                rw [hvq] at hrqe
                have hget : ((full a b q ++ [mk8 q]).map bv)[i]? = some (bv (mk8 q)) := by rw [full, ← List.replicate_succ', List.map_replicate]; simp [hi2]
                refine W.region ?_
                refine WL.c rfl (o_mvh h15 ?_)
                refine WL.c rfl (o_mvh h17 ?_)
                refine WL.c rfl (o_ixB TI54 TI32 rfl rfl (by omega) ?_)
                refine WL.c rfl (o_ld TI32 rfl rfl ((own_at hme (list_at hq12)).trans (congrArg some hvq)) ?_)
                refine WL.c rfl (o_mvh h18 ?_)
                refine WL.c rfl (o_ixB TI32 TI5 rfl rfl (hi2) ?_)
                refine WL.c rfl (o_ld TI5 rfl rfl (own_at hrqe hget) ?_)
                refine WL.c rfl (o_mvh h17 ?_)
                refine WL.c rfl (o_addi rfl rfl (by omega) ?_)
                refine WL.c rfl (o_cvB8 (n := 100 + q) TI3 TI5 rfl (by omega) (by omega) ?_)
                refine WL.c rfl (o_ne rfl rfl ?_)
                refine WL.c rfl (o_mv ?_)
                refine WL.g rfl (by simp [mk8]) rfl (o_mvh h18 ?_)
                refine WL.g rfl (by simp [mk8]) rfl (o_mvh h7 ?_)
                refine WL.g rfl (by simp [mk8]) rfl (o_mvh h17 ?_)
                refine WL.g rfl (by simp [mk8]) rfl (o_ixB TI54 TI32 rfl rfl (by omega) ?_)
                refine WL.g rfl (by simp [mk8]) rfl (o_ld TI32 rfl rfl (own_at hge (list_at hq12)) ?_)
                refine WL.g rfl (by simp [mk8]) rfl (o_lenR TI32 rfl hSq ?_)
                refine WL.g rfl (by simp [mk8]) rfl (o_lt rfl rfl ?_)
                refine WL.g rfl (by simp [mk8]) rfl (o_mv ?_)
                refine WL.s rfl (by simp; omega) rfl ?_
                refine WL.s rfl (by simp; omega) rfl ?_
                refine WL.s rfl (by simp; omega) rfl ?_
                refine WL.s rfl (by simp; omega) rfl ?_
                refine WL.s rfl (by simp; omega) rfl ?_
                refine WL.s rfl (by simp; omega) rfl ?_
                refine WL.s rfl (by simp; omega) rfl ?_
                refine WL.s rfl (by simp; omega) rfl ?_
                refine WL.s rfl (by simp; omega) rfl ?_
                refine WL.s rfl (by simp; omega) rfl ?_
                refine WL.s rfl (by simp; omega) rfl ?_
                refine WL.g rfl (by simp [mk8]) rfl (o_pickF rfl (by simp; omega) ?_)
                refine WL.c rfl (o_pickO rfl rfl ?_)
                refine WL.nil ?_
                refine W.condF' rfl (by simp [mk8]) ?_
                refine W.skip ?_
                refine W.region ?_
                refine WL.c rfl (o_mvh h18 ?_)
                refine WL.c rfl (o_addi rfl rfl (by omega) ?_)
                refine WL.c rfl (o_as ?_)
                refine WL.nil ?_
                refine ⟨⟨i + 1, by omega, h0, h1, h5, h7, h8, h15, h17, rfl, rfl⟩, ?_⟩
                show (cz a b q).length + 1 - ((i : Int) + 1).toNat < _
                rw [hm18]; simp [intOf]; omega
            · skip
              refine W.region ?_
              refine WL.c rfl (o_mvh h18 ?_)
              refine WL.c rfl (o_mvh h15 ?_)
              refine WL.c rfl (o_mvh h17 ?_)
              refine WL.c rfl (o_ixB TI54 TI32 rfl rfl (by omega) ?_)
              refine WL.c rfl (o_ld TI32 rfl rfl (own_at hme (list_at hq12)) ?_)
              refine WL.c rfl (o_lenR TI32 rfl (Sl.own hrq) ?_)
              refine WL.c rfl (o_lt rfl rfl ?_)
              refine WL.nil ?_
              refine W.condF' rfl (by simp; omega) ?_
              refine W.exit ?_
              refine W.region ?_
              refine WL.c rfl (o_mvh h17 ?_)
              refine WL.c rfl (o_addi rfl rfl (by omega) ?_)
              refine WL.c rfl (o_as ?_)
              refine WL.nil ?_
              refine ⟨⟨q + 1, by omega, h0, h1, h5, h7, h8, h15, rfl, rfl⟩, ?_⟩
              show 12 - ((q : Int) + 1).toNat < _
              rw [hm17]; simp [intOf]; omega
          · skip
            refine W.region ?_
            refine WL.c rfl (o_mvh h17 ?_)
            refine WL.c rfl (o_mvh h15 ?_)
            refine WL.c rfl (o_len TI54 rfl ?_)
            refine WL.c rfl (o_lt rfl rfl ?_)
            refine WL.nil ?_
            refine W.condF' rfl (by simp; omega) ?_
            refine W.exit ?_
            refine W.seq ?_
            obtain ⟨g2, cw, hvw, -⟩ := own_some hw (by omega)
            have hwd := own_ext hw (Only.drew wF)
            rw [hvw] at h8 hwd
            have hrw := hM.row (wi 1) (by decide)
            obtain ⟨f1, f2, f3⟩ := hW 1 (by omega)
            rw [f1, f2, f3, show cz a b 1 = b from rfl] at hrw
            have hrd := own_ext hrw (Only.drew wF)
            have hrr := RdP.ext (RdP.ext hr hxm) (Only.drew wF)
            have hxe := hx.tr (hxm.tr (Only.drew wF))
            refine W.draw (Ext) [(0, fun v _ => v = _), (1, fun v _ => v = _), (5, fun v _ => v = _), (8, fun v _ => v = _)] rfl (by kernel_rfl) (Only.refl No) (fun _ _ _ h k => h.trans k) ⟨Mono.eq, Mono.eq, Mono.eq, Mono.eq, trivial⟩ ⟨h0, h1, h5, h8, trivial⟩ ?_
            refine WD.p rfl (fun e w hR hh => by obtain ⟨h5, -⟩ := hh; exact SG.n (o_mvh h5 ⟨rfl, Only.refl No _⟩)) ?_
            refine WD.p rfl (fun e w hR hh => by obtain ⟨h174, -⟩ := hh; exact SG.n (o_call Try.call20 (lc h174 ln) ((n_spec p a true _ (RdP.ext hrr hR) hokn).mono (fun v w' ⟨h1, m, h2⟩ => ⟨h1, by rw [h2]; exact Only.drewN _ m⟩)))) ?_
            refine WD.p rfl (fun e w hR hh => by obtain ⟨h0, -⟩ := hh; exact SG.n (o_mvh h0 ⟨rfl, Only.refl No _⟩)) ?_
            refine WD.p rfl (fun e w hR hh => by obtain ⟨h176, h175, -⟩ := hh; exact SG.n (o_eq h175 h176 ⟨rfl, Only.refl No _⟩)) ?_
            refine WD.p rfl (fun e w hR hh => by obtain ⟨h177, -⟩ := hh; exact SG.n (o_mvh h177 ⟨rfl, Only.refl No _⟩)) ?_
            refine WD.p rfl (fun e w hR hh => by obtain ⟨h178, h5, -⟩ := hh; exact SG.g h178 (by simp [hvn]) (o_mvh h5 ⟨rfl, Only.refl No _⟩)) ?_
            refine WD.q (fun u w => By w u a) (fun _ _ _ hR h => h.ext hR) rfl (fun e w hR hh => by obtain ⟨h179, h178, -⟩ := hh; exact SG.g h178 (by simp [hvn]) (o_call Try.call19 (lc h179 ln) ((read_spec p a true _ (RdP.ext hrr hR) hokn).mono (fun v w' h => ⟨h.by, h.2⟩)))) ?_
            refine WD.p rfl (fun e w hR hh => by obtain ⟨h178, h0, -⟩ := hh; exact SG.g h178 (by simp [hvn]) (o_mvh h0 ⟨rfl, Only.refl No _⟩)) ?_
            refine WD.q (fun u w => By w u a) (fun _ _ _ hR h => h.ext hR) rfl (fun e w hR hh => by obtain ⟨h181, h178, -⟩ := hh; exact SG.g h178 (by simp [hvn]) (o_call Try.call13 (lc h181 ln) ((put_own hn' _).mono (fun v w' h => ⟨by rw [hpa] at h; exact h.by, h.2⟩)))) ?_
            refine WD.p rfl (fun e w hR hh => by obtain ⟨h182, h180, h178, -⟩ := hh; exact SG.g h178 (by simp [hvn]) (o_call Try.call17 (lc rfl (lc rfl ln)) ((same_spec _ _ _ _ _ h180 h182).mono (fun v w' ⟨h1, h2⟩ => ⟨h1, by rw [h2]; exact Only.refl No _⟩)))) ?_
            refine WD.p rfl (fun e w hR hh => by obtain ⟨h183, h178, -⟩ := hh; exact SG.n (o_pickA h178 h183 ⟨rfl, Only.refl No _⟩)) ?_
            refine WD.p rfl (fun e w hR hh => by obtain ⟨h184, -⟩ := hh; exact SG.n (o_mvh h184 ⟨rfl, Only.refl No _⟩)) ?_
            refine WD.p rfl (fun e w hR hh => by obtain ⟨h185, h1, -⟩ := hh; exact SG.g h185 (by simp [hvn]) (o_mvh h1 ⟨rfl, Only.refl No _⟩)) ?_
            refine WD.q (fun u w => By w u b) (fun _ _ _ hR h => h.ext hR) rfl (fun e w hR hh => by obtain ⟨h186, h185, -⟩ := hh; exact SG.g h185 (by simp [hvn]) (o_call Try.call13 (lc h186 ln) ((put_own hm' _).mono (fun v w' h => ⟨by rw [hpb] at h; exact h.by, h.2⟩)))) ?_
            refine WD.p rfl (fun e w hR hh => by obtain ⟨h185, h8, -⟩ := hh; exact SG.g h185 (by simp [hvn]) (o_mvh h8 ⟨rfl, Only.refl No _⟩)) ?_
            refine WD.p rfl (fun e w hR hh => by obtain ⟨h188, h185, -⟩ := hh; exact SG.g h185 (by simp [hvn]) (o_ixB (i := 1) TI54 TI32 h188 rfl (by omega) ⟨rfl, Only.refl No _⟩)) ?_
            refine WD.p rfl (fun e w hR hh => by obtain ⟨h189, h185, -⟩ := hh; exact SG.g h185 (by simp [hvn]) (o_ld TI32 rfl h189 (own_at (own_ext hwd hR) (list_at (by decide))) ⟨rfl, Only.refl No _⟩)) ?_
            refine WD.p rfl (fun e w hR hh => by obtain ⟨h190, h187, h185, -⟩ := hh; exact SG.g h185 (by simp [hvn]) (o_call Try.call17 (lc rfl (lc h190 ln)) ((same_spec _ _ _ _ _ h187 (Sl.own (own_ext hrd hR))).mono (fun v w' ⟨h1, h2⟩ => ⟨h1, by rw [h2]; exact Only.refl No _⟩)))) ?_
            refine WD.p rfl (fun e w hR hh => by obtain ⟨h191, h185, -⟩ := hh; exact SG.n (o_pickA h185 h191 ⟨rfl, Only.refl No _⟩)) ?_
            refine WD.p rfl (fun e w hR hh => by obtain ⟨h192, -⟩ := hh; exact SG.n (o_ash h192 ⟨rfl, Only.refl No _⟩)) ?_
            rintro e w hR ⟨h4, h192, h191, h190, h189, h188, h187, h186, h185, h184, h183, h182, h181, h180, h179, h178, h177, h176, h175, h174, h0, h1, h5, h8, -⟩
            refine W.ret ?_
            refine ret1v rfl h4 ?_
            exact ⟨congrArg Value.bool (by simp [hvn]), hxe.tr hR⟩
end Go.Proofs.Ytieldjpbempkcaa
