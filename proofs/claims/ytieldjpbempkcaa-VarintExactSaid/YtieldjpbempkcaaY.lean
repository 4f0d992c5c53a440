/-
  Walks. Written by program out of specs of mine.
-/
import Derived.Test.YtieldjpbempkcaaB
set_option linter.unusedSimpArgs false
set_option linter.unusedVariables false
namespace Go.Proofs.Ytieldjpbempkcaa
open Go Go.Vc Go.RowKit Go.Proofs

theorem rload_cons {bs : List UInt8} {o : Bool} {c : UInt8} (h : rerr bs o c = 0) (cs : List UInt8) : rload bs o (c :: cs) = rload (rnext bs o c) (rover bs o c) cs := by rw [rload, if_pos h]
theorem rload_snoc : ∀ (xs : List UInt8) (bs : List UInt8) (o : Bool) (c : UInt8), (rload bs o xs).1 = 0 → rload bs o (xs ++ [c]) = rload (rload bs o xs).2.1 (rload bs o xs).2.2 [c]
  | [], bs, o, c, _ => rfl
  | x :: xs, bs, o, c, h => by
    by_cases he : rerr bs o x = 0
    · rw [rload_cons he] at h
      rw [List.cons_append, rload_cons he, rload_cons he, rload_snoc xs _ _ c h]
    · rw [rload, if_neg he] at h; exact absurd h he
theorem vnum_snoc : ∀ (xs : List UInt8) (k m : Nat) (c : UInt8), vnum k m (xs ++ [c]) = vnum k m xs + c.toNat % 128 * 128 ^ (k + xs.length)
  | [], k, m, c => rfl
  | x :: xs, k, m, c => by
    rw [List.cons_append, vnum, vnum_snoc xs, vnum, List.length_cons]
    congr 3; omega
/-- a reader that has taken the first k bytes, and goes on -/
structure Rdn (xs : List UInt8) (k m : Nat) : Prop where
  load : rload [] false (xs.take k) = (0, xs.take k, false)
  num : vnum 0 0 (xs.take k) = m
  lt : m < 128 ^ k
  get : vget 0 0 xs = vget k m (xs.drop k)
theorem Rdn.ok {xs : List UInt8} {k m : Nat} (h : Rdn xs k m) : RdOk (xs.take k) false := by
  have := rload_ok (xs.take k) [] false RdOk.new
  rw [h.load] at this; exact this
theorem Rdn.zero (xs : List UInt8) : Rdn xs 0 0 := ⟨rfl, rfl, by decide, rfl⟩
theorem Rdn.le9 {xs : List UInt8} {k m : Nat} (h : Rdn xs k m) (hk : k ≤ xs.length) : k ≤ 9 := by
  have := h.ok.more rfl
  simpa [Nat.min_eq_left hk] using this
theorem take_len {xs : List UInt8} {k : Nat} (h : k ≤ xs.length) : (xs.take k).length = k := by simp; omega
theorem take_next {xs : List UInt8} {k : Nat} (h : k < xs.length) : xs.take (k + 1) = xs.take k ++ [xs[k]] := by
  rw [List.take_succ_eq_append_getElem h]
theorem Rdn.next {xs : List UInt8} {k m : Nat} (h : Rdn xs k m) (hk : k < xs.length) (hf : vfault xs[k] k = false) (hc : 128 ≤ (xs[k]).toNat) : Rdn xs (k + 1) (m + (xs[k]).toNat % 128 * 128 ^ k) := by
  have hl := take_len (xs := xs) (k := k) (by omega)
  have h9 := h.le9 (by omega)
  have hv := vfault9 hf
  have hgr := grp h9 h.lt (UInt8.toNat_lt (xs[k])) hv.1
  have he : rerr (xs.take k) false xs[k] = 0 := by simp [rerr, hl, hf]
  have hn : rnext (xs.take k) false xs[k] = xs.take (k + 1) := by rw [take_next hk]; simp [rnext, hl, hf]
  have ho : rover (xs.take k) false xs[k] = false := by simp [rover, hl, hf]; omega
  refine ⟨?_, ?_, hgr.2.2 (by omega), ?_⟩
  · rw [take_next hk, rload_snoc _ _ _ _ (by rw [h.load]), h.load]
    show rload (xs.take k) false [xs[k]] = _
    rw [rload, if_pos he, rload, hn, ho, take_next hk]
  · rw [take_next hk, vnum_snoc, h.num, hl, Nat.zero_add]
  · rw [h.get, drop_cons (List.getElem?_eq_getElem hk), vget]
    simp only [hf, Bool.false_eq_true, if_false]
    rw [if_neg (by omega)]
theorem Rdn.here {xs : List UInt8} {k m : Nat} (h : Rdn xs k m) (hk : k < xs.length) : vget 0 0 xs = vget k m (xs[k] :: xs.drop (k + 1)) := by
  rw [h.get, drop_cons (List.getElem?_eq_getElem hk)]
/-- the three things that a byte may be -/
theorem Rdn.three {xs : List UInt8} {k m : Nat} (h : Rdn xs k m) (hk : k < xs.length) :
    (vget 0 0 xs = (0, k, 21) ∧ rdone (xs.take k) false xs[k] = false ∧ rerr (xs.take k) false xs[k] = 21 ∧ rnext (xs.take k) false xs[k] = xs.take k ∧ rover (xs.take k) false xs[k] = true) ∨
    (vget 0 0 xs = (vnum 0 0 (xs.take (k + 1)), k + 1, 0) ∧ rdone (xs.take k) false xs[k] = true ∧ rerr (xs.take k) false xs[k] = 0 ∧ rnext (xs.take k) false xs[k] = xs.take (k + 1) ∧ rover (xs.take k) false xs[k] = true) ∨
    (Rdn xs (k + 1) (m + (xs[k]).toNat % 128 * 128 ^ k) ∧ ((vget 0 0 xs).2.2 = 0 → k + 1 < (vget 0 0 xs).2.1) ∧ k + 1 ≤ (vget 0 0 xs).2.1 ∧ rdone (xs.take k) false xs[k] = false ∧ rerr (xs.take k) false xs[k] = 0 ∧ rnext (xs.take k) false xs[k] = xs.take (k + 1) ∧ rover (xs.take k) false xs[k] = false) := by
  have hl := take_len (xs := xs) (k := k) (by omega)
  have hg := h.here hk
  rw [vget] at hg
  cases hf : vfault xs[k] k with
  | true =>
    left
    rw [hf] at hg
    simp only [if_true] at hg
    exact ⟨hg, by simp [rdone, hl, hf], by simp [rerr, hl, hf], by simp [rnext, hl, hf], by simp [rover, hl, hf]⟩
  | false =>
    right
    rw [hf] at hg
    simp only [Bool.false_eq_true, if_false] at hg
    have hn : rnext (xs.take k) false xs[k] = xs.take (k + 1) := by rw [take_next hk]; simp [rnext, hl, hf]
    by_cases hc : (xs[k]).toNat < 128
    · left
      rw [if_pos hc] at hg
      refine ⟨?_, by simp [rdone, hl, hf, hc], by simp [rerr, hl, hf], hn, by simp [rover, hl, hf, hc]⟩
      rw [hg, take_next hk, vnum_snoc, h.num, hl, Nat.zero_add]
    · right
      rw [if_neg hc] at hg
      have hfar := vget_far (xs.drop (k + 1)) (k + 1) (m + (xs[k]).toNat % 128 * 128 ^ k)
      rw [← hg] at hfar
      exact ⟨h.next hk hf (by omega), hfar.2.2.2, hfar.1, by simp [rdone, hl, hf, hc], by simp [rerr, hl, hf], hn, by simp [rover, hl, hf, hc]⟩
theorem vget_e : ∀ (l : List UInt8) (a b : Nat), (vget a b l).2.2 = 0 ∨ (vget a b l).2.2 = 20 ∨ (vget a b l).2.2 = 21
  | [], a, b => by simp [vget]
  | c :: l, a, b => by
    unfold vget
    split
    · simp
    · split
      · simp
      · exact vget_e l _ _

theorem bytes_walk (w0 : World) (v : Value) (xs : List UInt8) (hlen : xs.length ≤ 140737488351232) (hB : By w0 v xs) (c0 : Int) (hc0 : -9223372036854775808 ≤ c0 ∧ c0 ≤ 9223372036854775807) : Ca Try.prog 5 #[v, .int .i64 c0] w0 (fun v w' => v = .bool true ∧ Ext w0 w') := by
  have hfar := vget_far xs 0 0
  have hE := vget_e xs 0 0
  refine Ca.of Try.func5 Try.ntmps5 rfl rfl ?_
  refine W.seq ?_
  refine W.region ?_
  refine WL.c rfl (o_as ?_)
  refine WL.nil ?_
  refine W.seq ?_
  refine W.seq ?_
  refine W.region ?_
  refine WL.c rfl (o_call Try.call8 ln ((awake_spec _).mono ?_))
  rintro v18 w18 ⟨rfl, hx18⟩
  refine WL.c rfl (o_not' rfl ?_)
  refine WL.nil ?_
  refine W.condF' rfl (rfl) ?_
  refine W.skip ?_
  refine W.seq ?_
  refine W.region ?_
  refine WL.c rfl (o_mv ?_)
  refine WL.c rfl (o_call Try.call15 (lc rfl ln) ((get_spec xs v _ (hB.ext hx18) (by rw [maxLen_eq]; omega)).mono ?_))
  rintro v22 w22 ⟨rfl, rfl⟩
  refine WL.c rfl (o_mv ?_)
  refine WL.c rfl (o_ext rfl rfl ?_)
  refine WL.c rfl (o_ext rfl rfl ?_)
  refine WL.c rfl (o_ext rfl rfl ?_)
  refine WL.c rfl (o_as ?_)
  refine WL.c rfl (o_as ?_)
  refine WL.c rfl (o_as ?_)
  refine WL.nil ?_
  refine W.seq ?_
  refine W.region ?_
  refine WL.c rfl (o_call Try.call9 ln ((new_spec _).mono ?_))
  rintro v26 w26 ⟨rfl, hr26, hx26⟩
  refine WL.c rfl (o_as ?_)
  refine WL.nil ?_
  refine W.seq ?_
  refine W.seq ?_
  refine W.region ?_
  refine WL.c rfl (o_mv ?_)
  refine WL.c rfl (o_eqN TI25 rfl rfl ?_)
  refine WL.nil ?_
  refine W.condF' rfl (rfl) ?_
  refine W.skip ?_
  refine W.seq ?_
  refine W.seq ?_
  refine W.region ?_
  refine WL.c rfl (o_as ?_)
  refine WL.nil ?_
  refine W.block ?_
  refine W.loop (fun e w => ∃ k m p : Nat, k ≤ xs.length ∧ Rdn xs k m ∧ e 0 = v ∧ e 1 = .int .i64 c0 ∧ e 5 = .int .u64 ((vget 0 0 xs).1 : Int) ∧ e 6 = .int .i64 ((vget 0 0 xs).2.1 : Int) ∧ e 7 = .int .i64 ((vget 0 0 xs).2.2 : Int) ∧ e 8 = .pointer (some ⟨p, 0, none⟩) ∧ e 9 = .int .i64 (k : Int) ∧ w0.heap.size ≤ p ∧ RdP w p (xs.take k) false ∧ Ext w0 w) (fun e w => xs.length - (intOf (e 9)).toNat) ?_ ?_
  · exact ⟨0, 0, _, Nat.zero_le _, Rdn.zero xs, rfl, rfl, rfl, rfl, rfl, rfl, rfl, hx18.size, hr26, hx18.tr hx26⟩
  rintro e w ⟨k, m, p, hk, hR, h0, h1, h5, h6, h7, h8, h9, hp, hr, hx⟩
  have hm9 := h9
  have hk9 := hR.le9 hk
  have hok := hR.ok
  refine W.seq ?_
  refine W.seq ?_
  by_cases hk1 : k < xs.length
  · skip
    refine W.region ?_
    refine WL.c rfl (o_mvh h9 ?_)
    refine WL.c rfl (o_mvh h0 ?_)
    refine WL.c rfl (o_lenR TI32 rfl (hB.ext hx) ?_)
    refine WL.c rfl (o_lt rfl rfl ?_)
    refine WL.c rfl (o_mv ?_)
    refine WL.g rfl (by simp; omega) rfl (o_mvh h9 ?_)
    refine WL.g rfl (by simp; omega) rfl (o_lt rfl rfl ?_)
    refine WL.c rfl (o_pickA rfl rfl ?_)
    refine WL.nil ?_
    refine W.condT' rfl (by simp; omega) ?_
    refine W.skip ?_
    refine W.seq ?_
    refine W.block ?_
    refine W.seq ?_
    refine W.seq ?_
    refine W.region ?_
    refine WL.cut (fun e1 w1 => (∃ t, e1 46 = .bool t) ∧ e1 0 = v ∧ e1 1 = .int .i64 c0 ∧ e1 5 = .int .u64 ((vget 0 0 xs).1 : Int) ∧ e1 6 = .int .i64 ((vget 0 0 xs).2.1 : Int) ∧ e1 7 = .int .i64 ((vget 0 0 xs).2.2 : Int) ∧ e1 8 = .pointer (some ⟨p, 0, none⟩) ∧ e1 9 = .int .i64 (k : Int) ∧ w1 = w) ?_ ?_
    · -- region 10
      refine WL.c rfl (o_mvh h1 ?_)
      refine WL.c rfl (o_ge rfl rfl ?_)
      refine WL.c rfl (o_mv ?_)
      refine WL.sp 2 rfl (fun g41 => ?_) (fun g41 => ?_)
      · skip
        refine WL.g rfl (g41) rfl (o_mvh h1 ?_)
        refine WL.g rfl (g41) rfl (o_rem rfl rfl (by decide) ?_)
        refine WL.g rfl (g41) rfl (o_mvh h9 ?_)
        refine WL.g rfl (g41) rfl (o_eq rfl rfl ?_)
        refine WL.c rfl (o_pickA rfl rfl ?_)
        exact WL.nil (⟨⟨_, rfl⟩, h0, h1, h5, h6, h7, h8, h9, rfl⟩)
      · skip
        refine WL.s rfl (g41) rfl ?_
        refine WL.s rfl (g41) rfl ?_
        refine WL.s rfl (g41) rfl ?_
        refine WL.s rfl (g41) rfl ?_
        refine WL.c rfl (o_pickF rfl (g41) ?_)
        exact WL.nil (⟨⟨_, rfl⟩, h0, h1, h5, h6, h7, h8, h9, rfl⟩)
    rintro e w ⟨⟨t46, h46⟩, h0, h1, h5, h6, h7, h8, h9, rfl⟩
    refine W.cut (fun e1 w1 => ∃ p : Nat, e1 0 = v ∧ e1 1 = .int .i64 c0 ∧ e1 5 = .int .u64 ((vget 0 0 xs).1 : Int) ∧ e1 6 = .int .i64 ((vget 0 0 xs).2.1 : Int) ∧ e1 7 = .int .i64 ((vget 0 0 xs).2.2 : Int) ∧ e1 8 = .pointer (some ⟨p, 0, none⟩) ∧ e1 9 = .int .i64 (k : Int) ∧ w0.heap.size ≤ p ∧ RdP w1 p (xs.take k) false ∧ Ext w0 w1) ?_ ?_
    · -- both ways
      refine W.cond h46 (fun c46 => ?_) (fun c46 => ?_)
      · try simp only [decide_eq_true_eq, decide_eq_false_iff_not, Bool.not_eq_true', Bool.not_eq_false', Bool.and_eq_true, Bool.or_eq_true, Bool.and_eq_false_iff, Bool.or_eq_false_iff] at c46
        refine W.seq ?_
        refine W.region ?_
        refine WL.c rfl (o_mvh h8 ?_)
        refine WL.c rfl (o_call Try.call19 (lc rfl ln) ((read_spec p _ _ _ hr hok).mono ?_))
        rintro v49 w49 hf49
        have hx49 := hx.tr hf49.2
        refine WL.c rfl (o_call Try.call18 (lc rfl ln) ((load_spec (xs.take k) _ _ hf49.by (by rw [maxLen_eq]; simp; omega)).mono ?_))
        rw [hR.load]
        rintro v50 w50 ⟨rfl, hr50, hx50⟩
        have hr50 : RdP w50 w49.heap.size (xs.take k) false := hr50 rfl
        refine WL.c rfl (o_mv ?_)
        refine WL.c rfl (o_ext rfl rfl ?_)
        refine WL.c rfl (o_ext rfl rfl ?_)
        refine WL.c rfl (o_as ?_)
        refine WL.c rfl (o_as ?_)
        refine WL.nil ?_
        refine W.seq ?_
        refine W.seq ?_
        refine W.region ?_
        refine WL.c rfl (o_mv ?_)
        refine WL.c rfl (o_eqN (p := some ⟨_, 0, none⟩) TI25 rfl rfl ?_)
        refine WL.c rfl (o_mv ?_)
        refine WL.g rfl (rfl) rfl (o_mv ?_)
        refine WL.g rfl (rfl) rfl (o_call Try.call16 (lc rfl ln) ((num_spec _ _).mono ?_))
        rintro v57 w57 ⟨rfl, rfl⟩
        refine WL.g rfl (rfl) rfl (o_ne rfl rfl ?_)
        refine WL.c rfl (o_pickO rfl rfl ?_)
        refine WL.c rfl (o_mv ?_)
        refine WL.g rfl (by simp) rfl (o_mv ?_)
        refine WL.g rfl (by simp) rfl (o_call Try.call20 (lc rfl ln) ((n_spec w49.heap.size (xs.take k) false _ hr50 hok).mono ?_))
        rintro v62 w62 ⟨rfl, m62, rfl⟩
        refine WL.g rfl (by simp) rfl (o_mvh h8 ?_)
        refine WL.g rfl (by simp) rfl (o_call Try.call20 (lc rfl ln) ((n_spec p (xs.take k) false _ (hr.ext ((hf49.2.tr hx50).tr (Only.drewN _ m62))) hok).mono ?_))
        rintro v64 w64 ⟨rfl, m64, rfl⟩
        refine WL.g rfl (by simp) rfl (o_ne rfl rfl ?_)
        refine WL.c rfl (o_pickO rfl rfl ?_)
        refine WL.nil ?_
        refine W.condF' rfl (by simp) ?_
        refine W.skip ?_
        refine W.region ?_
        refine WL.c rfl (o_mv ?_)
        refine WL.c rfl (o_as ?_)
        refine WL.nil ?_
        first
        | exact ⟨p, h0, h1, h5, h6, h7, h8, h9, hp, hr, hx⟩
        | exact ⟨w49.heap.size, h0, h1, h5, h6, h7, rfl, h9, hx49.size, RdP.ext (RdP.ext hr50 (Only.drewN _ m62)) (Only.drewN _ m64), ((hx49.tr hx50).tr (Only.drewN _ m62)).tr (Only.drewN _ m64)⟩
      · try simp only [decide_eq_true_eq, decide_eq_false_iff_not, Bool.not_eq_true', Bool.not_eq_false', Bool.and_eq_true, Bool.or_eq_true, Bool.and_eq_false_iff, Bool.or_eq_false_iff] at c46
        refine W.skip ?_
        first
        | exact ⟨p, h0, h1, h5, h6, h7, h8, h9, hp, hr, hx⟩
        | exact ⟨w49.heap.size, h0, h1, h5, h6, h7, rfl, h9, hx49.size, RdP.ext (RdP.ext hr50 (Only.drewN _ m62)) (Only.drewN _ m64), ((hx49.tr hx50).tr (Only.drewN _ m62)).tr (Only.drewN _ m64)⟩
    rintro e w ⟨p, h0, h1, h5, h6, h7, h8, h9, hp, hr, hx⟩
    refine W.seq ?_
    rcases hR.three hk1 with ⟨hG, hdo, her, hne, hov⟩ | ⟨hG, hdo, her, hne, hov⟩ | ⟨hRn, hz, hge, hdo, her, hne, hov⟩
    · skip
      rw [hG] at h5 h6 h7
      dsimp only at h5 h6 h7
      refine W.region ?_
      refine WL.c rfl (o_mvh h8 ?_)
      refine WL.c rfl (o_mvh h0 ?_)
      refine WL.c rfl (o_mvh h9 ?_)
      refine WL.c rfl (o_ix1 TI32 TI5 rfl rfl (hB.ext hx) (by omega) ?_)
      intro b72 o72 hc72 hb72
      refine WL.c rfl (o_ld TI5 rfl rfl (hc72.trans (getbv hk1)) ?_)
      refine WL.c rfl (o_call Try.call21 (lc rfl (lc rfl ln)) ((byte_spec p xs[k] (xs.take k) false _ hr hok).mono ?_))
      rw [hdo, her, hne, hov]
      rintro v74 w74 ⟨rfl, hr74, hx74⟩
      refine WL.c rfl (o_mv ?_)
      refine WL.c rfl (o_ext rfl rfl ?_)
      refine WL.c rfl (o_ext rfl rfl ?_)
      refine WL.c rfl (o_as ?_)
      refine WL.c rfl (o_as ?_)
      refine WL.nil ?_
      refine W.block ?_
      refine W.seq ?_
      refine W.region ?_
      refine WL.c rfl (o_mvh h7 ?_)
      refine WL.c rfl (o_call Try.call16 (lc rfl ln) ((num_spec _ _).mono ?_))
      rintro v79 w79 ⟨rfl, rfl⟩
      refine WL.c rfl (o_eq rfl rfl ?_)
      refine WL.c rfl (o_mv ?_)
      refine WL.g rfl (by simp) rfl (o_mvh h9 ?_)
      refine WL.g rfl (by simp) rfl (o_mvh h6 ?_)
      refine WL.g rfl (by simp) rfl (o_eq rfl rfl ?_)
      refine WL.c rfl (o_pickA rfl rfl ?_)
      refine WL.c rfl (o_as ?_)
      refine WL.nil ?_
      refine W.condT' rfl (by simp) ?_
      refine W.seq ?_
      refine W.region ?_
      refine WL.c rfl (o_mvh h8 ?_)
      refine WL.c rfl (o_call Try.call21 (lc rfl (lc rfl ln)) ((byte_spec p 0 (xs.take k) true _ hr74 (by have := hok.next xs[k]; rwa [hne, hov] at this)).mono ?_))
      rintro v88 w88 ⟨rfl, hr88, hx88⟩
      have hokA : RdOk (xs.take k) true := by have := hok.next xs[k]; rwa [hne, hov] at this
      have hxA := own_ge (own_ge hx hp hx74) hp hx88
      refine WL.c rfl (o_mv ?_)
      refine WL.c rfl (o_ext rfl rfl ?_)
      refine WL.c rfl (o_ext rfl rfl ?_)
      refine WL.c rfl (o_as ?_)
      refine WL.c rfl (o_as ?_)
      refine WL.nil ?_
      refine W.seq ?_
      refine W.region ?_
      refine WL.c rfl (o_mv ?_)
      refine WL.c rfl (o_not' rfl ?_)
      refine WL.c rfl (o_mv ?_)
      refine WL.g rfl (rfl) rfl (o_mv ?_)
      refine WL.g rfl (rfl) rfl (o_call Try.call16 (lc rfl ln) ((num_spec _ _).mono ?_))
      rintro v95 w95 ⟨rfl, rfl⟩
      refine WL.g rfl (rfl) rfl (o_eq rfl rfl ?_)
      refine WL.c rfl (o_pickA rfl rfl ?_)
      refine WL.c rfl (o_mv ?_)
      refine WL.g rfl (by simp) rfl (o_mv ?_)
      refine WL.g rfl (by simp) rfl (o_not' rfl ?_)
      refine WL.c rfl (o_pickA rfl rfl ?_)
      refine WL.c rfl (o_mv ?_)
      refine WL.g rfl (by simp [rdone]) rfl (o_mv ?_)
      refine WL.g rfl (by simp [rdone]) rfl (o_call Try.call16 (lc rfl ln) ((num_spec _ _).mono ?_))
      rintro v104 w104 ⟨rfl, rfl⟩
      refine WL.g rfl (by simp [rdone]) rfl (o_eq rfl rfl ?_)
      refine WL.c rfl (o_pickA rfl rfl ?_)
      refine WL.c rfl (o_mv ?_)
      refine WL.g rfl (by simp [rdone, rerr]) rfl (o_mvh h8 ?_)
      refine WL.g rfl (by simp [rdone, rerr]) rfl (o_call Try.call19 (lc rfl ln) ((read_spec p (xs.take k) true _ hr88 hokA).mono ?_))
      rintro v109 w109 hf109
      refine WL.g rfl (by simp [rdone, rerr]) rfl (o_lenR TI32 rfl hf109.by ?_)
      refine WL.g rfl (by simp [rdone, rerr]) rfl (o_mvh h9 ?_)
      refine WL.g rfl (by simp [rdone, rerr]) rfl (o_eq rfl rfl ?_)
      refine WL.c rfl (o_pickA rfl rfl ?_)
      refine WL.c rfl (o_as ?_)
      refine WL.nil ?_
      refine W.ret ?_
      refine ret1v rfl (show _ = Value.bool _ from rfl) ?_
      exact ⟨congrArg Value.bool (by simp [rdone, rerr]; omega), hxA.tr hf109.2⟩
    · skip
      rw [hG] at h5 h6 h7
      dsimp only at h5 h6 h7
      refine W.region ?_
      refine WL.c rfl (o_mvh h8 ?_)
      refine WL.c rfl (o_mvh h0 ?_)
      refine WL.c rfl (o_mvh h9 ?_)
      refine WL.c rfl (o_ix1 TI32 TI5 rfl rfl (hB.ext hx) (by omega) ?_)
      intro b72 o72 hc72 hb72
      refine WL.c rfl (o_ld TI5 rfl rfl (hc72.trans (getbv hk1)) ?_)
      refine WL.c rfl (o_call Try.call21 (lc rfl (lc rfl ln)) ((byte_spec p xs[k] (xs.take k) false _ hr hok).mono ?_))
      rw [hdo, her, hne, hov]
      rintro v74 w74 ⟨rfl, hr74, hx74⟩
      refine WL.c rfl (o_mv ?_)
      refine WL.c rfl (o_ext rfl rfl ?_)
      refine WL.c rfl (o_ext rfl rfl ?_)
      refine WL.c rfl (o_as ?_)
      refine WL.c rfl (o_as ?_)
      refine WL.nil ?_
      refine W.block ?_
      refine W.seq ?_
      refine W.region ?_
      refine WL.c rfl (o_mvh h7 ?_)
      refine WL.c rfl (o_call Try.call16 (lc rfl ln) ((num_spec _ _).mono ?_))
      rintro v79 w79 ⟨rfl, rfl⟩
      refine WL.c rfl (o_eq rfl rfl ?_)
      refine WL.c rfl (o_mv ?_)
      refine WL.s rfl (by simp) rfl ?_
      refine WL.s rfl (by simp) rfl ?_
      refine WL.s rfl (by simp) rfl ?_
      refine WL.c rfl (o_pickF rfl (by simp) ?_)
      refine WL.c rfl (o_as ?_)
      refine WL.nil ?_
      refine W.condF' rfl (by simp) ?_
      refine W.seq ?_
      refine W.region ?_
      refine WL.c rfl (o_mv ?_)
      refine WL.c rfl (o_call Try.call16 (lc rfl ln) ((num_spec _ _).mono ?_))
      rintro v116 w116 ⟨rfl, rfl⟩
      refine WL.c rfl (o_ne rfl rfl ?_)
      refine WL.c rfl (o_as ?_)
      refine WL.nil ?_
      refine W.condF' rfl (by simp) ?_
      refine W.seq ?_
      refine W.region ?_
      refine WL.c rfl (o_mv ?_)
      refine WL.c rfl (o_as ?_)
      refine WL.nil ?_
      refine W.condT' rfl (rfl) ?_
      refine W.seq ?_
      refine W.region ?_
      refine WL.c rfl (o_mvh h8 ?_)
      refine WL.c rfl (o_mvh h0 ?_)
      refine WL.c rfl (o_mvh h9 ?_)
      refine WL.c rfl (o_ix1 TI32 TI5 rfl rfl (hB.ext (own_ge hx hp hx74)) (by omega) ?_)
      intro b124 o124 hc124 hb124
      refine WL.c rfl (o_ld TI5 rfl rfl (hc124.trans (getbv hk1)) ?_)
      refine WL.c rfl (o_call Try.call21 (lc rfl (lc rfl ln)) ((byte_spec p xs[k] (xs.take (k + 1)) true _ hr74 (by have := hok.next xs[k]; rwa [hne, hov] at this)).mono ?_))
      rintro v126 w126 ⟨rfl, hr126, hx126⟩
      have hokB : RdOk (xs.take (k + 1)) true := by have := hok.next xs[k]; rwa [hne, hov] at this
      have hxB := own_ge (own_ge hx hp hx74) hp hx126
      refine WL.c rfl (o_mv ?_)
      refine WL.c rfl (o_ext rfl rfl ?_)
      refine WL.c rfl (o_ext rfl rfl ?_)
      refine WL.c rfl (o_as ?_)
      refine WL.c rfl (o_as ?_)
      refine WL.nil ?_
      refine W.seq ?_
      have hBd := hB.ext (hxB.tr (Only.drew _))
      have hrd := RdP.ext hr126 (Only.drew _)
      refine W.draw (Ext) [(7, fun v _ => v = _), (6, fun v _ => v = _), (9, fun v _ => v = _), (8, fun v _ => v = _), (5, fun v _ => v = _), (0, fun v _ => v = _), (16, fun v _ => v = _), (17, fun v _ => v = _)] rfl (by kernel_rfl) (Only.refl No) (fun _ _ _ h k => h.trans k) ⟨Mono.eq, Mono.eq, Mono.eq, Mono.eq, Mono.eq, Mono.eq, Mono.eq, Mono.eq, trivial⟩ ⟨h7, h6, h9, h8, h5, h0, rfl, rfl, trivial⟩ ?_
      refine WD.p rfl (fun e w hR hh => by obtain ⟨h7, -⟩ := hh; exact SG.n (o_mvh h7 ⟨rfl, Only.refl No _⟩)) ?_
      refine WD.p rfl (fun e w hR hh => by obtain ⟨h129, -⟩ := hh; exact SG.n (o_call Try.call16 (lc h129 ln) ((num_spec _ _).mono (fun v w' ⟨h1, h2⟩ => ⟨h1, by rw [h2]; exact Only.refl No _⟩)))) ?_
      refine WD.p rfl (fun e w hR hh => by obtain ⟨h130, -⟩ := hh; exact SG.n (o_eq h130 rfl ⟨rfl, Only.refl No _⟩)) ?_
      refine WD.p rfl (fun e w hR hh => by obtain ⟨h131, -⟩ := hh; exact SG.n (o_mvh h131 ⟨rfl, Only.refl No _⟩)) ?_
      refine WD.p rfl (fun e w hR hh => by obtain ⟨h132, h6, -⟩ := hh; exact SG.g h132 (by simp) (o_mvh h6 ⟨rfl, Only.refl No _⟩)) ?_
      refine WD.p rfl (fun e w hR hh => by obtain ⟨h132, h9, -⟩ := hh; exact SG.g h132 (by simp) (o_mvh h9 ⟨rfl, Only.refl No _⟩)) ?_
      refine WD.p rfl (fun e w hR hh => by obtain ⟨h134, h132, -⟩ := hh; exact SG.g h132 (by simp) (o_addi h134 rfl (by omega) ⟨rfl, Only.refl No _⟩)) ?_
      refine WD.p rfl (fun e w hR hh => by obtain ⟨h135, h133, h132, -⟩ := hh; exact SG.g h132 (by simp) (o_eq h133 h135 ⟨rfl, Only.refl No _⟩)) ?_
      refine WD.p rfl (fun e w hR hh => by obtain ⟨h136, h132, -⟩ := hh; exact SG.n (o_pickA h132 h136 ⟨rfl, Only.refl No _⟩)) ?_
      refine WD.p rfl (fun e w hR hh => by obtain ⟨h137, -⟩ := hh; exact SG.n (o_mvh h137 ⟨rfl, Only.refl No _⟩)) ?_
      refine WD.p rfl (fun e w hR hh => by obtain ⟨h138, h8, -⟩ := hh; exact SG.g h138 (by simp) (o_mvh h8 ⟨rfl, Only.refl No _⟩)) ?_
      refine WD.p rfl (fun e w hR hh => by obtain ⟨h139, h138, -⟩ := hh; exact SG.g h138 (by simp) (o_call Try.call20 (lc h139 ln) ((n_spec p (xs.take (k + 1)) true _ (hrd.ext hR) hokB).mono (fun v w' ⟨h1, m, h2⟩ => ⟨h1, by rw [h2]; exact Only.drewN _ m⟩)))) ?_
      refine WD.p rfl (fun e w hR hh => by obtain ⟨h138, h5, -⟩ := hh; exact SG.g h138 (by simp) (o_mvh h5 ⟨rfl, Only.refl No _⟩)) ?_
      refine WD.p rfl (fun e w hR hh => by obtain ⟨h141, h140, h138, -⟩ := hh; exact SG.g h138 (by simp) (o_eq h140 h141 ⟨rfl, Only.refl No _⟩)) ?_
      refine WD.p rfl (fun e w hR hh => by obtain ⟨h142, h138, -⟩ := hh; exact SG.n (o_pickA h138 h142 ⟨rfl, Only.refl No _⟩)) ?_
      refine WD.p rfl (fun e w hR hh => by obtain ⟨h143, -⟩ := hh; exact SG.n (o_mvh h143 ⟨rfl, Only.refl No _⟩)) ?_
      refine WD.p rfl (fun e w hR hh => by obtain ⟨h144, h8, -⟩ := hh; exact SG.g h144 (by simp) (o_mvh h8 ⟨rfl, Only.refl No _⟩)) ?_
      refine WD.q (fun u w => By w u (xs.take (k + 1))) (fun _ _ _ hR h => h.ext hR) rfl (fun e w hR hh => by obtain ⟨h145, h144, -⟩ := hh; exact SG.g h144 (by simp) (o_call Try.call19 (lc h145 ln) ((read_spec p (xs.take (k + 1)) true _ (hrd.ext hR) hokB).mono (fun v w' h => ⟨h.by, h.2⟩)))) ?_
      refine WD.p rfl (fun e w hR hh => by obtain ⟨h144, h0, -⟩ := hh; exact SG.g h144 (by simp) (o_mvh h0 ⟨rfl, Only.refl No _⟩)) ?_
      refine WD.p rfl (fun e w hR hh => by obtain ⟨h144, h6, -⟩ := hh; exact SG.g h144 (by simp) (o_mvh h6 ⟨rfl, Only.refl No _⟩)) ?_
      refine WD.q (fun u w => By w u (xs.take (k + 1))) (fun _ _ _ hR h => h.ext hR) rfl (fun e w hR hh => by obtain ⟨h148, h147, h144, -⟩ := hh; exact SG.g h144 (by simp) (o_sl TI32 TI5 h147 (hBd.ext hR) Lo.n (Hi.s h148) (by omega) (by omega) (fun v149 hv149 hS149 => ⟨by have := hS149; simp only [Nat.zero_mul, List.drop_zero, Nat.sub_zero, Nat.mul_one] at this; exact by_take (by omega) this, Only.refl No _⟩))) ?_
      refine WD.p rfl (fun e w hR hh => by obtain ⟨h149, h146, h144, -⟩ := hh; exact SG.g h144 (by simp) (o_call Try.call17 (lc rfl (lc rfl ln)) ((same_spec _ _ _ _ _ h146 h149).mono (fun v w' ⟨h1, h2⟩ => ⟨h1, by rw [h2]; exact Only.refl No _⟩)))) ?_
      refine WD.p rfl (fun e w hR hh => by obtain ⟨h150, h144, -⟩ := hh; exact SG.n (o_pickA h144 h150 ⟨rfl, Only.refl No _⟩)) ?_
      refine WD.p rfl (fun e w hR hh => by obtain ⟨h151, -⟩ := hh; exact SG.n (o_mvh h151 ⟨rfl, Only.refl No _⟩)) ?_
      refine WD.p rfl (fun e w hR hh => by obtain ⟨h152, h16, -⟩ := hh; exact SG.g h152 (by simp) (o_mvh h16 ⟨rfl, Only.refl No _⟩)) ?_
      refine WD.p rfl (fun e w hR hh => by obtain ⟨h153, h152, -⟩ := hh; exact SG.g h152 (by simp) (o_not' h153 ⟨rfl, Only.refl No _⟩)) ?_
      refine WD.p rfl (fun e w hR hh => by obtain ⟨h154, h152, -⟩ := hh; exact SG.n (o_pickA h152 h154 ⟨rfl, Only.refl No _⟩)) ?_
      refine WD.p rfl (fun e w hR hh => by obtain ⟨h155, -⟩ := hh; exact SG.n (o_mvh h155 ⟨rfl, Only.refl No _⟩)) ?_
      refine WD.p rfl (fun e w hR hh => by obtain ⟨h156, h17, -⟩ := hh; exact SG.g h156 (by simp [rdone]) (o_mvh h17 ⟨rfl, Only.refl No _⟩)) ?_
      refine WD.p rfl (fun e w hR hh => by obtain ⟨h157, h156, -⟩ := hh; exact SG.g h156 (by simp [rdone]) (o_call Try.call16 (lc h157 ln) ((num_spec _ _).mono (fun v w' ⟨h1, h2⟩ => ⟨h1, by rw [h2]; exact Only.refl No _⟩)))) ?_
      refine WD.p rfl (fun e w hR hh => by obtain ⟨h158, h156, -⟩ := hh; exact SG.g h156 (by simp [rdone]) (o_eq h158 rfl ⟨rfl, Only.refl No _⟩)) ?_
      refine WD.p rfl (fun e w hR hh => by obtain ⟨h159, h156, -⟩ := hh; exact SG.n (o_pickA h156 h159 ⟨rfl, Only.refl No _⟩)) ?_
      refine WD.p rfl (fun e w hR hh => by obtain ⟨h160, -⟩ := hh; exact SG.n (o_ash h160 ⟨rfl, Only.refl No _⟩)) ?_
      rintro e w hR ⟨h4, h160, h159, h158, h157, h156, h155, h154, h153, h152, h151, h150, h149, h148, h147, h146, h145, h144, h143, h142, h141, h140, h139, h138, h137, h136, h135, h134, h133, h132, h131, h130, h129, h7, h6, h9, h8, h5, h0, h16, h17, -⟩
      refine W.ret ?_
      refine ret1v rfl h4 ?_
      exact ⟨congrArg Value.bool (by simp [rdone, rerr]), (hxB.tr (Only.drew _)).tr hR⟩
    · skip
      refine W.region ?_
      refine WL.c rfl (o_mvh h8 ?_)
      refine WL.c rfl (o_mvh h0 ?_)
      refine WL.c rfl (o_mvh h9 ?_)
      refine WL.c rfl (o_ix1 TI32 TI5 rfl rfl (hB.ext hx) (by omega) ?_)
      intro b72 o72 hc72 hb72
      refine WL.c rfl (o_ld TI5 rfl rfl (hc72.trans (getbv hk1)) ?_)
      refine WL.c rfl (o_call Try.call21 (lc rfl (lc rfl ln)) ((byte_spec p xs[k] (xs.take k) false _ hr hok).mono ?_))
      rw [hdo, her, hne, hov]
      rintro v74 w74 ⟨rfl, hr74, hx74⟩
      refine WL.c rfl (o_mv ?_)
      refine WL.c rfl (o_ext rfl rfl ?_)
      refine WL.c rfl (o_ext rfl rfl ?_)
      refine WL.c rfl (o_as ?_)
      refine WL.c rfl (o_as ?_)
      refine WL.nil ?_
      refine W.block ?_
      refine W.seq ?_
      refine W.region ?_
      refine WL.cut (fun e1 w1 => e1 77 = .bool false ∧ e1 0 = v ∧ e1 1 = .int .i64 c0 ∧ e1 5 = .int .u64 ((vget 0 0 xs).1 : Int) ∧ e1 6 = .int .i64 ((vget 0 0 xs).2.1 : Int) ∧ e1 7 = .int .i64 ((vget 0 0 xs).2.2 : Int) ∧ e1 8 = .pointer (some ⟨p, 0, none⟩) ∧ e1 9 = .int .i64 (k : Int) ∧ e1 12 = .bool false ∧ e1 13 = .int .i64 0 ∧ RdP w1 p (xs.take (k + 1)) false ∧ Ext w0 w1) ?_ ?_
      · -- region 16
        refine WL.c rfl (o_mvh h7 ?_)
        refine WL.c rfl (o_call Try.call16 (lc rfl ln) ((num_spec _ _).mono ?_))
        rintro v79 w79 ⟨rfl, rfl⟩
        refine WL.c rfl (o_eq rfl rfl ?_)
        refine WL.c rfl (o_mv ?_)
        refine WL.sp 3 rfl (fun g81 => ?_) (fun g81 => ?_)
        · skip
          refine WL.g rfl (g81) rfl (o_mvh h9 ?_)
          refine WL.g rfl (g81) rfl (o_mvh h6 ?_)
          refine WL.g rfl (g81) rfl (o_eq rfl rfl ?_)
          refine WL.c rfl (o_pickA rfl rfl ?_)
          refine WL.c rfl (o_as ?_)
          exact WL.nil (⟨congrArg Value.bool (by simp <;> omega), h0, h1, h5, h6, h7, h8, h9, rfl, rfl, hr74, own_ge hx hp hx74⟩)
        · skip
          refine WL.s rfl (g81) rfl ?_
          refine WL.s rfl (g81) rfl ?_
          refine WL.s rfl (g81) rfl ?_
          refine WL.c rfl (o_pickF rfl (g81) ?_)
          refine WL.c rfl (o_as ?_)
          exact WL.nil (⟨congrArg Value.bool (by simp <;> omega), h0, h1, h5, h6, h7, h8, h9, rfl, rfl, hr74, own_ge hx hp hx74⟩)
      rintro e w ⟨h77, h0, h1, h5, h6, h7, h8, h9, h12, h13, hr74, hx2⟩
      refine W.condF' h77 (rfl) ?_
      refine W.seq ?_
      refine W.region ?_
      refine WL.c rfl (o_mvh h13 ?_)
      refine WL.c rfl (o_call Try.call16 (lc rfl ln) ((num_spec _ _).mono ?_))
      rintro v116 w116 ⟨rfl, rfl⟩
      refine WL.c rfl (o_ne rfl rfl ?_)
      refine WL.c rfl (o_as ?_)
      refine WL.nil ?_
      refine W.condF' rfl (by simp) ?_
      refine W.seq ?_
      refine W.region ?_
      refine WL.c rfl (o_mvh h12 ?_)
      refine WL.c rfl (o_as ?_)
      refine WL.nil ?_
      refine W.condF' rfl (rfl) ?_
      refine W.seq ?_
      refine W.region ?_
      refine WL.cut (fun e1 w1 => e1 161 = .bool false ∧ e1 0 = v ∧ e1 1 = .int .i64 c0 ∧ e1 5 = .int .u64 ((vget 0 0 xs).1 : Int) ∧ e1 6 = .int .i64 ((vget 0 0 xs).2.1 : Int) ∧ e1 7 = .int .i64 ((vget 0 0 xs).2.2 : Int) ∧ e1 8 = .pointer (some ⟨p, 0, none⟩) ∧ e1 9 = .int .i64 (k : Int) ∧ RdP w1 p (xs.take (k + 1)) false ∧ Ext w0 w1) ?_ ?_
      · -- region 24
        refine WL.c rfl (o_mvh h7 ?_)
        refine WL.c rfl (o_call Try.call16 (lc rfl ln) ((num_spec _ _).mono ?_))
        rintro v163 w163 ⟨rfl, rfl⟩
        refine WL.c rfl (o_eq rfl rfl ?_)
        refine WL.c rfl (o_mv ?_)
        refine WL.sp 3 rfl (fun g165 => ?_) (fun g165 => ?_)
        · skip
          refine WL.g rfl (g165) rfl (o_mvh h9 ?_)
          refine WL.g rfl (g165) rfl (o_addi rfl rfl (by omega) ?_)
          refine WL.g rfl (g165) rfl (o_mvh h6 ?_)
          refine WL.g rfl (g165) rfl (o_ge rfl rfl ?_)
          refine WL.c rfl (o_pickA rfl rfl ?_)
          refine WL.c rfl (o_as ?_)
          exact WL.nil (⟨congrArg Value.bool (by simp <;> omega), h0, h1, h5, h6, h7, h8, h9, hr74, hx2⟩)
        · skip
          refine WL.s rfl (g165) rfl ?_
          refine WL.s rfl (g165) rfl ?_
          refine WL.s rfl (g165) rfl ?_
          refine WL.s rfl (g165) rfl ?_
          refine WL.c rfl (o_pickF rfl (g165) ?_)
          refine WL.c rfl (o_as ?_)
          exact WL.nil (⟨congrArg Value.bool (by simp <;> omega), h0, h1, h5, h6, h7, h8, h9, hr74, hx2⟩)
      rintro e w ⟨h161, h0, h1, h5, h6, h7, h8, h9, hr74, hx2⟩
      refine W.condF' h161 (rfl) ?_
      refine W.skip ?_
      refine W.region ?_
      refine WL.c rfl (o_mvh h9 ?_)
      refine WL.c rfl (o_addi rfl rfl (by omega) ?_)
      refine WL.c rfl (o_as ?_)
      refine WL.nil ?_
      refine ⟨⟨k + 1, _, p, by omega, hRn, h0, h1, h5, h6, h7, h8, rfl, hp, hr74, hx2⟩, ?_⟩
      show xs.length - ((k : Int) + 1).toNat < _
      rw [hm9]; simp [intOf]; omega
  · skip
    have hG : vget 0 0 xs = (0, k, 20) := by rw [hR.get, List.drop_eq_nil_of_le (by omega)]; rfl
    rw [hG] at h5 h6 h7
    dsimp only at h5 h6 h7
    refine W.region ?_
    refine WL.c rfl (o_mvh h9 ?_)
    refine WL.c rfl (o_mvh h0 ?_)
    refine WL.c rfl (o_lenR TI32 rfl (hB.ext hx) ?_)
    refine WL.c rfl (o_lt rfl rfl ?_)
    refine WL.c rfl (o_mv ?_)
    refine WL.s rfl (by simp; omega) rfl ?_
    refine WL.s rfl (by simp; omega) rfl ?_
    refine WL.c rfl (o_pickF rfl (by simp; omega) ?_)
    refine WL.nil ?_
    refine W.condF' rfl (by simp) ?_
    refine W.exit ?_
    refine W.seq ?_
    refine W.region ?_
    refine WL.c rfl (o_mvh h7 ?_)
    refine WL.c rfl (o_call Try.call16 (lc rfl ln) ((num_spec _ _).mono ?_))
    rintro v172 w172 ⟨rfl, rfl⟩
    refine WL.c rfl (o_eq rfl rfl ?_)
    refine WL.c rfl (o_mv ?_)
    refine WL.g rfl (by simp) rfl (o_mvh h6 ?_)
    refine WL.g rfl (by simp) rfl (o_mvh h0 ?_)
    refine WL.g rfl (by simp) rfl (o_lenR TI32 rfl (hB.ext hx) ?_)
    refine WL.g rfl (by simp) rfl (o_eq rfl rfl ?_)
    refine WL.c rfl (o_pickA rfl rfl ?_)
    refine WL.c rfl (o_mv ?_)
    refine WL.g rfl (by simp <;> omega) rfl (o_mvh h8 ?_)
    refine WL.g rfl (by simp <;> omega) rfl (o_call Try.call19 (lc rfl ln) ((read_spec p (xs.take k) false _ hr hok).mono ?_))
    rintro v182 w182 hf182
    refine WL.g rfl (by simp <;> omega) rfl (o_mvh h0 ?_)
    refine WL.g rfl (by simp <;> omega) rfl (o_call Try.call17 (lc rfl (lc rfl ln)) ((same_spec _ _ _ _ _ hf182.by (hB.ext (hx.tr hf182.2))).mono ?_))
    rintro v184 w184 ⟨rfl, rfl⟩
    refine WL.c rfl (o_pickA rfl rfl ?_)
    refine WL.c rfl (o_as ?_)
    refine WL.nil ?_
    refine W.ret ?_
    refine ret1v rfl (show _ = Value.bool _ from rfl) ?_
    exact ⟨congrArg Value.bool (by have : xs.take k = xs := List.take_of_length_le (by omega); simp [this]; omega), hx.tr hf182.2⟩
end Go.Proofs.Ytieldjpbempkcaa
