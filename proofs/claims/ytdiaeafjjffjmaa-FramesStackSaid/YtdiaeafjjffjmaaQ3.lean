/-
  Walks. Written by program out of specs of mine.
-/
import Derived.Test.YtdiaeafjjffjmaaQ2
import Derived.Deep.DeepAppendWide
set_option linter.unusedSimpArgs false
set_option linter.unusedVariables false
set_option maxRecDepth 100000
namespace Go.Proofs.Ytdiaeafjjffjmaa
open Go Go.Vc Go.RowKit Go.Proofs

theorem o_apW {P : Program} {e : Env} {w : World} {K : Value → World → Prop} {ty : TypeId} {x y : Operand} {t el : TypeId} {s bs s' bs' n m : Nat} {z z' v u : Value} {d' : TypeDesc} {xs ys : List Value} (base : Nat) (ht : Ty P t (.slice el) s bs z) (hel : Ty P el d' s' bs' z') (hx : ev e x = v) (hy : ev e y = u)
    (hown : w.ownsRow base el s' v n xs) (hS : Sl w s' u m ys) (hm : 0 < m) (hzs : z'.cells.size = s') (hsz : 0 < s') (h1 : ∀ a ∈ ys, a.oneCell' = true) (h63 : n + m ≤ maxLen) (hby : ((n + m) + (n + m) / 4 + 192) * bs' ≤ 281474976710656) (hbase : base ≤ w.heap.size)
    (k : ∀ v' w', w'.ownsRow base el s' v' (n + m) (xs ++ ys) → Only (fun k => v.ownBlock = some k) w w' → K v' w') : OP P e (.call ⟨.builtin .append, #[x, y], #[t, t]⟩) ty w K := by
  obtain ⟨i, hi1, hi2, hi3, hi4⟩ := hel.info
  rcases hS.val with ⟨rfl, a, c, rfl⟩ | ⟨b, off, c, rfl, hnc, hc⟩
  · omega
  · obtain ⟨v', w', hr, h2, h3, -⟩ := run_append_own_wide (P := P) w base t ty el i z' s' bs' ht.und hi1 hi4 hi2 hi3 hzs hsz v n xs hown ⟨b, off, none⟩ m c ys hS.len (fun j u hj => by rw [add_none]; exact hc j u hj) h1 h63 hby hbase
    exact OP.of (by simp [execOp, resolve, invoke, builtin, hx, hy, hr]) (k v' w' h2 ((Only.grown h3).mono (fun _ _ h => h.symm)))
def fz : Fr := ⟨0, 0, 0, -1, -1, 0, []⟩
theorem fz_w : fwhole fz = true := by decide
theorem reps {k : Nat} : List.replicate k fz ++ [fz] = List.replicate (k + 1) fz := by rw [List.replicate_succ']
theorem rdS_bad_ne {xs : List UInt8} {e a : Nat} (h : rdS xs = .bad e a) : e ≠ 0 := by
  have hN : ∀ {a0 : Nat} {lo hi : Int} {e a : Nat}, rdN xs a0 lo hi = .bad e a → e ≠ 0 := by
    intro a0 lo hi e a h
    unfold rdN at h
    split at h
    · split at h
      · simp only [Rd.bad.injEq] at h; omega
      · cases h
    · rename_i h0; simp only [Rd.bad.injEq] at h; rw [← h.1]; exact h0
  have hB : ∀ {α β : Type} {r : Rd α} {f : α → Nat → Rd β} {e a : Nat}, r.bind f = .bad e a → r = .bad e a ∨ ∃ x a', f x a' = .bad e a := by
    intro α β r f e a h
    cases r with
    | ok x a' => exact .inr ⟨x, a', h⟩
    | bad e' a' => simp only [Rd.bind, Rd.bad.injEq] at h; exact .inl (by rw [h.1, h.2])
  have hM : ∀ (m : Nat) {a0 : Nat} {acc : List Int} {e a : Nat}, rdMany xs m a0 acc = .bad e a → e ≠ 0 := by
    intro m
    induction m with
    | zero => intro a0 acc e a h; cases h
    | succ m ih =>
      intro a0 acc e a h
      rw [rdMany] at h
      rcases hB h with h | ⟨x, a', h⟩
      · exact hN h
      · exact ih h
  have hF : ∀ {a0 e a : Nat}, rdF xs a0 = .bad e a → e ≠ 0 := by
    intro a0 e a h
    rw [rdF] at h
    rcases hB h with h | ⟨_, _, h⟩
    · exact hN h
    rcases hB h with h | ⟨_, _, h⟩
    · exact hN h
    rcases hB h with h | ⟨_, _, h⟩
    · exact hN h
    rcases hB h with h | ⟨_, _, h⟩
    · exact hN h
    rcases hB h with h | ⟨_, _, h⟩
    · exact hN h
    rcases hB h with h | ⟨_, _, h⟩
    · exact hN h
    rcases hB h with h | ⟨_, _, h⟩
    · exact hN h
    rcases hB h with h | ⟨_, _, h⟩
    · exact hM _ h
    cases h
  have hL : ∀ (m : Nat) {a0 : Nat} {acc : List Fr} {e a : Nat}, rdL xs m a0 acc = .bad e a → e ≠ 0 := by
    intro m
    induction m with
    | zero => intro a0 acc e a h; cases h
    | succ m ih =>
      intro a0 acc e a h
      rw [rdL] at h
      rcases hB h with h | ⟨x, a', h⟩
      · exact hF h
      · exact ih h
  unfold rdS at h
  split at h
  · simp only [Rd.bad.injEq] at h; omega
  · split at h
    · rw [rdS1] at h
      rcases hB h with h | ⟨_, _, h⟩
      · exact hN h
      rcases hB h with h | ⟨_, _, h⟩
      · exact hN h
      rcases hB h with h | ⟨_, _, h⟩
      · exact hN h
      rcases hB h with h | ⟨_, _, h⟩
      · exact hL _ h
      split at h
      · simp only [Rd.bad.injEq] at h; omega
      · cases h
    · simp only [Rd.bad.injEq] at h; omega
theorem len_ok2 {sv : List UInt8} {most high : Nat} {L : List Fr} (hsv : sv = saved most high L) (hm : most ≤ 1048576) (hl : L.length ≤ 40) (hh : high ≤ 1048576) (hw : ∀ f ∈ L, fwhole f = true) : sv.length ≤ 500000000 := by
  subst hsv
  have h1 := vIs_len (l := [(most : Int), (L.length : Int), (high : Int)]) (by intro n hn; simp only [List.mem_cons, List.not_mem_nil, or_false] at hn; unfold numOk; omega)
  have h2 := frames_len hw
  rw [saved, List.length_cons, List.length_append]
  simp only [List.length_cons, List.length_nil] at h1
  omega
theorem cells_ty {w : World} {p : Nat} {cs cs' : Array Value} {T T' : TypeId} {fr fr' : Nat × Nat} (h1 : w.heap[p]? = some (.cells cs T fr)) (h2 : w.heap[p]? = some (.cells cs' T' fr')) : T = T' := by
  rw [h1] at h2; simp only [Option.some.injEq, Obj.cells.injEq] at h2; exact h2.2.1
theorem pushF {most high : Nat} {L : List Fr} {f : Fr} (h : most ≤ L.length) : pushR most high L f = (220, high, L) := by rw [pushR, if_pos h]
theorem modN (n : Int) {m : Nat} (h : 0 < m) : n % (m : Int) = ((n % (m : Int)).toNat : Int) ∧ (n % (m : Int)).toNat < m := by
  have h1 := Int.emod_nonneg n (show (m : Int) ≠ 0 by omega)
  have h2 := Int.emod_lt_of_pos n (show (0 : Int) < (m : Int) by omega)
  omega
theorem by_front {w : World} {g n c k : Nat} {sv : List UInt8} (h : By w (.slice (some ⟨g, 0, none⟩) n c) sv) (hn : n = sv.length) (hk : k ≤ sv.length) : By w (.slice (some ⟨g, 0, none⟩) k c) (sv.take k) := by
  subst hn
  have hkl : (sv.take k).length = k := by rw [List.length_take]; omega
  obtain ⟨hl, hv⟩ := h
  rcases hv with ⟨h1, a, c', hv⟩ | ⟨b, off, c', hv, hnc, hc⟩
  · have : k = 0 := by omega
    subst this
    exact ⟨by simp, .inl ⟨by simp, _, _, rfl⟩⟩
  · simp only [Value.slice.injEq, Option.some.injEq, Addr.mk.injEq, and_true] at hv
    obtain ⟨⟨rfl, rfl⟩, -, rfl⟩ := hv
    show Sl w 1 _ (sv.take k).length _
    rw [hkl]
    refine ⟨by simp; omega, .inr ⟨_, _, _, rfl, by omega, fun i v hv => hc i v ?_⟩⟩
    rw [List.map_take, List.getElem?_take] at hv
    split at hv
    · exact hv
    · cases hv

set_option maxHeartbeats 2000000 in
theorem back_walk (w0 : World) (v : Value) (L : List Fr) (V : Nat → Value) (hF : Fs w0 v L V) (gone : Int) (at_ : Int) (mv : Value) (xs : List UInt8) (hxl : xs.length ≤ 140737488351232) (hX : By w0 mv xs) (yv : Value) (ys : List UInt8) (hyl : ys.length ≤ 140737488351232) (hY : By w0 yv ys) : Ca Try.prog 3 #[v, .int .i64 gone, .int .i64 at_, mv, yv] w0 (fun r w' => r = .bool true ∧ Ext w0 w') := by
  refine Ca.of Try.func3 Try.ntmps3 rfl rfl ?_
  refine W.seq ?_
  refine W.region ?_
  refine WL.c rfl (o_ash (show _ = Value.bool _ from rfl) ?_)
  refine WL.nil ?_
  refine W.seq ?_
  refine W.seq ?_
  refine W.region ?_
  refine WL.c rfl (o_call Try.call6 ln ((awake_spec _).mono ?_))
  rintro v28 w28 ⟨rfl, hx28⟩
  replace hF := hF.ext hx28
  replace hX := Sl.ext hX hx28
  replace hY := Sl.ext hY hx28
  refine WL.c rfl (o_not' rfl ?_)
  refine WL.nil ?_
  refine W.condF' rfl (rfl) ?_
  refine W.skip ?_
  refine W.seq ?_
  refine W.region ?_
  refine WL.c rfl (o_mvh (by first | exact (show _ = Value.slice _ _ _ from rfl) | exact rfl) ?_)
  refine WL.c rfl (o_mvh (show _ = Value.int _ _ from rfl) ?_)
  refine WL.c rfl (o_call Try.call7 (lc rfl (lc rfl ln)) ((filled_spec L V v gone _ hF).mono ?_))
  rintro v33 w33 ⟨p, lv, U, ov, Uo, R, hR0, rfl, hst, hR, hA, hx33⟩
  have hRl : R.length ≤ 40 := by rw [hR0, List.length_map, List.length_take]; omega
  have hRl2 : (R.length : Int) = min 40 (L.length : Int) := by rw [hR0, List.length_map, List.length_take]; omega
  have hRw : ∀ f ∈ R, fwhole f = true := fun f hf => by rw [hR0] at hf; obtain ⟨x, -, rfl⟩ := List.mem_map.1 hf; exact rightF_whole x
  have hQw : ∀ f ∈ R.take (R.length - goneN gone R.length), fwhole f = true := fun f hf => hRw f (List.mem_of_mem_take hf)
  have hQl : (R.take (R.length - goneN gone R.length)).length ≤ R.length := by rw [List.length_take]; omega
  generalize R.take (R.length - goneN gone R.length) = Q at *
  replace hF := hF.ext hx33
  replace hX := Sl.ext hX hx33
  replace hY := Sl.ext hY hx33
  replace hx28 := hx28.tr hx33
  refine WL.c rfl (o_mvh (by first | exact (show _ = Value.tuple _ from rfl) | exact rfl) ?_)
  refine WL.c rfl (o_ext rfl rfl ?_)
  refine WL.c rfl (o_ext rfl rfl ?_)
  refine WL.c rfl (o_ext rfl rfl ?_)
  refine WL.c rfl (o_ash (by first | exact (show _ = Value.pointer _ from rfl) | exact rfl) ?_)
  refine WL.c rfl (o_ash (by first | exact (show _ = Value.slice _ _ _ from rfl) | exact rfl) ?_)
  refine WL.c rfl (o_ash (show _ = Value.bool _ from rfl) ?_)
  refine WL.nil ?_
  refine W.seq ?_
  refine W.seq ?_
  refine W.region ?_
  refine WL.c rfl (o_mvh (show _ = Value.bool _ from rfl) ?_)
  refine WL.c rfl (o_not' rfl ?_)
  refine WL.nil ?_
  refine W.condF' rfl (rfl) ?_
  refine W.skip ?_
  refine W.seq ?_
  refine Exists.elim (⟨_, rfl⟩ : ∃ sv, sv = saved (R.length + 1) R.length Q) ?_
  intro sv hsv0
  have hsl := len_ok2 hsv0 (by omega) (by omega) (by omega) hQw
  have hsp : 0 < sv.length := by rw [hsv0]; exact saved_pos _ _ _
  have hrds : rdS sv = .ok ⟨R.length + 1, R.length, Q⟩ sv.length := by rw [hsv0]; exact rdS_saved (by omega) (by omega) (by omega) (by omega) hQw
  refine W.region ?_
  refine WL.c rfl (o_mvh (by first | exact (show _ = Value.pointer _ from rfl) | exact rfl) ?_)
  refine WL.c rfl (o_call Try.call8 (lc rfl ln) ((save_spec' _ p (R.length + 1) R.length Q lv U _ hst hQw (by omega) sv hsv0).mono ?_))
  rintro v40 w40 ⟨g, cap, rfl, hsv, hSv, hx40⟩
  replace hF := hF.ext hx40
  replace hX := Sl.ext hX hx40
  replace hY := Sl.ext hY hx40
  replace hst := hst.ext hx40
  replace hR := hR.ext hx40
  replace hx28 := hx28.tr hx40
  have hR0w := hR
  refine WL.c rfl (o_ash (by first | exact (show _ = Value.slice _ _ _ from rfl) | exact rfl) ?_)
  refine WL.nil ?_
  refine W.seq ?_
  refine W.region ?_
  refine WL.c rfl (o_mvh (by first | exact (show _ = Value.slice _ _ _ from rfl) | exact rfl) ?_)
  refine WL.c rfl (o_call Try.call9 (lc rfl ln) ((load_spec _ sv _ hSv (by omega)).mono ?_))
  rintro v43 w43 ⟨hok, -⟩
  obtain ⟨q, lq, Vq, rfl, hq, hy⟩ := hok _ _ hrds
  replace hq : Stk w43 w40.heap.size q (R.length + 1) R.length Q lq Vq := hq
  refine WL.c rfl (o_mvh (by first | exact (show _ = Value.tuple _ from rfl) | exact rfl) ?_)
  refine WL.c rfl (o_ext rfl rfl ?_)
  refine WL.c rfl (o_ext rfl rfl ?_)
  refine WL.c rfl (o_alB TI31 ?_)
  have hy0 := hy.size
  intro w16 hC16 hx16 hs16
  replace hy := hy.tr hx16
  replace hq := hq.ext hx16
  refine WL.c rfl (o_ash (by first | exact (show _ = Value.pointer _ from rfl) | exact rfl) ?_)
  refine WL.u (o_stA TI31 rfl (show _ = Value.agg #[.int .i64 0, .int .i64 0] from rfl) rfl rfl hC16 rfl ?_)
  intro w17 hB16 ho16 hs17
  replace hy := hy.trans' ho16 (fun _ h => h) (fun k hk he => by omega)
  obtain ⟨c16, hc16⟩ : ∃ c, c = w43.heap.size := ⟨_, rfl⟩
  rw [← hc16] at hB16 ho16 hC16 ⊢
  replace hq := hq.only ho16 (fun k hk he => by subst he; rcases hk with hk | hk | ⟨j, hj, hk⟩; rw [hk, hq.cell] at hC16; cases hC16; exact own_off hq.rows.row hC16 (by decide) hk; exact own_off (hq.rows.tabs.row j hj) hC16 (by decide) hk)
  refine WL.nil ?_
  refine W.seq ?_
  refine W.seq ?_
  obtain ⟨wd, hwd⟩ : ∃ wd, wd = w17.drew := ⟨_, rfl⟩
  have hxd : Ext w17 wd := hwd ▸ Only.drew w17
  replace hq := hq.ext hxd
  replace hy := hy.tr hxd
  replace hB16 := hxd.blk hB16 (fun h => h)
  refine W.draw (Ext) [(0, fun v _ => v = _), (2, fun v _ => v = _), (3, fun v _ => v = _), (4, fun v _ => v = _), (11, fun v _ => v = _), (12, fun v _ => v = _), (14, fun v _ => v = _), (15, fun v _ => v = _), (16, fun v _ => v = _)] rfl (by kernel_rfl) (Only.refl No) (fun _ _ _ h k => h.trans k) ⟨Mono.eq, Mono.eq, Mono.eq, Mono.eq, Mono.eq, Mono.eq, Mono.eq, Mono.eq, Mono.eq, trivial⟩ ⟨rfl, rfl, rfl, rfl, rfl, rfl, rfl, rfl, rfl, trivial⟩ ?_
  refine WD.p rfl (fun e w hR hh => by obtain ⟨h15, -⟩ := hh; exact SG.n (o_mvh h15 ⟨rfl, Only.refl No _⟩)) ?_
  refine WD.p rfl (fun e w hR hh => by obtain ⟨h46, -⟩ := hh; exact SG.n (o_eqN (p := some ⟨q, 0, none⟩) TI25 h46 rfl ⟨rfl, Only.refl No _⟩)) ?_
  refine WD.p rfl (fun e w hR hh => by obtain ⟨h47, -⟩ := hh; exact SG.n (o_mvh h47 ⟨rfl, Only.refl No _⟩)) ?_
  refine WD.p rfl (fun e w hR hh => by obtain ⟨h48, h16, -⟩ := hh; exact SG.g h48 (by simp) (o_fa 0 TI31 rfl TI29 rfl h16 ⟨rfl, Only.refl No _⟩)) ?_
  refine WD.p rfl (fun e w hR hh => by obtain ⟨h49, h48, -⟩ := hh; rw [← hwd] at hR; exact SG.g h48 (by simp) (o_ld TI29 rfl h49 (cell_of (hR.blk hB16 (fun h => h)) rfl) ⟨rfl, Only.refl No _⟩)) ?_
  refine WD.p rfl (fun e w hR hh => by obtain ⟨h50, h48, -⟩ := hh; exact SG.g h48 (by simp) (o_call Try.call10 (lc h50 ln) ((num_spec _ _).mono (fun v w' ⟨h1, h2⟩ => ⟨h1, by rw [h2]; exact Only.refl No _⟩)))) ?_
  refine WD.p rfl (fun e w hR hh => by obtain ⟨h51, h48, -⟩ := hh; exact SG.g h48 (by simp) (o_ne h51 rfl ⟨rfl, Only.refl No _⟩)) ?_
  refine WD.p rfl (fun e w hR hh => by obtain ⟨h52, h48, -⟩ := hh; exact SG.n (o_pickO h48 h52 ⟨rfl, Only.refl No _⟩)) ?_
  refine WD.p rfl (fun e w hR hh => by obtain ⟨h53, -⟩ := hh; exact SG.n (o_mvh h53 ⟨rfl, Only.refl No _⟩)) ?_
  refine WD.p rfl (fun e w hR hh => by obtain ⟨h54, h15, -⟩ := hh; exact SG.g h54 (by simp) (o_mvh h15 ⟨rfl, Only.refl No _⟩)) ?_
  refine WD.p rfl (fun e w hR hh => by obtain ⟨h55, h54, -⟩ := hh; rw [← hwd] at hR; exact SG.g h54 (by simp) (o_call Try.call11 (lc h55 ln) ((len_spec _ q (R.length + 1) R.length Q lq Vq w (hq.ext hR)).mono (fun v w' ⟨h1, h2⟩ => ⟨h1, by rw [h2]; exact Only.refl No _⟩)))) ?_
  refine WD.p rfl (fun e w hR hh => by obtain ⟨h54, h12, -⟩ := hh; exact SG.g h54 (by simp) (o_mvh h12 ⟨rfl, Only.refl No _⟩)) ?_
  refine WD.p rfl (fun e w hR hh => by obtain ⟨h57, h54, -⟩ := hh; rw [← hwd] at hR; exact SG.g h54 (by simp) (o_lenR TI22 h57 (Sl.own ((hR0w.ext hy).ext hR).row) ⟨rfl, Only.refl No _⟩)) ?_
  refine WD.p rfl (fun e w hR hh => by obtain ⟨h58, h56, h54, -⟩ := hh; exact SG.g h54 (by simp) (o_ne h56 h58 ⟨rfl, Only.refl No _⟩)) ?_
  refine WD.p rfl (fun e w hR hh => by obtain ⟨h59, h54, -⟩ := hh; exact SG.n (o_pickO h54 h59 ⟨rfl, Only.refl No _⟩)) ?_
  refine WD.p rfl (fun e w hR hh => by obtain ⟨h60, -⟩ := hh; exact SG.n (o_mvh h60 ⟨rfl, Only.refl No _⟩)) ?_
  refine WD.p rfl (fun e w hR hh => by obtain ⟨h61, h15, -⟩ := hh; exact SG.g h61 (by simp) (o_mvh h15 ⟨rfl, Only.refl No _⟩)) ?_
  refine WD.p rfl (fun e w hR hh => by obtain ⟨h62, h61, -⟩ := hh; rw [← hwd] at hR; exact SG.g h61 (by simp) (o_call Try.call12 (lc h62 ln) ((high_spec _ q (R.length + 1) R.length Q lq Vq w (hq.ext hR)).mono (fun v w' ⟨h1, h2⟩ => ⟨h1, by rw [h2]; exact Only.refl No _⟩)))) ?_
  refine WD.p rfl (fun e w hR hh => by obtain ⟨h61, h11, -⟩ := hh; exact SG.g h61 (by simp) (o_mvh h11 ⟨rfl, Only.refl No _⟩)) ?_
  refine WD.p rfl (fun e w hR hh => by obtain ⟨h64, h61, -⟩ := hh; rw [← hwd] at hR; exact SG.g h61 (by simp) (o_call Try.call12 (lc h64 ln) ((high_spec _ p (R.length + 1) R.length Q lv U w ((hst.ext hy).ext hR)).mono (fun v w' ⟨h1, h2⟩ => ⟨h1, by rw [h2]; exact Only.refl No _⟩)))) ?_
  refine WD.p rfl (fun e w hR hh => by obtain ⟨h65, h63, h61, -⟩ := hh; exact SG.g h61 (by simp) (o_ne h63 h65 ⟨rfl, Only.refl No _⟩)) ?_
  refine WD.p rfl (fun e w hR hh => by obtain ⟨h66, h61, -⟩ := hh; exact SG.n (o_pickO h61 h66 ⟨rfl, Only.refl No _⟩)) ?_
  refine WD.p rfl (fun e w hR hh => by obtain ⟨h67, -⟩ := hh; exact SG.n (o_mvh h67 ⟨rfl, Only.refl No _⟩)) ?_
  refine WD.p rfl (fun e w hR hh => by obtain ⟨h68, h15, -⟩ := hh; exact SG.g h68 (by simp) (o_mvh h15 ⟨rfl, Only.refl No _⟩)) ?_
  refine WD.q (fun v w => By w v sv) (fun v w w2 hR hh => Sl.ext hh hR) rfl (fun e w hR hh => by obtain ⟨h69, h68, -⟩ := hh; rw [← hwd] at hR; exact SG.g h68 (by simp) (o_call Try.call8 (lc h69 ln) ((save_spec' _ q (R.length + 1) R.length Q lq Vq w (hq.ext hR) hQw (by omega) sv hsv0).mono (fun v w' hh => by obtain ⟨g, cap, h1, h2, h3, h4⟩ := hh; exact ⟨h3, h4⟩)))) ?_
  refine WD.p rfl (fun e w hR hh => by obtain ⟨h70, h68, -⟩ := hh; exact SG.g h68 (by simp) (o_cvBS TI23 TI5 TI9 rfl h70 ⟨rfl, Only.refl No _⟩)) ?_
  refine WD.p rfl (fun e w hR hh => by obtain ⟨h68, h14, -⟩ := hh; exact SG.g h68 (by simp) (o_mvh h14 ⟨rfl, Only.refl No _⟩)) ?_
  refine WD.p rfl (fun e w hR hh => by obtain ⟨h72, h68, -⟩ := hh; rw [← hwd] at hR; exact SG.g h68 (by simp) (o_cvBS TI23 TI5 TI9 h72 (Sl.ext (Sl.ext hSv hy) hR) ⟨rfl, Only.refl No _⟩)) ?_
  refine WD.p rfl (fun e w hR hh => by obtain ⟨h73, h71, h68, -⟩ := hh; exact SG.g h68 (by simp) (o_neT h71 h73 ⟨rfl, Only.refl No _⟩)) ?_
  refine WD.p rfl (fun e w hR hh => by obtain ⟨h74, h68, -⟩ := hh; exact SG.n (o_pickO h68 h74 ⟨rfl, Only.refl No _⟩)) ?_
  rintro e w hR ⟨h75, h74, h73, h72, h71, h70, h69, h68, h67, h66, h65, h64, h63, h62, h61, h60, h59, h58, h57, h56, h55, h54, h53, h52, h51, h50, h49, h48, h47, h46, h0, h2, h3, h4, h11, h12, h14, h15, h16, -⟩
  rw [← hwd] at hR
  replace hq := hq.ext hR
  replace hy := hy.tr hR
  clear hR
  have hR := hR0w
  refine W.condF' h75 (by simp) ?_
  refine W.skip ?_
  refine W.seq ?_
  refine W.region ?_
  refine WL.c rfl (o_mvh h2 ?_)
  refine WL.c rfl (o_mvh h14 ?_)
  refine WL.c rfl (o_len TI23 rfl ?_)
  refine WL.c rfl (o_call Try.call13 (lc rfl (lc rfl ln)) ((rest_spec at_ (sv.length : Int) _ (by omega) (by omega)).mono ?_))
  rintro v79 w79 ⟨rfl, hw79⟩
  replace hw79 := hw79.symm
  subst hw79
  have hmod := modN at_ hsp
  rw [hmod.1]
  obtain ⟨kk, hkk⟩ : ∃ kk, kk = (at_ % (sv.length : Int)).toNat := ⟨_, rfl⟩
  rw [← hkk] at hmod ⊢
  replace hmod := hmod.2
  refine WL.c rfl (o_ash (show _ = Value.int _ _ from rfl) ?_)
  refine WL.nil ?_
  refine W.seq ?_
  refine W.region ?_
  refine WL.c rfl (o_mvh h14 ?_)
  refine WL.c rfl (o_mvh (show _ = Value.int _ _ from rfl) ?_)
  refine WL.c rfl (o_slv (h := kk) TI23 TI5 rfl Lo.n (Hi.s rfl) (Nat.zero_le _) (by omega) ?_)
  rw [sliced0]
  refine WL.c rfl (o_call Try.call9 (lc rfl ln) ((load_spec _ (sv.take kk) _ (by_front (Sl.ext hSv hy) rfl (by omega)) (by rw [List.length_take]; omega)).mono ?_))
  rintro v84 w84 ⟨-, hbad⟩
  obtain ⟨rfl, hx84⟩ := hbad 20 kk (by rw [hsv0] at hmod ⊢; exact rdS_cut hmod (by omega) (by omega) (by omega) (by omega) hQw)
  replace hq := hq.ext hx84
  replace hy := hy.tr hx84
  refine WL.c rfl (o_mvh (by first | exact (show _ = Value.tuple _ from rfl) | exact rfl) ?_)
  refine WL.c rfl (o_ext rfl rfl ?_)
  refine WL.c rfl (o_ext rfl rfl ?_)
  refine WL.c rfl (o_alB TI31 ?_)
  intro w19 hC19 hx19 hs19
  have hy19 := hy.size
  replace hq := hq.ext hx19
  replace hy := hy.tr hx19
  refine WL.c rfl (o_ash (by first | exact (show _ = Value.pointer _ from rfl) | exact rfl) ?_)
  refine WL.u (o_stA TI31 rfl (show _ = Value.agg #[.int .i64 20, .int .i64 (kk : Int)] from rfl) rfl rfl hC19 rfl ?_)
  intro w20 hB19 ho19 hs20
  replace hy := hy.trans' ho19 (fun _ h => h) (fun k hk he => by omega)
  replace hq := hq.only ho19 (fun k hk he => by subst he; rcases hk with hk | hk | ⟨j, hj, hk⟩; rw [hk, hq.cell] at hC19; cases hC19; exact own_off hq.rows.row hC19 (by decide) hk; exact own_off (hq.rows.tabs.row j hj) hC19 (by decide) hk)
  have hq20 := hq
  have hy20 := hy
  refine WL.nil ?_
  refine W.seq ?_
  refine W.seq ?_
  refine W.region ?_
  refine WL.c rfl (o_fa 0 TI31 rfl TI29 rfl rfl ?_)
  refine WL.c rfl (o_ld TI29 rfl rfl (cell_of hB19 rfl) ?_)
  refine WL.c rfl (o_call Try.call10 (lc rfl ln) ((num_spec _ _).mono ?_))
  rintro v89 w89 ⟨rfl, hw89⟩
  replace hw89 := hw89.symm
  subst hw89
  refine WL.c rfl (o_ne rfl rfl ?_)
  refine WL.c rfl (o_mvh (show _ = Value.bool _ from rfl) ?_)
  refine WL.g rfl (by simp) rfl (o_fa 1 TI31 rfl TI3 rfl rfl ?_)
  refine WL.g rfl (by simp) rfl (o_ld TI3 rfl rfl (cell_of hB19 rfl) ?_)
  refine WL.g rfl (by simp) rfl (o_mvh (show _ = Value.int _ _ from rfl) ?_)
  refine WL.g rfl (by simp) rfl (o_ne rfl rfl ?_)
  refine WL.c rfl (o_pickO rfl rfl ?_)
  refine WL.nil ?_
  refine W.condF' rfl (by simp) ?_
  refine W.skip ?_
  refine W.seq ?_
  refine W.seq ?_
  refine W.region ?_
  refine WL.c rfl (o_mvh h3 ?_)
  refine WL.c rfl (o_lenR TI23 rfl (Sl.ext hX hy) ?_)
  refine WL.c rfl (o_gt rfl rfl ?_)
  refine WL.nil ?_
  refine W.cut (fun e1 w1 => e1 0 = v ∧ e1 4 = yv ∧ e1 12 = ov ∧ e1 15 = .pointer (some ⟨q, 0, none⟩) ∧ ∃ lq' Vq', Stk w1 w40.heap.size q (R.length + 1) R.length Q lq' Vq' ∧ Ext w40 w1) ?_ ?_
  · -- both ways
    refine W.cond rfl (fun c99 => ?_) (fun c99 => ?_)
    · try simp only [decide_eq_true_eq, decide_eq_false_iff_not, Bool.not_eq_true', Bool.not_eq_false', Bool.and_eq_true, Bool.or_eq_true, Bool.and_eq_false_iff, Bool.or_eq_false_iff] at c99
      have hxp : 0 < xs.length := by omega
      refine W.seq ?_
      refine W.region ?_
      refine WL.c rfl (o_mvh h14 ?_)
      refine WL.c rfl (o_apO (w40.heap.size) TI23 TI5 (show _ = Value.slice _ _ _ from rfl) rfl (World.ownsRow_nil _ _ _ _) (Sl.ext hSv hy) rfl (by decide) one_bv (by rw [maxLen_eq]; omega) (by omega) hy.size ?_)
      intro v102 w102 hown102 ho102 hb102 hk102
      rw [Nat.zero_add, List.nil_append] at hown102
      have hx102 : Ext w20 w102 := ho102.mono (fun _ _ h => by cases h)
      replace hq := hq.ext hx102
      replace hy := hy.tr hx102
      refine WL.c rfl (o_mvh h3 ?_)
      refine WL.c rfl (o_apW w40.heap.size TI23 TI5 (show _ = v102 from rfl) rfl hown102 (Sl.ext hX hy) hxp rfl (by decide) one_bv (by rw [maxLen_eq]; omega) (by omega) hy.size ?_)
      intro v104 w104 hown104 ho104
      have hb4 : ∀ k, v102.ownBlock = some k → w20.heap.size ≤ k := fun k hk => by
        rcases hb102 with hb | hb
        · rw [hb] at hk; cases hk
        · rw [hb] at hk; cases hk; exact Nat.le_refl _
      have hx104 : Ext w20 w104 := hx102.trans' ho104 (fun _ h => h) (fun k hk hF => by have := hb4 k hF; omega)
      replace hq := hq20.ext hx104
      replace hy := hy20.tr hx104
      have hB104 : By w104 v104 (sv ++ xs) := by
        have := Sl.own hown104
        rw [← List.map_append] at this
        show Sl w104 1 v104 (sv ++ xs).length _
        rw [List.length_append]; exact this
      refine WL.c rfl (o_call Try.call9 (lc rfl ln) ((load_spec _ (sv ++ xs) _ hB104 (by rw [List.length_append]; omega)).mono ?_))
      rintro v105 w105 ⟨-, hbad⟩
      obtain ⟨rfl, hx105⟩ := hbad 124 sv.length (by rw [hsv0]; exact rdS_more (by intro he; rw [he] at hxp; simp at hxp) (by omega) (by omega) (by omega) (by omega) hQw)
      replace hq := hq.ext hx105
      replace hy := hy.tr hx105
      refine WL.c rfl (o_mvh (by first | exact (show _ = Value.tuple _ from rfl) | exact rfl) ?_)
      refine WL.c rfl (o_ext rfl rfl ?_)
      refine WL.c rfl (o_ext rfl rfl ?_)
      refine WL.c rfl (o_alB TI31 ?_)
      intro w21 hC21 hx21 hs21
      have hy21 := hy.size
      replace hq := hq.ext hx21
      replace hy := hy.tr hx21
      refine WL.c rfl (o_ash (by first | exact (show _ = Value.pointer _ from rfl) | exact rfl) ?_)
      refine WL.u (o_stA TI31 rfl (show _ = Value.agg #[.int .i64 124, .int .i64 (sv.length : Int)] from rfl) rfl rfl hC21 rfl ?_)
      intro w22 hB21 ho21 hs22
      replace hy := hy.trans' ho21 (fun _ h => h) (fun k hk he => by omega)
      replace hq := hq.only ho21 (fun k hk he => by subst he; rcases hk with hk | hk | ⟨j, hj, hk⟩; rw [hk, hq.cell] at hC21; cases hC21; exact own_off hq.rows.row hC21 (by decide) hk; exact own_off (hq.rows.tabs.row j hj) hC21 (by decide) hk)
      refine WL.nil ?_
      refine W.seq ?_
      refine W.region ?_
      refine WL.c rfl (o_fa 0 TI31 rfl TI29 rfl rfl ?_)
      refine WL.c rfl (o_ld TI29 rfl rfl (cell_of hB21 rfl) ?_)
      refine WL.c rfl (o_call Try.call10 (lc rfl ln) ((num_spec _ _).mono ?_))
      rintro v110 w110 ⟨rfl, hw110⟩
      replace hw110 := hw110.symm
      subst hw110
      refine WL.c rfl (o_ne rfl rfl ?_)
      refine WL.c rfl (o_mvh (show _ = Value.bool _ from rfl) ?_)
      refine WL.g rfl (by simp) rfl (o_fa 1 TI31 rfl TI3 rfl rfl ?_)
      refine WL.g rfl (by simp) rfl (o_ld TI3 rfl rfl (cell_of hB21 rfl) ?_)
      refine WL.g rfl (by simp) rfl (o_mvh h14 ?_)
      refine WL.g rfl (by simp) rfl (o_len TI23 rfl ?_)
      refine WL.g rfl (by simp) rfl (o_ne rfl rfl ?_)
      refine WL.c rfl (o_pickO rfl rfl ?_)
      refine WL.nil ?_
      refine W.condF' rfl (by simp) ?_
      refine W.skip ?_
      first
        | exact ⟨h0, h4, h12, h15, lq, Vq, hq, hy⟩
        | exact ⟨rfl, rfl, rfl, rfl, lq, Vq, hq, hy⟩
    · try simp only [decide_eq_true_eq, decide_eq_false_iff_not, Bool.not_eq_true', Bool.not_eq_false', Bool.and_eq_true, Bool.or_eq_true, Bool.and_eq_false_iff, Bool.or_eq_false_iff] at c99
      refine W.skip ?_
      first
        | exact ⟨h0, h4, h12, h15, lq, Vq, hq, hy⟩
        | exact ⟨rfl, rfl, rfl, rfl, lq, Vq, hq, hy⟩
  rintro e w ⟨h0, h4, h12, h15, lq, Vq, hq, hy⟩
  refine W.seq ?_
  refine W.seq ?_
  have hl120 : Sl w 7 ov Q.length (frows Q Uo) := Sl.own (hR0w.ext hy).row
  refine W.region ?_
  refine WL.c rfl (o_mvh h12 ?_)
  refine WL.c rfl (o_lenR TI22 rfl hl120 ?_)
  refine WL.c rfl (o_subi rfl rfl (by omega) ?_)
  refine WL.c rfl (o_ash (show _ = Value.int _ _ from rfl) ?_)
  refine WL.nil ?_
  refine W.block ?_
  refine W.loop (fun e w => ∃ (m : Nat) (lq : Value) (Vq : Nat → Value), m ≤ Q.length ∧ e 0 = v ∧ e 4 = yv ∧ e 12 = ov ∧ e 15 = .pointer (some ⟨q, 0, none⟩) ∧ e 22 = .int .i64 ((m : Int) - 1) ∧ Stk w w40.heap.size q (R.length + 1) R.length (Q.take m) lq Vq ∧ Ext w40 w) (fun e w => (intOf (e 22) + 1).toNat) ?_ ?_
  · exact ⟨Q.length, lq, Vq, Nat.le_refl _, h0, h4, h12, h15, rfl, by rw [List.take_length]; exact hq, hy⟩
  rintro e w ⟨m, lq, Vq, hm, h0, h4, h12, h15, h22, hst2, hy⟩
  have hm22 := h22
  have hlk : (Q.take m).length = m := by rw [List.length_take]; omega
  refine W.seq ?_
  refine W.seq ?_
  refine W.region ?_
  refine WL.c rfl (o_mvh h22 ?_)
  refine WL.c rfl (o_ge rfl rfl ?_)
  refine WL.nil ?_
  refine W.cond rfl (fun c123 => ?_) (fun c123 => ?_)
  · try simp only [decide_eq_true_eq, decide_eq_false_iff_not, Bool.not_eq_true', Bool.not_eq_false', Bool.and_eq_true, Bool.or_eq_true, Bool.and_eq_false_iff, Bool.or_eq_false_iff] at c123
    refine W.skip ?_
    refine W.seq ?_
    refine W.block ?_
    refine W.seq ?_
    obtain ⟨m, rfl⟩ : ∃ m', m = m' + 1 := ⟨m - 1, by omega⟩
    have hm1 : m < Q.length := by omega
    have htop : topF (Q.take (m + 1)) = Q[m] := take_last hm1
    refine W.region ?_
    refine WL.c rfl (o_mvh h15 ?_)
    refine WL.c rfl (o_call Try.call14 (lc rfl ln) ((pop_spec w40.heap.size q (R.length + 1) R.length (Q.take (m + 1)) lq Vq _ hst2).mono ?_))
    rintro v128 w128 ⟨tv, rfl, hcl, lq2, Vq2, t, htv⟩
    rw [htop] at hcl ⊢
    rw [show emptyE (Q.take (m + 1)) = 0 by rw [emptyE, if_neg (by omega)]]
    have htt : (Q.take (m + 1)).take ((Q.take (m + 1)).length - 1) = Q.take m := by rw [hlk, Nat.add_sub_cancel, List.take_take, Nat.min_eq_left (by omega)]
    replace hy := t.ext hy (Nat.le_refl _) hst2
    have hst3 := t.stk
    rw [htt] at hst3
    have hSt := Clipd.In hcl
    refine WL.c rfl (o_mvh (by first | exact (show _ = Value.tuple _ from rfl) | exact rfl) ?_)
    refine WL.c rfl (o_ext rfl rfl ?_)
    refine WL.c rfl (o_ext rfl rfl ?_)
    refine WL.c rfl (o_alB TI39 ?_)
    intro w12 hC12 hx12 hs12
    refine WL.u (o_stA TI39 rfl (show _ = Value.agg (fcells Q[m] tv).toArray from rfl) rfl (fcells_one (by obtain ⟨a, c, rfl⟩ := hSt.isSlice; rfl)) hC12 rfl ?_)
    intro w13 hB12 ho12 hs13
    have h80s := hy.size
    have hx13 : Ext w128 w13 := hx12.trans' ho12 (fun _ h => h) (fun k hk he => by omega)
    replace hSt := Sl.ext hSt hx13
    replace hst3 := hst3.ext hx13
    replace hy := hy.tr hx13
    obtain ⟨c12, hc12⟩ : ∃ c12, c12 = w128.heap.size := ⟨_, rfl⟩
    rw [← hc12] at hB12 ⊢
    refine WL.c rfl (o_ash (show _ = Value.int _ _ from rfl) ?_)
    refine WL.nil ?_
    refine W.seq ?_
    obtain ⟨wd, hwd⟩ : ∃ wd, wd = w13.drew := ⟨_, rfl⟩
    have hxd : Ext w13 wd := hwd ▸ Only.drew w13
    replace hSt := Sl.ext hSt hxd
    replace hst3 := hst3.ext hxd
    replace hy := hy.tr hxd
    replace hB12 := hxd.blk hB12 (fun h => h)
    have hRd := hR0w.ext hy
    obtain ⟨go, co, hov, hob, hoc⟩ := hRd.at (k := m) (by omega)
    rw [getD_at hm1] at hoc
    have hIo : In wd (Uo m) Q[m].tab := by have := hRd.tab (k := m) (by omega); rw [tabl, getD_at hm1] at this; exact this
    have hRm := hQw Q[m] (List.getElem_mem hm1)
    refine W.draw (Ext) [(0, fun v _ => v = _), (4, fun v _ => v = _), (12, fun v _ => v = _), (15, fun v _ => v = _), (22, fun v _ => v = _), (23, fun v _ => v = _), (24, fun v _ => v = _)] rfl (by kernel_rfl) (Only.refl No) (fun _ _ _ h k => h.trans k) ⟨Mono.eq, Mono.eq, Mono.eq, Mono.eq, Mono.eq, Mono.eq, Mono.eq, trivial⟩ ⟨h0, h4, h12, h15, h22, rfl, rfl, trivial⟩ ?_
    refine WD.p rfl (fun e w hR hh => by obtain ⟨h24, -⟩ := hh; exact SG.n (o_mvh h24 ⟨rfl, Only.refl No _⟩)) ?_
    refine WD.p rfl (fun e w hR hh => by obtain ⟨h131, -⟩ := hh; exact SG.n (o_call Try.call10 (lc h131 ln) ((num_spec _ _).mono (fun v w' ⟨h1, h2⟩ => ⟨h1, by rw [h2]; exact Only.refl No _⟩)))) ?_
    refine WD.p rfl (fun e w hR hh => by obtain ⟨h132, -⟩ := hh; exact SG.n (o_ne h132 rfl ⟨rfl, Only.refl No _⟩)) ?_
    refine WD.p rfl (fun e w hR hh => by obtain ⟨h133, -⟩ := hh; exact SG.n (o_mvh h133 ⟨rfl, Only.refl No _⟩)) ?_
    refine WD.p rfl (fun e w hR hh => by obtain ⟨h134, h23, -⟩ := hh; rw [← hwd] at hR; exact SG.g h134 (by simp) (o_ldA TI39 rfl h23 (show Cells w c12 0 (fcells Q[m] tv) from Cells.of (hR.blk hB12 (fun h => h)) 0 _ (by simp)) rfl ⟨rfl, Only.refl No _⟩)) ?_
    refine WD.p rfl (fun e w hR hh => by obtain ⟨h134, h12, -⟩ := hh; exact SG.g h134 (by simp) (o_mvh h12 ⟨rfl, Only.refl No _⟩)) ?_
    refine WD.p rfl (fun e w hR hh => by obtain ⟨h134, h22, -⟩ := hh; exact SG.g h134 (by simp) (o_mvh h22 ⟨rfl, Only.refl No _⟩)) ?_
    refine WD.p rfl (fun e w hR hh => by obtain ⟨h137, h136, h134, -⟩ := hh; exact SG.g h134 (by simp) (o_ixB (i := m) TI22 TI39 (h136.trans hov) (h137.trans (by congr 1; omega)) (by omega) ⟨rfl, Only.refl No _⟩)) ?_
    refine WD.p rfl (fun e w hR hh => by obtain ⟨h138, h134, -⟩ := hh; rw [← hwd] at hR; exact SG.g h134 (by simp) (o_ldA TI39 rfl h138 (show Cells w go (0 + m * 7) (fcells Q[m] (Uo m)) by rw [Nat.zero_add]; exact hoc.only hR (fun h => h)) rfl ⟨rfl, Only.refl No _⟩)) ?_
    refine WD.p rfl (fun e w hR hh => by obtain ⟨h139, h135, h134, -⟩ := hh; rw [← hwd] at hR; exact SG.g h134 (by simp) (o_call Try.call15 (lc h135 (lc h139 ln)) ((same_spec Q[m] tv (Uo m) w (Sl.ext hSt hR) (Sl.ext hIo hR) (by have := fwhole_tab hRm; omega)).mono (fun v w' hh => hh)))) ?_
    refine WD.p rfl (fun e w hR hh => by obtain ⟨h140, h134, -⟩ := hh; exact SG.g h134 (by simp) (o_not' h140 ⟨rfl, Only.refl No _⟩)) ?_
    refine WD.p rfl (fun e w hR hh => by obtain ⟨h141, h134, -⟩ := hh; exact SG.n (o_pickO h134 h141 ⟨rfl, Only.refl No _⟩)) ?_
    refine WD.p rfl (fun e w hR hh => by obtain ⟨h142, -⟩ := hh; exact SG.n (o_mvh h142 ⟨rfl, Only.refl No _⟩)) ?_
    refine WD.p rfl (fun e w hR hh => by obtain ⟨h143, h15, -⟩ := hh; exact SG.g h143 (by simp) (o_mvh h15 ⟨rfl, Only.refl No _⟩)) ?_
    refine WD.p rfl (fun e w hR hh => by obtain ⟨h144, h143, -⟩ := hh; rw [← hwd] at hR; exact SG.g h143 (by simp) (o_call Try.call11 (lc h144 ln) ((len_spec w40.heap.size q (R.length + 1) R.length (Q.take m) lq2 Vq2 w (hst3.ext hR)).mono (fun v w' ⟨h1, h2⟩ => ⟨h1, by rw [h2]; exact Only.refl No _⟩)))) ?_
    refine WD.p rfl (fun e w hR hh => by obtain ⟨h143, h22, -⟩ := hh; exact SG.g h143 (by simp) (o_mvh h22 ⟨rfl, Only.refl No _⟩)) ?_
    refine WD.p rfl (fun e w hR hh => by obtain ⟨h146, h145, h143, -⟩ := hh; exact SG.g h143 (by simp) (o_ne h145 h146 ⟨rfl, Only.refl No _⟩)) ?_
    refine WD.p rfl (fun e w hR hh => by obtain ⟨h147, h143, -⟩ := hh; exact SG.n (o_pickO h143 h147 ⟨rfl, Only.refl No _⟩)) ?_
    rintro e w hR ⟨h148, h147, h146, h145, h144, h143, h142, h141, h140, h139, h138, h137, h136, h135, h134, h133, h132, h131, h0, h4, h12, h15, h22, h23, h24, -⟩
    rw [← hwd] at hR
    refine W.condF' h148 (by simp; omega) ?_
    refine W.skip ?_
    refine W.region ?_
    refine WL.c rfl (o_mvh h22 ?_)
    refine WL.c rfl (o_subi rfl rfl (by omega) ?_)
    refine WL.c rfl (o_ash (show _ = Value.int _ _ from rfl) ?_)
    refine WL.nil ?_
    refine ⟨⟨m, lq2, Vq2, by omega, h0, h4, h12, h15, ?_, hst3.ext hR, hy.tr hR⟩, ?_⟩
    · show Value.int _ (((m + 1 : Nat) : Int) - 1 - 1) = _; congr 1; omega
    · show (((m + 1 : Nat) : Int) - 1 - 1 + 1).toNat < _
      rw [hm22]; simp only [intOf]; omega
  · try simp only [decide_eq_true_eq, decide_eq_false_iff_not, Bool.not_eq_true', Bool.not_eq_false', Bool.and_eq_true, Bool.or_eq_true, Bool.and_eq_false_iff, Bool.or_eq_false_iff] at c123
    refine W.exit ?_
    refine W.seq ?_
    refine W.seq ?_
    have hm0 : m = 0 := by omega
    subst hm0
    rw [List.take_zero] at hst2
    refine W.region ?_
    refine WL.c rfl (o_ash (show _ = Value.int _ _ from rfl) ?_)
    refine WL.nil ?_
    refine W.block ?_
    refine W.loop (fun e w => ∃ (k hi : Nat) (lq : Value) (Vq : Nat → Value), k ≤ R.length + 1 ∧ e 0 = v ∧ e 4 = yv ∧ e 15 = .pointer (some ⟨q, 0, none⟩) ∧ e 25 = .int .i64 (k : Int) ∧ Stk w w40.heap.size q (R.length + 1) hi (List.replicate k fz) lq Vq ∧ Ext w40 w) (fun e w => R.length + 1 - (intOf (e 25)).toNat) ?_ ?_
    · exact ⟨0, R.length, lq, Vq, Nat.zero_le _, h0, h4, h15, rfl, hst2, hy⟩
    rintro e w ⟨k, hi, lq, Vq, hk, h0, h4, h15, h25, hst2, hy⟩
    have hm25 := h25
    have hFw := hF.ext hy
    have hlr : (List.replicate k fz).length = k := List.length_replicate
    refine W.seq ?_
    refine W.seq ?_
    refine W.region ?_
    refine WL.cut (fun e1 w1 => e1 156 = .bool (decide (k ≤ R.length)) ∧ e1 0 = v ∧ e1 4 = yv ∧ e1 15 = .pointer (some ⟨q, 0, none⟩) ∧ e1 25 = .int .i64 (k : Int) ∧ w1 = w) ?_ ?_
    · -- region 25
      refine WL.c rfl (o_mvh h25 ?_)
      refine WL.c rfl (o_mvh h0 ?_)
      refine WL.c rfl (o_lenR TI22 rfl hFw.sl ?_)
      refine WL.c rfl (o_le rfl rfl ?_)
      refine WL.c rfl (o_mvh (show _ = Value.bool _ from rfl) ?_)
      refine WL.sp 4 rfl (fun g153 => ?_) (fun g153 => ?_)
      · skip
        refine WL.g rfl (g153) rfl (o_mvh h25 ?_)
        refine WL.g rfl (g153) rfl (o_le rfl rfl ?_)
        refine WL.c rfl (o_pickA rfl rfl ?_)
        exact WL.nil (⟨congrArg Value.bool (by rw [Bool.eq_iff_iff]; simp only [decide_eq_true_eq, decide_eq_false_iff_not, Bool.and_eq_true, Bool.false_eq_true, false_iff, true_and] at g153 ⊢; omega), h0, h4, h15, h25, rfl⟩)
      · skip
        refine WL.s rfl (g153) rfl ?_
        refine WL.s rfl (g153) rfl ?_
        refine WL.c rfl (o_pickF rfl (g153) ?_)
        exact WL.nil (⟨congrArg Value.bool (by rw [Bool.eq_iff_iff]; simp only [decide_eq_true_eq, decide_eq_false_iff_not, Bool.and_eq_true, Bool.false_eq_true, false_iff, true_and] at g153 ⊢; omega), h0, h4, h15, h25, rfl⟩)
    rintro e w ⟨h156, h0, h4, h15, h25, rfl⟩
    refine W.cond h156 (fun c156 => ?_) (fun c156 => ?_)
    · try simp only [decide_eq_true_eq, decide_eq_false_iff_not, Bool.not_eq_true', Bool.not_eq_false', Bool.and_eq_true, Bool.or_eq_true, Bool.and_eq_false_iff, Bool.or_eq_false_iff] at c156
      refine W.skip ?_
      refine W.seq ?_
      refine W.block ?_
      refine W.seq ?_
      refine W.region ?_
      refine WL.c rfl (o_mvh h15 ?_)
      refine WL.c rfl (o_bldC (cs := [(.int .i64 0), (.int .i64 0), (.int .i64 0), (.int .i64 (-1)), (.int .i64 (-1)), (.int .i64 0), (.slice none 0 0)]) TI39 (Sizes.cons TI3 (Sizes.cons TI3 (Sizes.cons TI3 (Sizes.cons TI3 (Sizes.cons TI3 (Sizes.cons TI3 (Sizes.cons TI37 Sizes.nil))))))) rfl (lcp (show _ = Value.int _ _ from rfl) (lcp (show _ = Value.int _ _ from rfl) lnp)) rfl rfl ?_)
      refine WL.c rfl (o_call Try.call16 (lc rfl (lc rfl ln)) ((push_spec w40.heap.size q (R.length + 1) hi (List.replicate k fz) lq Vq fz (.slice none 0 0) _ hst2 (Sl.nil _ _) (by simp [fz])).mono ?_))
      rintro v161 w161 ⟨rfl, lq3, Vq3, t⟩
      rw [pushW (by omega) fz_w] at t ⊢
      replace hy := t.ext hy (Nat.le_refl _) hst2
      have hst3 := t.stk
      refine WL.c rfl (o_call Try.call10 (lc rfl ln) ((num_spec _ _).mono ?_))
      rintro v162 w162 ⟨rfl, hw162⟩
      replace hw162 := hw162.symm
      subst hw162
      refine WL.c rfl (o_ne rfl rfl ?_)
      refine WL.nil ?_
      refine W.condF' rfl (by simp) ?_
      refine W.skip ?_
      refine W.region ?_
      refine WL.c rfl (o_mvh h25 ?_)
      refine WL.c rfl (o_addi rfl rfl (by omega) ?_)
      refine WL.c rfl (o_ash (show _ = Value.int _ _ from rfl) ?_)
      refine WL.nil ?_
      rw [reps] at hst3
      refine ⟨⟨k + 1, _, lq3, Vq3, by omega, h0, h4, h15, rfl, hst3, hy⟩, ?_⟩
      show R.length + 1 - ((k : Int) + 1).toNat < _
      rw [hm25]; simp only [intOf]; omega
    · try simp only [decide_eq_true_eq, decide_eq_false_iff_not, Bool.not_eq_true', Bool.not_eq_false', Bool.and_eq_true, Bool.or_eq_true, Bool.and_eq_false_iff, Bool.or_eq_false_iff] at c156
      refine W.exit ?_
      refine W.seq ?_
      refine W.seq ?_
      have hkR : k = R.length + 1 := by omega
      refine W.region ?_
      refine WL.c rfl (o_mvh h15 ?_)
      refine WL.c rfl (o_bldC (cs := [(.int .i64 0), (.int .i64 0), (.int .i64 0), (.int .i64 0), (.int .i64 0), (.int .i64 0), (.slice none 0 0)]) TI39 (Sizes.cons TI3 (Sizes.cons TI3 (Sizes.cons TI3 (Sizes.cons TI3 (Sizes.cons TI3 (Sizes.cons TI3 (Sizes.cons TI37 Sizes.nil))))))) rfl lnp rfl rfl ?_)
      refine WL.c rfl (o_call Try.call16 (lc rfl (lc rfl ln)) ((push_spec w40.heap.size q (R.length + 1) hi (List.replicate k fz) lq Vq Fr.nil (.slice none 0 0) _ hst2 (Sl.nil _ _) (by simp [Fr.nil])).mono ?_))
      rintro v166 w166 ⟨rfl, lq3, Vq3, t⟩
      rw [pushF (by omega)] at t ⊢
      replace hy := t.ext hy (Nat.le_refl _) hst2
      have hYw := Sl.ext hY hy
      refine WL.c rfl (o_call Try.call10 (lc rfl ln) ((num_spec _ _).mono ?_))
      rintro v167 w167 ⟨rfl, hw167⟩
      replace hw167 := hw167.symm
      subst hw167
      refine WL.c rfl (o_ne rfl rfl ?_)
      refine WL.nil ?_
      refine W.condF' rfl (by simp) ?_
      refine W.skip ?_
      refine W.seq ?_
      refine W.seq ?_
      refine W.region ?_
      refine WL.c rfl (o_mvh h4 ?_)
      refine WL.c rfl (o_lenR TI23 rfl hYw ?_)
      refine WL.c rfl (o_gt rfl rfl ?_)
      refine WL.nil ?_
      refine W.cut (fun e1 w1 => ∃ (zv : Value) (zs : List UInt8), zs.length ≤ 3000 ∧ e1 4 = zv ∧ By w1 zv zs ∧ Ext w40 w1) ?_ ?_
      · -- both ways
        refine W.cond rfl (fun c171 => ?_) (fun c171 => ?_)
        · try simp only [decide_eq_true_eq, decide_eq_false_iff_not, Bool.not_eq_true', Bool.not_eq_false', Bool.and_eq_true, Bool.or_eq_true, Bool.and_eq_false_iff, Bool.or_eq_false_iff] at c171
          refine W.region ?_
          refine WL.c rfl (o_mvh h4 ?_)
          refine WL.c rfl (o_sl TI23 TI5 rfl hYw Lo.n (Hi.s (h := 3000) rfl) (by omega) (by omega) ?_)
          intro v173 hb173 hS173
          refine WL.c rfl (o_ash (by first | exact (show _ = Value.slice _ _ _ from rfl) | exact rfl) ?_)
          refine WL.nil ?_
          first
            | (have e18 : ((ys.map bv).drop (0 * 1)).take ((3000 - 0) * 1) = (ys.take 3000).map bv := by rw [Nat.zero_mul, List.drop_zero, List.map_take]
               have hl18 : (ys.take 3000).length = 3000 := by rw [List.length_take]; omega
               rw [e18] at hS173
               refine ⟨v173, ys.take 3000, by omega, rfl, ?_, hy⟩
               show Sl _ 1 v173 (ys.take 3000).length _
               rw [hl18]; exact hS173)
            | exact ⟨yv, ys, by omega, h4, hYw, hy⟩
        · try simp only [decide_eq_true_eq, decide_eq_false_iff_not, Bool.not_eq_true', Bool.not_eq_false', Bool.and_eq_true, Bool.or_eq_true, Bool.and_eq_false_iff, Bool.or_eq_false_iff] at c171
          refine W.skip ?_
          first
            | (have e18 : ((ys.map bv).drop (0 * 1)).take ((3000 - 0) * 1) = (ys.take 3000).map bv := by rw [Nat.zero_mul, List.drop_zero, List.map_take]
               have hl18 : (ys.take 3000).length = 3000 := by rw [List.length_take]; omega
               rw [e18] at hS173
               refine ⟨v173, ys.take 3000, by omega, rfl, ?_, hy⟩
               show Sl _ 1 v173 (ys.take 3000).length _
               rw [hl18]; exact hS173)
            | exact ⟨yv, ys, by omega, h4, hYw, hy⟩
      rintro e w ⟨zv, zs, hzl, h4, hZ, hy⟩
      refine W.seq ?_
      rcases hz : rdS zs with ⟨s, a⟩ | ⟨e1, a⟩
      · skip
        skip
        refine W.region ?_
        refine WL.c rfl (o_mvh h4 ?_)
        refine WL.c rfl (o_call Try.call9 (lc rfl ln) ((load_spec zv zs _ hZ (by omega)).mono ?_))
        rintro v176 w176 ⟨hok, -⟩
        obtain ⟨q2, l2, V2, rfl, hq2, hx176⟩ := hok _ _ hz
        obtain ⟨hb1, hb2, hb3, hb4, hb5, hb6⟩ := rdS_back hz
        have hZ2 := Sl.ext hZ hx176
        replace hy := hy.tr hx176
        refine WL.c rfl (o_mvh (by first | exact (show _ = Value.tuple _ from rfl) | exact rfl) ?_)
        refine WL.c rfl (o_ext rfl rfl ?_)
        refine WL.c rfl (o_ext rfl rfl ?_)
        refine WL.c rfl (o_alB TI31 ?_)
        intro w27 hC27 hx27 hs27
        have hy27 := hy.size
        replace hq2 := hq2.ext hx27
        replace hy := hy.tr hx27
        replace hZ2 := Sl.ext hZ2 hx27
        refine WL.c rfl (o_ash (by first | exact (show _ = Value.pointer _ from rfl) | exact rfl) ?_)
        refine WL.u (o_stA TI31 rfl (show _ = Value.agg #[.int .i64 0, .int .i64 0] from rfl) rfl rfl hC27 rfl ?_)
        intro w29 hB27 ho27 hs29
        have hx29 : Ext w176 w29 := hx27.trans' ho27 (fun _ h => h) (fun k hk he => by omega)
        replace hy := hy.trans' ho27 (fun _ h => h) (fun k hk he => by omega)
        replace hq2 := hq2.only ho27 (fun k hk he => by subst he; rcases hk with hk | hk | ⟨j, hj, hk⟩; rw [hk] at hC27; exact absurd (cells_ty hq2.cell hC27) (by decide); exact own_off hq2.rows.row hC27 (by decide) hk; exact own_off (hq2.rows.tabs.row j hj) hC27 (by decide) hk)
        replace hZ2 := Sl.ext hZ (hx176.tr hx29)
        refine WL.nil ?_
        refine W.seq ?_
        obtain ⟨wd, hwd⟩ : ∃ wd, wd = w29.drew := ⟨_, rfl⟩
        have hxd : Ext w29 wd := hwd ▸ Only.drew w29
        replace hB27 := hxd.blk hB27 (fun h => h)
        refine W.draw (Ext) [(4, fun v _ => v = _), (26, fun v _ => v = _), (27, fun v _ => v = _)] rfl (by kernel_rfl) (Only.refl No) (fun _ _ _ h k => h.trans k) ⟨Mono.eq, Mono.eq, Mono.eq, trivial⟩ ⟨h4, rfl, rfl, trivial⟩ ?_
        refine WD.p rfl (fun e w hR hh => by obtain ⟨h27, -⟩ := hh; exact SG.n (o_fa 0 TI31 rfl TI29 rfl h27 ⟨rfl, Only.refl No _⟩)) ?_
        refine WD.p rfl (fun e w hR hh => by obtain ⟨h179, -⟩ := hh; rw [← hwd] at hR; exact SG.n (o_ld TI29 rfl h179 (cell_of (hR.blk hB27 (fun h => h)) rfl) ⟨rfl, Only.refl No _⟩)) ?_
        refine WD.p rfl (fun e w hR hh => by obtain ⟨h180, -⟩ := hh; exact SG.n (o_call Try.call10 (lc h180 ln) ((num_spec _ _).mono (fun v w' ⟨h1, h2⟩ => ⟨h1, by rw [h2]; exact Only.refl No _⟩)))) ?_
        refine WD.p rfl (fun e w hR hh => by obtain ⟨h181, -⟩ := hh; exact SG.n (o_ne h181 rfl ⟨rfl, Only.refl No _⟩)) ?_
        refine WD.p rfl (fun e w hR hh => by obtain ⟨h182, -⟩ := hh; exact SG.n (o_mvh h182 ⟨rfl, Only.refl No _⟩)) ?_
        refine WD.p rfl (fun e w hR hh => by obtain ⟨h183, h26, -⟩ := hh; exact SG.s h183 (by simp) ⟨rfl, Only.refl No _⟩) ?_
        refine WD.p rfl (fun e w hR hh => by obtain ⟨h184, h183, -⟩ := hh; exact SG.s h183 (by simp) ⟨rfl, Only.refl No _⟩) ?_
        refine WD.p rfl (fun e w hR hh => by obtain ⟨h185, h183, -⟩ := hh; exact SG.n (o_pickF h183 (by simp) ⟨rfl, Only.refl No _⟩)) ?_
        refine WD.p rfl (fun e w hR hh => by obtain ⟨h186, -⟩ := hh; exact SG.n (o_mvh h186 ⟨rfl, Only.refl No _⟩)) ?_
        refine WD.p rfl (fun e w hR hh => by obtain ⟨h187, h27, -⟩ := hh; exact SG.g h187 (rfl) (o_fa 0 TI31 rfl TI29 rfl h27 ⟨rfl, Only.refl No _⟩)) ?_
        refine WD.p rfl (fun e w hR hh => by obtain ⟨h188, h187, -⟩ := hh; rw [← hwd] at hR; exact SG.g h187 (rfl) (o_ld TI29 rfl h188 (cell_of (hR.blk hB27 (fun h => h)) rfl) ⟨rfl, Only.refl No _⟩)) ?_
        refine WD.p rfl (fun e w hR hh => by obtain ⟨h189, h187, -⟩ := hh; exact SG.g h187 (rfl) (o_call Try.call10 (lc h189 ln) ((num_spec _ _).mono (fun v w' ⟨h1, h2⟩ => ⟨h1, by rw [h2]; exact Only.refl No _⟩)))) ?_
        refine WD.p rfl (fun e w hR hh => by obtain ⟨h190, h187, -⟩ := hh; exact SG.g h187 (rfl) (o_eq h190 rfl ⟨rfl, Only.refl No _⟩)) ?_
        refine WD.p rfl (fun e w hR hh => by obtain ⟨h191, h187, -⟩ := hh; exact SG.g h187 (rfl) (o_mvh h191 ⟨rfl, Only.refl No _⟩)) ?_
        refine WD.p rfl (fun e w hR hh => by obtain ⟨h192, h26, -⟩ := hh; exact SG.g h192 (by simp) (o_mvh h26 ⟨rfl, Only.refl No _⟩)) ?_
        refine WD.p rfl (fun e w hR hh => by obtain ⟨h193, h192, -⟩ := hh; exact SG.g h192 (by simp) (o_neN (p := some ⟨q2, 0, none⟩) TI25 h193 rfl ⟨rfl, Only.refl No _⟩)) ?_
        refine WD.p rfl (fun e w hR hh => by obtain ⟨h194, h192, h187, -⟩ := hh; exact SG.g h187 (rfl) (o_pickA h192 h194 ⟨rfl, Only.refl No _⟩)) ?_
        refine WD.p rfl (fun e w hR hh => by obtain ⟨h195, h187, -⟩ := hh; exact SG.g h187 (rfl) (o_mvh h195 ⟨rfl, Only.refl No _⟩)) ?_
        refine WD.p rfl (fun e w hR hh => by obtain ⟨h196, h26, -⟩ := hh; exact SG.g h196 (by simp) (o_mvh h26 ⟨rfl, Only.refl No _⟩)) ?_
        refine WD.q (fun v w => By w v zs) (fun v w w2 hR hh => Sl.ext hh hR) rfl (fun e w hR hh => by obtain ⟨h197, h196, -⟩ := hh; rw [← hwd] at hR; exact SG.g h196 (by simp) (o_call Try.call8 (lc h197 ln) ((save_spec' _ q2 s.most s.high s.L l2 V2 w (hq2.ext (hxd.tr hR)) hb6 (by omega) zs hb1.symm).mono (fun v w' hh => by obtain ⟨g, cap, h1, h2, h3, h4⟩ := hh; exact ⟨h3, h4⟩)))) ?_
        refine WD.p rfl (fun e w hR hh => by obtain ⟨h198, h196, -⟩ := hh; exact SG.g h196 (by simp) (o_cvBS TI23 TI5 TI9 rfl h198 ⟨rfl, Only.refl No _⟩)) ?_
        refine WD.p rfl (fun e w hR hh => by obtain ⟨h196, h4, -⟩ := hh; exact SG.g h196 (by simp) (o_mvh h4 ⟨rfl, Only.refl No _⟩)) ?_
        refine WD.p rfl (fun e w hR hh => by obtain ⟨h200, h196, -⟩ := hh; rw [← hwd] at hR; exact SG.g h196 (by simp) (o_cvBS TI23 TI5 TI9 h200 (Sl.ext hZ2 (hxd.tr hR)) ⟨rfl, Only.refl No _⟩)) ?_
        refine WD.p rfl (fun e w hR hh => by obtain ⟨h201, h199, h196, -⟩ := hh; exact SG.g h196 (by simp) (o_eqT h199 h201 ⟨rfl, Only.refl No _⟩)) ?_
        refine WD.p rfl (fun e w hR hh => by obtain ⟨h202, h196, h187, -⟩ := hh; exact SG.g h187 (rfl) (o_pickA h196 h202 ⟨rfl, Only.refl No _⟩)) ?_
        refine WD.p rfl (fun e w hR hh => by obtain ⟨h203, h187, -⟩ := hh; exact SG.n (o_pickO h187 h203 ⟨rfl, Only.refl No _⟩)) ?_
        refine WD.p rfl (fun e w hR hh => by obtain ⟨h204, -⟩ := hh; exact SG.n (o_ash h204 ⟨rfl, Only.refl No _⟩)) ?_
        rintro e w hR ⟨h10, h204, h203, h202, h201, h200, h199, h198, h197, h196, h195, h194, h193, h192, h191, h190, h189, h188, h187, h186, h185, h184, h183, h182, h181, h180, h179, h4, h26, h27, -⟩
        refine W.ret ?_
        refine ret1v rfl h10 ?_
        exact ⟨congrArg Value.bool (by simp), hx28.tr ((hy.tr hxd).tr (hwd ▸ hR))⟩
      · skip
        skip
        refine W.region ?_
        refine WL.c rfl (o_mvh h4 ?_)
        refine WL.c rfl (o_call Try.call9 (lc rfl ln) ((load_spec zv zs _ hZ (by omega)).mono ?_))
        rintro v176 w176 ⟨-, hbad⟩
        obtain ⟨rfl, hx176⟩ := hbad _ _ hz
        have hne := rdS_bad_ne hz
        replace hy := hy.tr hx176
        refine WL.c rfl (o_mvh (by first | exact (show _ = Value.tuple _ from rfl) | exact rfl) ?_)
        refine WL.c rfl (o_ext rfl rfl ?_)
        refine WL.c rfl (o_ext rfl rfl ?_)
        refine WL.c rfl (o_alB TI31 ?_)
        intro w27 hC27 hx27 hs27
        have hy27 := hy.size
        replace hy := hy.tr hx27
        refine WL.c rfl (o_ash (by first | exact (show _ = Value.pointer _ from rfl) | exact rfl) ?_)
        refine WL.u (o_stA TI31 rfl (show _ = Value.agg #[.int .i64 (e1 : Int), .int .i64 (a : Int)] from rfl) rfl rfl hC27 rfl ?_)
        intro w29 hB27 ho27 hs29
        replace hy := hy.trans' ho27 (fun _ h => h) (fun k hk he => by omega)
        refine WL.nil ?_
        refine W.seq ?_
        obtain ⟨wd, hwd⟩ : ∃ wd, wd = w29.drew := ⟨_, rfl⟩
        have hxd : Ext w29 wd := hwd ▸ Only.drew w29
        replace hB27 := hxd.blk hB27 (fun h => h)
        refine W.draw (Ext) [(4, fun v _ => v = _), (26, fun v _ => v = _), (27, fun v _ => v = _)] rfl (by kernel_rfl) (Only.refl No) (fun _ _ _ h k => h.trans k) ⟨Mono.eq, Mono.eq, Mono.eq, trivial⟩ ⟨h4, rfl, rfl, trivial⟩ ?_
        refine WD.p rfl (fun e w hR hh => by obtain ⟨h27, -⟩ := hh; exact SG.n (o_fa 0 TI31 rfl TI29 rfl h27 ⟨rfl, Only.refl No _⟩)) ?_
        refine WD.p rfl (fun e w hR hh => by obtain ⟨h179, -⟩ := hh; rw [← hwd] at hR; exact SG.n (o_ld TI29 rfl h179 (cell_of (hR.blk hB27 (fun h => h)) rfl) ⟨rfl, Only.refl No _⟩)) ?_
        refine WD.p rfl (fun e w hR hh => by obtain ⟨h180, -⟩ := hh; exact SG.n (o_call Try.call10 (lc h180 ln) ((num_spec _ _).mono (fun v w' ⟨h1, h2⟩ => ⟨h1, by rw [h2]; exact Only.refl No _⟩)))) ?_
        refine WD.p rfl (fun e w hR hh => by obtain ⟨h181, -⟩ := hh; exact SG.n (o_ne h181 rfl ⟨rfl, Only.refl No _⟩)) ?_
        refine WD.p rfl (fun e w hR hh => by obtain ⟨h182, -⟩ := hh; exact SG.n (o_mvh h182 ⟨rfl, Only.refl No _⟩)) ?_
        refine WD.p rfl (fun e w hR hh => by obtain ⟨h183, h26, -⟩ := hh; exact SG.g h183 (by simp; omega) (o_mvh h26 ⟨rfl, Only.refl No _⟩)) ?_
        refine WD.p rfl (fun e w hR hh => by obtain ⟨h184, h183, -⟩ := hh; exact SG.g h183 (by simp; omega) (o_eqN (p := none) TI25 h184 rfl ⟨rfl, Only.refl No _⟩)) ?_
        refine WD.p rfl (fun e w hR hh => by obtain ⟨h185, h183, -⟩ := hh; exact SG.n (o_pickA h183 h185 ⟨rfl, Only.refl No _⟩)) ?_
        refine WD.p rfl (fun e w hR hh => by obtain ⟨h186, -⟩ := hh; exact SG.n (o_mvh h186 ⟨rfl, Only.refl No _⟩)) ?_
        refine WD.p rfl (fun e w hR hh => by obtain ⟨h187, h27, -⟩ := hh; exact SG.s h187 (by simp; omega) ⟨rfl, Only.refl No _⟩) ?_
        refine WD.p rfl (fun e w hR hh => by obtain ⟨h188, h187, -⟩ := hh; rw [← hwd] at hR; exact SG.s h187 (by simp; omega) ⟨rfl, Only.refl No _⟩) ?_
        refine WD.p rfl (fun e w hR hh => by obtain ⟨h189, h187, -⟩ := hh; exact SG.s h187 (by simp; omega) ⟨rfl, Only.refl No _⟩) ?_
        refine WD.p rfl (fun e w hR hh => by obtain ⟨h190, h187, -⟩ := hh; exact SG.s h187 (by simp; omega) ⟨rfl, Only.refl No _⟩) ?_
        refine WD.p rfl (fun e w hR hh => by obtain ⟨h191, h187, -⟩ := hh; exact SG.s h187 (by simp; omega) ⟨rfl, Only.refl No _⟩) ?_
        refine WD.p rfl (fun e w hR hh => by obtain ⟨h192, h26, -⟩ := hh; exact SG.z h192 ⟨rfl, Only.refl No _⟩) ?_
        refine WD.p rfl (fun e w hR hh => by obtain ⟨h193, h192, -⟩ := hh; exact SG.z h192 ⟨rfl, Only.refl No _⟩) ?_
        refine WD.p rfl (fun e w hR hh => by obtain ⟨h194, h192, h187, -⟩ := hh; exact SG.s h187 (by simp; omega) ⟨rfl, Only.refl No _⟩) ?_
        refine WD.p rfl (fun e w hR hh => by obtain ⟨h195, h187, -⟩ := hh; exact SG.s h187 (by simp; omega) ⟨rfl, Only.refl No _⟩) ?_
        refine WD.p rfl (fun e w hR hh => by obtain ⟨h196, h26, -⟩ := hh; exact SG.z h196 ⟨rfl, Only.refl No _⟩) ?_
        refine WD.p rfl (fun e w hR hh => by obtain ⟨h197, h196, -⟩ := hh; exact SG.z h196 ⟨rfl, Only.refl No _⟩) ?_
        refine WD.p rfl (fun e w hR hh => by obtain ⟨h198, h196, -⟩ := hh; exact SG.z h196 ⟨rfl, Only.refl No _⟩) ?_
        refine WD.p rfl (fun e w hR hh => by obtain ⟨h196, h4, -⟩ := hh; exact SG.z h196 ⟨rfl, Only.refl No _⟩) ?_
        refine WD.p rfl (fun e w hR hh => by obtain ⟨h200, h196, -⟩ := hh; exact SG.z h196 ⟨rfl, Only.refl No _⟩) ?_
        refine WD.p rfl (fun e w hR hh => by obtain ⟨h201, h199, h196, -⟩ := hh; exact SG.z h196 ⟨rfl, Only.refl No _⟩) ?_
        refine WD.p rfl (fun e w hR hh => by obtain ⟨h202, h196, h187, -⟩ := hh; exact SG.s h187 (by simp; omega) ⟨rfl, Only.refl No _⟩) ?_
        refine WD.p rfl (fun e w hR hh => by obtain ⟨h203, h187, -⟩ := hh; exact SG.n (o_pickT h187 (by simp; omega) ⟨rfl, Only.refl No _⟩)) ?_
        refine WD.p rfl (fun e w hR hh => by obtain ⟨h204, -⟩ := hh; exact SG.n (o_ash h204 ⟨rfl, Only.refl No _⟩)) ?_
        rintro e w hR ⟨h10, h204, h203, h202, h201, h200, h199, h198, h197, h196, h195, h194, h193, h192, h191, h190, h189, h188, h187, h186, h185, h184, h183, h182, h181, h180, h179, h4, h26, h27, -⟩
        refine W.ret ?_
        refine ret1v rfl h10 ?_
        exact ⟨rfl, hx28.tr ((hy.tr hxd).tr (hwd ▸ hR))⟩
end Go.Proofs.Ytdiaeafjjffjmaa
