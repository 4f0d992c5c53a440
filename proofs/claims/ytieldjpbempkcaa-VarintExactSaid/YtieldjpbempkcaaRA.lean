/-
  Walks. Written by program out of specs of mine.
-/
import Derived.Test.YtieldjpbempkcaaY
import Derived.Test.YtieldjpbempkcaaBook
set_option linter.unusedSimpArgs false
set_option linter.unusedVariables false
namespace Go.Proofs.Ytieldjpbempkcaa
open Go Go.Vc Go.RowKit Go.Proofs

def hv : List UInt8 → Nat
  | [] => 0
  | c :: cs => c.toNat % 128 + 128 * hv cs
theorem vnum_hv : ∀ (cs : List UInt8) (k m : Nat), vnum k m cs = m + 128 ^ k * hv cs
  | [], k, m => by simp [vnum, hv]
  | c :: cs, k, m => by
    rw [vnum, vnum_hv cs, hv, Nat.pow_succ, Nat.mul_add, Nat.mul_comm (c.toNat % 128), Nat.add_assoc, Nat.mul_assoc]
theorem vnum_lt : ∀ (cs : List UInt8) (k m : Nat), k + cs.length ≤ 10 → (k < 10 → m < 128 ^ k) → m < 2 ^ 64 → (∀ i (h : i < cs.length), vfault cs[i] (k + i) = false) → vnum k m cs < 2 ^ 64
  | [], k, m, _, _, h, _ => h
  | c :: cs, k, m, hl, hm, _, hf => by
    simp only [List.length_cons] at hl
    have h0 := hf 0 (by simp)
    have hv := vfault9 (c := c) (k := k) (by simpa using h0)
    have hg := grp (k := k) (m := m) (c := c.toNat) (by omega) (hm (by omega)) (UInt8.toNat_lt c) hv.1
    rw [vnum]
    refine vnum_lt cs (k + 1) _ (by omega) (fun h => hg.2.2 (by omega)) hg.2.1 (fun i h => ?_)
    have := hf (i + 1) (by simp; omega)
    simpa [Nat.add_assoc, Nat.add_comm 1 i] using this
theorem RdOk.num {bs : List UInt8} {over : Bool} (h : RdOk bs over) : vnum 0 0 bs < 2 ^ 64 :=
  vnum_lt bs 0 0 (by have := h.len; omega) (fun _ => by decide) (by decide) (fun i hi => by simpa using h.fine i hi)
theorem vput_lt {n : Nat} (h : n < 128) : vput n = [UInt8.ofNat n] := by
  have h1 : n % 128 = n := Nat.mod_eq_of_lt h
  simp [vput, vsize_lt h, vbyte, dig, h1]
theorem vput_ge {n : Nat} (h : ¬ n < 128) : vput n = UInt8.ofNat (n % 128 + 128) :: vput (n / 128) := by
  unfold vput
  rw [vsize_ge h, List.range_succ_eq_map, List.map_cons, List.map_map]
  have hp := vsize_pos (n / 128)
  congr 1
  · unfold vbyte dig
    rw [if_pos (by omega)]; simp
  · refine List.map_congr_left fun j _ => ?_
    have hd : dig n (j + 1) = dig (n / 128) j := by unfold dig; rw [Nat.pow_succ, Nat.mul_comm, ← Nat.div_div_eq_div_mul]
    show vbyte n (vsize (n / 128) + 1) (j + 1) = vbyte (n / 128) (vsize (n / 128)) j
    unfold vbyte
    rw [hd]
    by_cases hj : j + 1 < vsize (n / 128)
    · rw [if_pos hj, if_pos (by omega)]
    · rw [if_neg hj, if_neg (by omega)]
theorem bv_of {n : Nat} (h : n < 256) : Value.int .u8 (n : Int) = bv (UInt8.ofNat n) := by unfold bv; simp; omega

theorem shows_spec (c : UInt8) (k : Nat) (hk : k ≤ 9) (w0 : World) : Ca Try.prog 33 #[.int .i64 (k : Int), bv c] w0 (fun v w' => v = .bool (vfault c k) ∧ w' = w0) := by
  refine Ca.of Try.func33 Try.ntmps33 rfl rfl ?_
  refine W.seq ?_
  refine W.region ?_
  refine WL.c rfl (o_as ?_)
  refine WL.nil ?_
  refine W.seq ?_
  refine W.region ?_
  refine WL.c rfl (o_mv ?_)
  refine WL.c rfl (o_ge rfl rfl ?_)
  refine WL.c rfl (o_mv ?_)
  refine WL.sp 2 rfl (fun g7 => ?_) (fun g7 => ?_)
  · skip
    refine WL.g rfl (g7) rfl (o_mv ?_)
    refine WL.g rfl (g7) rfl (o_gt rfl rfl ?_)
    refine WL.c rfl (o_pickA rfl rfl ?_)
    refine WL.c rfl (o_mv ?_)
    refine WL.sp 6 rfl (fun g11 => ?_) (fun g11 => ?_)
    · skip
      refine WL.s rfl (g11) rfl ?_
      refine WL.s rfl (g11) rfl ?_
      refine WL.s rfl (g11) rfl ?_
      refine WL.z rfl rfl ?_
      refine WL.z rfl rfl ?_
      refine WL.s rfl (g11) rfl ?_
      refine WL.c rfl (o_pickT rfl (g11) ?_)
      refine WL.c rfl (o_as ?_)
      refine WL.nil ?_
      refine W.ret ?_
      refine ret1v rfl (show _ = Value.bool _ from rfl) ?_
      exact ⟨congrArg Value.bool (by rw [Bool.eq_iff_iff]; simp_all [vfault] <;> omega), rfl⟩
    · skip
      refine WL.g rfl (g11) rfl (o_mv ?_)
      refine WL.g rfl (g11) rfl (o_gt rfl rfl ?_)
      refine WL.g rfl (g11) rfl (o_mv ?_)
      refine WL.sp 9 rfl (fun g14 => ?_) (fun g14 => ?_)
      · skip
        refine WL.g rfl (g14) rfl (o_mv ?_)
        refine WL.g rfl (g14) rfl (o_eq rfl rfl ?_)
        refine WL.g rfl (g11) rfl (o_pickA rfl rfl ?_)
        refine WL.c rfl (o_pickO rfl rfl ?_)
        refine WL.c rfl (o_as ?_)
        refine WL.nil ?_
        refine W.ret ?_
        refine ret1v rfl (show _ = Value.bool _ from rfl) ?_
        exact ⟨congrArg Value.bool (by rw [Bool.eq_iff_iff]; simp_all [vfault] <;> omega), rfl⟩
      · skip
        refine WL.s rfl (g14) rfl ?_
        refine WL.s rfl (g14) rfl ?_
        refine WL.g rfl (g11) rfl (o_pickF rfl (g14) ?_)
        refine WL.c rfl (o_pickO rfl rfl ?_)
        refine WL.c rfl (o_as ?_)
        refine WL.nil ?_
        refine W.ret ?_
        refine ret1v rfl (show _ = Value.bool _ from rfl) ?_
        exact ⟨congrArg Value.bool (by rw [Bool.eq_iff_iff]; simp_all [vfault] <;> omega), rfl⟩
  · skip
    refine WL.s rfl (g7) rfl ?_
    refine WL.s rfl (g7) rfl ?_
    refine WL.c rfl (o_pickF rfl (g7) ?_)
    refine WL.c rfl (o_mv ?_)
    refine WL.g rfl (rfl) rfl (o_mv ?_)
    refine WL.g rfl (rfl) rfl (o_gt rfl rfl ?_)
    refine WL.g rfl (rfl) rfl (o_mv ?_)
    refine WL.sp 9 rfl (fun g14 => ?_) (fun g14 => ?_)
    · skip
      refine WL.g rfl (g14) rfl (o_mv ?_)
      refine WL.g rfl (g14) rfl (o_eq rfl rfl ?_)
      refine WL.g rfl (rfl) rfl (o_pickA rfl rfl ?_)
      refine WL.c rfl (o_pickO rfl rfl ?_)
      refine WL.c rfl (o_as ?_)
      refine WL.nil ?_
      refine W.ret ?_
      refine ret1v rfl (show _ = Value.bool _ from rfl) ?_
      exact ⟨congrArg Value.bool (by rw [Bool.eq_iff_iff]; simp_all [vfault] <;> omega), rfl⟩
    · skip
      refine WL.s rfl (g14) rfl ?_
      refine WL.s rfl (g14) rfl ?_
      refine WL.g rfl (rfl) rfl (o_pickF rfl (g14) ?_)
      refine WL.c rfl (o_pickO rfl rfl ?_)
      refine WL.c rfl (o_as ?_)
      refine WL.nil ?_
      refine W.ret ?_
      refine ret1v rfl (show _ = Value.bool _ from rfl) ?_
      exact ⟨congrArg Value.bool (by rw [Bool.eq_iff_iff]; simp_all [vfault] <;> omega), rfl⟩
theorem value_spec (xs : List UInt8) (v : Value) (w0 : World) (hB : By w0 v xs) (hlen : xs.length ≤ 9223372036854775807) : Ca Try.prog 34 #[v] w0 (fun r w' => r = .int .u64 ((vnum 0 0 xs % 2 ^ 64 : Nat) : Int) ∧ w' = w0) := by
  refine Ca.of Try.func34 Try.ntmps34 rfl rfl ?_
  refine W.seq ?_
  refine W.region ?_
  refine WL.c rfl (o_as ?_)
  refine WL.nil ?_
  refine W.seq ?_
  refine W.region ?_
  refine WL.c rfl (o_as ?_)
  refine WL.nil ?_
  refine W.seq ?_
  refine W.seq ?_
  refine W.region ?_
  refine WL.c rfl (o_mv ?_)
  refine WL.c rfl (o_lenR TI32 rfl hB ?_)
  refine WL.c rfl (o_subi rfl rfl (by omega) ?_)
  refine WL.c rfl (o_as ?_)
  refine WL.nil ?_
  refine W.block ?_
  refine W.loop (fun e w => ∃ j : Nat, j ≤ xs.length ∧ e 0 = v ∧ e 3 = .int .u64 ((hv (xs.drop j) % 2 ^ 64 : Nat) : Int) ∧ e 4 = .int .i64 ((j : Int) - 1) ∧ w = w0) (fun e w => (intOf (e 4) + 1).toNat) ?_ ?_
  · exact ⟨xs.length, Nat.le_refl _, rfl, by rw [List.drop_length]; rfl, rfl, rfl⟩
  rintro e w ⟨j, hj, h0, h3, h4, rfl⟩
  have hm4 := h4
  refine W.seq ?_
  refine W.seq ?_
  rcases j with _ | j
  · skip
    refine W.region ?_
    refine WL.c rfl (o_mvh h4 ?_)
    refine WL.c rfl (o_ge rfl rfl ?_)
    refine WL.nil ?_
    refine W.condF' rfl (by simp) ?_
    refine W.exit ?_
    refine W.seq ?_
    refine W.region ?_
    refine WL.c rfl (o_mvh h3 ?_)
    refine WL.c rfl (o_as ?_)
    refine WL.nil ?_
    refine W.ret ?_
    refine ret1v rfl (show _ = Value.int _ _ from rfl) ?_
    exact ⟨by rw [vnum_hv]; simp, rfl⟩
  · skip
    have hj1 : j < xs.length := by omega
    have hcons : xs.drop j = xs[j] :: xs.drop (j + 1) := by rw [List.getElem_cons_drop]
    have hc8 := UInt8.toNat_lt xs[j]
    replace h4 : e 4 = .int .i64 (j : Int) := by rw [h4]; congr 1; omega
    refine W.region ?_
    refine WL.c rfl (o_mvh h4 ?_)
    refine WL.c rfl (o_ge rfl rfl ?_)
    refine WL.nil ?_
    refine W.condT' rfl (by simp <;> omega) ?_
    refine W.skip ?_
    refine W.seq ?_
    refine W.block ?_
    refine W.region ?_
    refine WL.c rfl (o_mvh h3 ?_)
    refine WL.c rfl (n_mul (b := 128) 18446744073709551616 rfl (by decide) rfl rfl ?_)
    refine WL.c rfl (o_mvh h0 ?_)
    refine WL.c rfl (o_mvh h4 ?_)
    refine WL.c rfl (o_ix1 TI32 TI5 rfl rfl hB (by omega) ?_)
    intro b16 o16 hc16 hb16
    refine WL.c rfl (o_ld TI5 rfl rfl (hc16.trans (getbv hj1)) ?_)
    refine WL.c rfl (n_rem (b := 128) rfl rfl (by decide) ?_)
    refine WL.c rfl (n_cvI 18446744073709551616 rfl TI5 TI31 (by decide) rfl ?_)
    refine WL.c rfl (n_add 18446744073709551616 rfl (by decide) rfl rfl ?_)
    refine WL.c rfl (o_as ?_)
    refine WL.nil ?_
    refine W.region ?_
    refine WL.c rfl (o_mvh h4 ?_)
    refine WL.c rfl (o_subi rfl rfl (by omega) ?_)
    refine WL.c rfl (o_as ?_)
    refine WL.nil ?_
    refine ⟨⟨j, by omega, h0, ?_, rfl, rfl⟩, ?_⟩
    · show Value.int .u64 _ = _
      rw [hcons, hv]
      congr 2
      omega
    · show ((j : Int) - 1 + 1).toNat < _
      rw [hm4]; simp [intOf] <;> omega
theorem rput_spec (n : Nat) (hn : n < 2 ^ 64) (w0 : World) : Ca Try.prog 22 #[.int .u64 (n : Int)] w0 (fun v w' => Fresh w0 w' v (vput n)) := by
  have hn10 := vsize_10 hn
  have hnl := vput_len n
  refine Ca.of Try.func22 Try.ntmps22 rfl rfl ?_
  refine W.seq ?_
  refine W.region ?_
  refine WL.c rfl (o_as ?_)
  refine WL.nil ?_
  refine W.seq ?_
  refine W.region ?_
  refine WL.c rfl (o_as ?_)
  refine WL.nil ?_
  refine W.seq ?_
  refine W.block ?_
  refine W.loop (fun e w => ∃ (m : Nat) (bs : List UInt8) (vb : Value), m < 2 ^ 64 ∧ vput n = bs ++ vput m ∧ e 0 = .int .u64 (m : Int) ∧ e 3 = vb ∧ w.ownsRow w0.heap.size 5 1 vb bs.length (bs.map bv) ∧ Ext w0 w) (fun e w => (intOf (e 0)).toNat) ?_ ?_
  · exact ⟨n, [], _, hn, rfl, rfl, rfl, World.ownsRow_nil _ _ _ _, Only.refl No _⟩
  rintro e w ⟨m, bs, vb, hm, hp, h0, h3, hown, hx⟩
  have hm0 := h0
  have hml := vput_len m
  have hmp := vsize_pos m
  have hbl := congrArg List.length hp
  rw [List.length_append, hnl, hml] at hbl
  have hlt := hown.lt
  have hxz := hx.size
  refine W.seq ?_
  refine W.seq ?_
  refine W.region ?_
  refine WL.c rfl (o_mvh h0 ?_)
  refine WL.c rfl (o_gt rfl rfl ?_)
  refine WL.nil ?_
  refine W.cond rfl (fun c5 => ?_) (fun c5 => ?_)
  · try simp only [decide_eq_true_eq, decide_eq_false_iff_not, Bool.not_eq_true', Bool.not_eq_false', Bool.and_eq_true, Bool.or_eq_true, Bool.and_eq_false_iff, Bool.or_eq_false_iff] at c5
    refine W.skip ?_
    refine W.block ?_
    refine W.seq ?_
    refine W.region ?_
    refine WL.c rfl (o_mvh h3 ?_)
    refine WL.c rfl (o_mvh h0 ?_)
    refine WL.c rfl (n_rem (b := 128) rfl rfl (by decide) ?_)
    refine WL.c rfl (n_cvI 256 rfl TI31 TI5 (by decide) rfl ?_)
    refine WL.c rfl (n_add (b := 128) 256 rfl (by decide) rfl rfl ?_)
    refine WL.ap1 (w0.heap.size) rfl rfl TI32 TI5 (show _ = Value.int _ _ from rfl) rfl hown (by decide) (by decide) rfl (one1 rfl) rfl (by rw [maxLen_eq]; omega) (by omega) hxz ?_
    intro v12 w12 hown12 ho12
    replace hown12 : w12.ownsRow w0.heap.size 5 1 v12 (bs ++ [UInt8.ofNat (m % 128 + 128)]).length ((bs ++ [UInt8.ofNat (m % 128 + 128)]).map bv) := by
      rw [List.length_append, List.map_append]
      have he : Value.int .u8 (((m % 128 % 256 + 128) % 256 : Nat) : Int) = bv (UInt8.ofNat (m % 128 + 128)) := by
        rw [show (m % 128 % 256 + 128) % 256 = m % 128 + 128 by omega]; exact bv_of (by omega)
      rw [show [UInt8.ofNat (m % 128 + 128)].map bv = [bv (UInt8.ofNat (m % 128 + 128))] from rfl, ← he]
      exact hown12
    have hx12 := Ext.many hx (Nat.le_refl _) ho12 (fun k hk => (hlt k hk).1)
    refine WL.c rfl (o_as ?_)
    refine WL.nil ?_
    refine W.region ?_
    refine WL.c rfl (o_mvh h0 ?_)
    refine WL.c rfl (n_quo (b := 128) 18446744073709551616 rfl (by decide) rfl rfl (by omega) (by decide) ?_)
    refine WL.c rfl (o_as ?_)
    refine WL.nil ?_
    refine ⟨⟨m / 128, bs ++ [UInt8.ofNat (m % 128 + 128)], v12, by omega, ?_, rfl, rfl, hown12, hx12⟩, ?_⟩
    · rw [hp, vput_ge (by omega), List.append_assoc]; rfl
    · show ((m / 128 : Nat) : Int).toNat < _
      rw [hm0]; simp [intOf] <;> omega
  · try simp only [decide_eq_true_eq, decide_eq_false_iff_not, Bool.not_eq_true', Bool.not_eq_false', Bool.and_eq_true, Bool.or_eq_true, Bool.and_eq_false_iff, Bool.or_eq_false_iff] at c5
    refine W.exit ?_
    refine W.seq ?_
    refine W.region ?_
    refine WL.c rfl (o_mvh h3 ?_)
    refine WL.c rfl (o_mvh h0 ?_)
    refine WL.c rfl (n_cvI 256 rfl TI31 TI5 (by decide) rfl ?_)
    refine WL.ap1 (w0.heap.size) rfl rfl TI32 TI5 (show _ = Value.int _ _ from rfl) rfl hown (by decide) (by decide) rfl (one1 rfl) rfl (by rw [maxLen_eq]; omega) (by omega) hxz ?_
    intro v19 w19 hown19 ho19
    have hfin : vput n = bs ++ [UInt8.ofNat m] := by rw [hp, vput_lt (by omega)]
    replace hown19 : w19.ownsRow w0.heap.size 5 1 v19 (vput n).length ((vput n).map bv) := by
      rw [hfin, List.length_append, List.map_append]
      have he : Value.int .u8 ((m % 256 : Nat) : Int) = bv (UInt8.ofNat m) := by
        rw [show m % 256 = m by omega]; exact bv_of (by omega)
      rw [show [UInt8.ofNat m].map bv = [bv (UInt8.ofNat m)] from rfl, ← he]
      exact hown19
    have hx19 := Ext.many hx (Nat.le_refl _) ho19 (fun k hk => (hlt k hk).1)
    refine WL.c rfl (o_as ?_)
    refine WL.nil ?_
    refine W.ret ?_
    refine ret1v rfl (show _ = v19 from rfl) ?_
    exact ⟨hown19, hx19⟩
theorem rsize_spec (n : Nat) (hn : n < 2 ^ 64) (w0 : World) : Ca Try.prog 23 #[.int .u64 (n : Int)] w0 (fun v w' => v = .int .i64 (vsize n : Int) ∧ Ext w0 w') := by
  refine Ca.of Try.func23 Try.ntmps23 rfl rfl ?_
  refine W.seq ?_
  refine W.region ?_
  refine WL.c rfl (o_as ?_)
  refine WL.nil ?_
  refine W.seq ?_
  refine W.region ?_
  refine WL.c rfl (o_mv ?_)
  refine WL.c rfl (o_call Try.call22 (lc rfl ln) ((rput_spec n hn _).mono ?_))
  rintro v4 w4 hf4
  refine WL.c rfl (o_lenR TI32 rfl hf4.by ?_)
  refine WL.c rfl (o_as ?_)
  refine WL.nil ?_
  refine W.ret ?_
  refine ret1v rfl (show _ = Value.int _ _ from rfl) ?_
  exact ⟨by rw [vput_len], hf4.2⟩
theorem rget_spec (xs : List UInt8) (v : Value) (w0 : World) (hB : By w0 v xs) (hlen : xs.length ≤ 9223372036854775807) : Ca Try.prog 25 #[v] w0 (fun r w' => r = .tuple #[.int .u64 ((vget 0 0 xs).1 : Int), .int .i64 ((vget 0 0 xs).2.1 : Int), .int .i64 ((vget 0 0 xs).2.2 : Int)] ∧ w' = w0) := by
  refine Ca.of Try.func25 Try.ntmps25 rfl rfl ?_
  refine W.seq ?_
  refine W.region ?_
  refine WL.c rfl (o_as ?_)
  refine WL.c rfl (o_as ?_)
  refine WL.c rfl (o_as ?_)
  refine WL.nil ?_
  refine W.seq ?_
  refine W.seq ?_
  refine W.region ?_
  refine WL.c rfl (o_as ?_)
  refine WL.nil ?_
  refine W.block ?_
  refine W.loop (fun e w => ∃ k m : Nat, k ≤ xs.length ∧ Rdn xs k m ∧ e 0 = v ∧ e 5 = .int .i64 (k : Int) ∧ w = w0) (fun e w => xs.length - (intOf (e 5)).toNat) ?_ ?_
  · exact ⟨0, 0, Nat.zero_le _, Rdn.zero xs, rfl, rfl, rfl⟩
  rintro e w ⟨k, m, hk, hR, h0, h5, rfl⟩
  have hm5 := h5
  have hk9 := hR.le9 hk
  refine W.seq ?_
  refine W.seq ?_
  by_cases hk1 : k < xs.length
  · skip
    have hc8 := UInt8.toNat_lt xs[k]
    refine W.region ?_
    refine WL.c rfl (o_mvh h5 ?_)
    refine WL.c rfl (o_mvh h0 ?_)
    refine WL.c rfl (o_lenR TI32 rfl hB ?_)
    refine WL.c rfl (o_lt rfl rfl ?_)
    refine WL.nil ?_
    refine W.condT' rfl (by simp; omega) ?_
    refine W.skip ?_
    refine W.seq ?_
    refine W.block ?_
    refine W.seq ?_
    refine W.seq ?_
    refine W.region ?_
    refine WL.c rfl (o_mvh h5 ?_)
    refine WL.c rfl (o_mvh h0 ?_)
    refine WL.c rfl (o_mvh h5 ?_)
    refine WL.c rfl (o_ix1 TI32 TI5 rfl rfl hB (by omega) ?_)
    intro b15 o15 hc15 hb15
    refine WL.c rfl (o_ld TI5 rfl rfl (hc15.trans (getbv hk1)) ?_)
    refine WL.c rfl (o_call Try.call33 (lc rfl (lc rfl ln)) ((shows_spec xs[k] k hk9 _).mono ?_))
    rintro v17 w17 ⟨rfl, rfl⟩
    refine WL.nil ?_
    refine W.cond rfl (fun c17 => ?_) (fun c17 => ?_)
    · try simp only [decide_eq_true_eq, decide_eq_false_iff_not, Bool.not_eq_true', Bool.not_eq_false', Bool.and_eq_true, Bool.or_eq_true, Bool.and_eq_false_iff, Bool.or_eq_false_iff] at c17
      have hf : vfault xs[k] k = true := c17
      refine W.seq ?_
      refine W.region ?_
      refine WL.c rfl (o_mvh h5 ?_)
      refine WL.c rfl (o_as ?_)
      refine WL.c rfl (o_as ?_)
      refine WL.c rfl (o_as ?_)
      refine WL.nil ?_
      refine W.ret ?_
      refine ret3v rfl (show _ = Value.int _ _ from rfl) (show _ = Value.int _ _ from rfl) (show _ = Value.int _ _ from rfl) ?_
      exact ⟨by have hG : vget 0 0 xs = (0, k, 21) := (by rw [hR.here hk1, vget, if_pos hf]); rw [hG]; rfl, rfl⟩
    · try simp only [decide_eq_true_eq, decide_eq_false_iff_not, Bool.not_eq_true', Bool.not_eq_false', Bool.and_eq_true, Bool.or_eq_true, Bool.and_eq_false_iff, Bool.or_eq_false_iff] at c17
      have hf : vfault xs[k] k = false := c17
      refine W.skip ?_
      refine W.seq ?_
      refine W.region ?_
      refine WL.c rfl (o_mvh h0 ?_)
      refine WL.c rfl (o_mvh h5 ?_)
      refine WL.c rfl (o_ix1 TI32 TI5 rfl rfl hB (by omega) ?_)
      intro b21 o21 hc21 hb21
      refine WL.c rfl (o_ld TI5 rfl rfl (hc21.trans (getbv hk1)) ?_)
      refine WL.c rfl (o_lt rfl rfl ?_)
      refine WL.nil ?_
      refine W.cond rfl (fun c23 => ?_) (fun c23 => ?_)
      · try simp only [decide_eq_true_eq, decide_eq_false_iff_not, Bool.not_eq_true', Bool.not_eq_false', Bool.and_eq_true, Bool.or_eq_true, Bool.and_eq_false_iff, Bool.or_eq_false_iff] at c23
        refine W.seq ?_
        refine W.region ?_
        refine WL.c rfl (o_mvh h0 ?_)
        refine WL.c rfl (o_mvh h5 ?_)
        refine WL.c rfl (o_addi rfl rfl (by omega) ?_)
        refine WL.c rfl (o_sl TI32 TI5 rfl hB Lo.n (Hi.s rfl) (Nat.zero_le _) (by show k + 1 ≤ _; omega) ?_)
        intro v27 hb27 hS27
        have hB27 : By _ v27 (xs.take (k + 1)) := by_take (by omega) (by simpa using hS27)
        refine WL.c rfl (o_call Try.call34 (lc rfl ln) ((value_spec (xs.take (k + 1)) v27 _ hB27 (by simp; omega)).mono ?_))
        rintro v28 w28 ⟨rfl, rfl⟩
        refine WL.c rfl (o_mvh h5 ?_)
        refine WL.c rfl (o_addi rfl rfl (by omega) ?_)
        refine WL.c rfl (o_as ?_)
        refine WL.c rfl (o_as ?_)
        refine WL.c rfl (o_as ?_)
        refine WL.nil ?_
        refine W.ret ?_
        refine ret3v rfl (show _ = Value.int _ _ from rfl) (show _ = Value.int _ _ from rfl) (show _ = Value.int _ _ from rfl) ?_
        have hg := grp hk9 hR.lt (UInt8.toNat_lt (xs[k])) (vfault9 hf).1
        have hG : vget 0 0 xs = (m + (xs[k]).toNat % 128 * 128 ^ k, k + 1, 0) := by rw [hR.here hk1, vget, if_neg (by simp [hf]), if_pos (by omega)]
        have hN : vnum 0 0 (xs.take (k + 1)) = m + (xs[k]).toNat % 128 * 128 ^ k := by rw [take_next hk1, vnum_snoc, hR.num, take_len (by omega), Nat.zero_add]
        exact ⟨by rw [hG, hN, Nat.mod_eq_of_lt hg.2.1]; rfl, rfl⟩
      · try simp only [decide_eq_true_eq, decide_eq_false_iff_not, Bool.not_eq_true', Bool.not_eq_false', Bool.and_eq_true, Bool.or_eq_true, Bool.and_eq_false_iff, Bool.or_eq_false_iff] at c23
        refine W.skip ?_
        refine W.region ?_
        refine WL.c rfl (o_mvh h5 ?_)
        refine WL.c rfl (o_addi rfl rfl (by omega) ?_)
        refine WL.c rfl (o_as ?_)
        refine WL.nil ?_
        refine ⟨⟨k + 1, _, by omega, hR.next hk1 hf (by omega), h0, rfl, rfl⟩, ?_⟩
        show xs.length - ((k : Int) + 1).toNat < _
        rw [hm5]; simp [intOf] <;> omega
  · skip
    refine W.region ?_
    refine WL.c rfl (o_mvh h5 ?_)
    refine WL.c rfl (o_mvh h0 ?_)
    refine WL.c rfl (o_lenR TI32 rfl hB ?_)
    refine WL.c rfl (o_lt rfl rfl ?_)
    refine WL.nil ?_
    refine W.condF' rfl (by simp; omega) ?_
    refine W.exit ?_
    refine W.seq ?_
    refine W.region ?_
    refine WL.c rfl (o_mvh h0 ?_)
    refine WL.c rfl (o_lenR TI32 rfl hB ?_)
    refine WL.c rfl (o_as ?_)
    refine WL.c rfl (o_as ?_)
    refine WL.c rfl (o_as ?_)
    refine WL.nil ?_
    refine W.ret ?_
    refine ret3v rfl (show _ = Value.int _ _ from rfl) (show _ = Value.int _ _ from rfl) (show _ = Value.int _ _ from rfl) ?_
    have hG : vget 0 0 xs = (0, xs.length, 20) := by
      have hk2 : k = xs.length := by omega
      subst hk2
      rw [hR.get, List.drop_length]; rfl
    exact ⟨by rw [hG]; rfl, rfl⟩
end Go.Proofs.Ytieldjpbempkcaa
