/-
  Walks. Written by program out of specs of mine.
-/
import Derived.Test.YtieldjpbempkcaaW
set_option linter.unusedSimpArgs false
set_option linter.unusedVariables false
namespace Go.Proofs.Ytieldjpbempkcaa
open Go Go.Vc Go.RowKit Go.Proofs

/-- bytes taken one by one, up to the first error -/
def rload (bs : List UInt8) (over : Bool) : List UInt8 → Nat × List UInt8 × Bool
  | [] => (0, bs, over)
  | c :: cs => if rerr bs over c = 0 then rload (rnext bs over c) (rover bs over c) cs else (rerr bs over c, [], false)
theorem rload_ok : ∀ (xs : List UInt8) (bs : List UInt8) (over : Bool), RdOk bs over → RdOk (rload bs over xs).2.1 (rload bs over xs).2.2
  | [], _, _, h => h
  | c :: cs, bs, over, h => by
    unfold rload
    split
    · exact rload_ok cs _ _ (h.next c)
    · exact ⟨fun i h => absurd h (Nat.not_lt_zero _), by simp, by simp⟩
theorem RdOk.new : RdOk [] false := ⟨fun i h => absurd h (Nat.not_lt_zero _), by simp, by simp⟩
def pOf (e : Nat) (p : Nat) : Option Addr := if e = 0 then some ⟨p, 0, none⟩ else none

theorem load_spec (xs : List UInt8) (v : Value) (w0 : World) (hB : By w0 v xs) (hlen : xs.length ≤ maxLen) : Ca Try.prog 18 #[v] w0 (fun r w' => r = .tuple #[.pointer (pOf (rload [] false xs).1 w0.heap.size), .int .i64 ((rload [] false xs).1 : Int)] ∧ ((rload [] false xs).1 = 0 → RdP w' w0.heap.size (rload [] false xs).2.1 (rload [] false xs).2.2) ∧ Ext w0 w') := by
  rw [maxLen_eq] at hlen
  refine Ca.of Try.func18 Try.ntmps18 rfl rfl ?_
  refine W.seq ?_
  refine W.region ?_
  refine WL.c rfl (o_as ?_)
  refine WL.c rfl (o_as ?_)
  refine WL.nil ?_
  refine W.seq ?_
  refine W.region ?_
  refine WL.c rfl (o_call Try.call9 ln ((new_spec _).mono ?_))
  rintro v9 w9 ⟨rfl, hr9, hx9⟩
  refine WL.c rfl (o_as ?_)
  refine WL.nil ?_
  refine W.seq ?_
  refine W.seq ?_
  refine W.region ?_
  refine WL.c rfl (o_mv ?_)
  refine WL.c rfl (o_lenR TI32 rfl (hB.ext hx9) ?_)
  refine WL.c rfl (o_mv ?_)
  refine WL.nil ?_
  refine W.block ?_
  refine W.loop (fun e w => ∃ (k : Nat) (bs : List UInt8) (over : Bool), e 4 = .pointer (some ⟨w0.heap.size, 0, none⟩) ∧ e 10 = v ∧ e 11 = .int .i64 (xs.length : Int) ∧ e 12 = .int .i64 (k : Int) ∧ k ≤ xs.length ∧ RdP w w0.heap.size bs over ∧ RdOk bs over ∧ rload [] false xs = rload bs over (xs.drop k) ∧ Ext w0 w) (fun e w => xs.length - (intOf (e 12)).toNat) ?_ ?_
  · exact ⟨0, [], false, rfl, rfl, rfl, rfl, Nat.zero_le _, hr9, RdOk.new, rfl, hx9⟩
  rintro e w ⟨k, bs, over, h4, h10, h11, h12, hk, hr, hok, hg, hx⟩
  refine W.seq ?_
  refine W.region ?_
  refine WL.c rfl (o_lt h12 h11 ?_)
  refine WL.nil ?_
  refine W.seq ?_
  refine W.cond rfl (fun c13 => ?_) (fun c13 => ?_)
  · try simp only [decide_eq_true_eq, decide_eq_false_iff_not, Bool.not_eq_true', Bool.not_eq_false', Bool.and_eq_true, Bool.or_eq_true, Bool.and_eq_false_iff, Bool.or_eq_false_iff] at c13
    refine W.skip ?_
    refine W.seq ?_
    refine W.block ?_
    refine W.seq ?_
    have hk1 : k < xs.length := by omega
    have hcons : xs.drop k = xs[k] :: xs.drop (k + 1) := by rw [List.getElem_cons_drop]
    refine W.region ?_
    refine WL.c rfl (o_ix1 TI32 TI5 h10 h12 (hB.ext hx) (by omega) ?_)
    intro b14 o14 hc14 hb14
    refine WL.c rfl (o_ld TI5 rfl rfl (hc14.trans (getbv hk1)) ?_)
    refine WL.c rfl (o_as ?_)
    refine WL.nil ?_
    refine W.seq ?_
    refine W.region ?_
    refine WL.c rfl (o_mvh h4 ?_)
    refine WL.c rfl (o_mv ?_)
    refine WL.c rfl (o_call Try.call21 (lc rfl (lc rfl ln)) ((byte_spec w0.heap.size xs[k] bs over _ hr hok).mono ?_))
    rintro v19 w19 ⟨rfl, hr2, hx2⟩
    refine WL.c rfl (o_mv ?_)
    refine WL.c rfl (o_ext rfl rfl ?_)
    refine WL.c rfl (o_ext rfl rfl ?_)
    refine WL.c rfl (o_as ?_)
    refine WL.c rfl (o_as ?_)
    refine WL.nil ?_
    refine W.seq ?_
    refine W.region ?_
    refine WL.c rfl (o_mv ?_)
    refine WL.c rfl (o_ne rfl rfl ?_)
    refine WL.nil ?_
    refine W.cond rfl (fun c23 => ?_) (fun c23 => ?_)
    · try simp only [decide_eq_true_eq, decide_eq_false_iff_not, Bool.not_eq_true', Bool.not_eq_false', Bool.and_eq_true, Bool.or_eq_true, Bool.and_eq_false_iff, Bool.or_eq_false_iff] at c23
      have he : rerr bs over xs[k] ≠ 0 := by omega
      refine W.seq ?_
      refine W.region ?_
      refine WL.c rfl (o_mv ?_)
      refine WL.c rfl (o_as ?_)
      refine WL.c rfl (o_as ?_)
      refine WL.nil ?_
      refine W.ret ?_
      refine ret2v rfl (show _ = Value.pointer _ from rfl) (show _ = Value.int _ _ from rfl) ?_
      have h1 : (rload [] false xs).1 = rerr bs over xs[k] := by rw [hg, hcons, rload, if_neg he]
      rw [h1]
      refine ⟨by simp [pOf, he], fun h => absurd h he, hx.trans' hx2 (fun _ h => h) (fun j hj he => by omega)⟩
    · try simp only [decide_eq_true_eq, decide_eq_false_iff_not, Bool.not_eq_true', Bool.not_eq_false', Bool.and_eq_true, Bool.or_eq_true, Bool.and_eq_false_iff, Bool.or_eq_false_iff] at c23
      have he : rerr bs over xs[k] = 0 := by omega
      refine W.skip ?_
      refine W.region ?_
      refine WL.c rfl (o_addi h12 rfl (by omega) ?_)
      refine WL.c rfl (o_mv ?_)
      refine WL.nil ?_
      refine ⟨⟨k + 1, _, _, h4, h10, h11, rfl, by omega, hr2, hok.next _, ?_, hx.trans' hx2 (fun _ h => h) (fun j hj he => by omega)⟩, ?_⟩
      · rw [hg, hcons, rload, if_pos he]
      · show xs.length - ((k : Int) + 1).toNat < _
        rw [h12]; simp [intOf]; omega
  · try simp only [decide_eq_true_eq, decide_eq_false_iff_not, Bool.not_eq_true', Bool.not_eq_false', Bool.and_eq_true, Bool.or_eq_true, Bool.and_eq_false_iff, Bool.or_eq_false_iff] at c13
    refine W.exit ?_
    refine W.seq ?_
    refine W.region ?_
    refine WL.c rfl (o_mvh h4 ?_)
    refine WL.c rfl (o_as ?_)
    refine WL.c rfl (o_as ?_)
    refine WL.nil ?_
    refine W.ret ?_
    refine ret2v rfl (show _ = Value.pointer _ from rfl) (show _ = Value.int _ _ from rfl) ?_
    have : k = xs.length := by omega
    rw [this, List.drop_length] at hg
    rw [hg]
    exact ⟨rfl, fun _ => hr, hx⟩

theorem by_made {w : World} {b n : Nat} {vs : List Value} (xs : List UInt8) (h : w.heap[b]? = some (.cells vs.toArray 5 (0, 0))) (hv : vs = xs.map bv) (hn : xs.length = n) : By w (.slice (some ⟨b, 0, none⟩) n n) xs := by
  subst hn hv
  exact Sl.blk h 0 _ (by simp) (Nat.le_refl _) (fun i v hv => by simpa using hv)
theorem Fresh.by {w0 w : World} {v : Value} {xs : List UInt8} (h : Fresh w0 w v xs) : By w v xs := Sl.own h.1
theorem put_fresh {w0 w : World} {n b : Nat} (hb : w0.heap.size ≤ b) (h : w.heap[b]? = some (.cells ((vput n).map bv).toArray 5 (0, 0))) (hn : n < 2 ^ 64) (hx : Ext w0 w) : Fresh w0 w (.slice (some ⟨b, 0, none⟩) (vsize n) (vsize n)) (vput n) := by
  have h10 := vsize_10 hn
  have hl := vput_len n
  refine ⟨⟨by simp, .inr ⟨b, vsize n, _, by rw [hl], hb, h, by omega, by rw [maxLen_eq]; omega, by simp [hl], ?_⟩⟩, hx⟩
  rw [hl]
  exact List.take_of_length_le (by simp [hl])
theorem RdP.ext {w w' : World} {p : Nat} {bs : List UInt8} {over : Bool} (h : RdP w p bs over) (hx : Ext w w') : RdP w' p bs over := hx.blk h (fun h => h)
theorem own_ge {w0 w1 w : World} {p : Nat} (h : Ext w0 w1) (hp : w0.heap.size ≤ p) (k : Only (fun k => k = p) w1 w) : Ext w0 w := h.trans' k (fun _ h => h) (fun j hj he => by omega)

theorem awake_spec (w0 : World) : Ca Try.prog 8 #[] w0 (fun v w' => v = .bool true ∧ Ext w0 w') := by
  refine Ca.of Try.func8 Try.ntmps8 rfl rfl ?_
  refine W.seq ?_
  refine W.region ?_
  refine WL.c rfl (o_as ?_)
  refine WL.nil ?_
  refine W.seq ?_
  refine W.seq ?_
  refine W.region ?_
  refine WL.c rfl (o_call Try.call14 (lc rfl ln) ((size_spec 300 (by decide) _).mono ?_))
  rintro v16 w16 ⟨rfl, rfl⟩
  refine WL.c rfl (o_ne rfl rfl ?_)
  refine WL.nil ?_
  refine W.condF' rfl (by decide +kernel) ?_
  refine W.skip ?_
  refine W.seq ?_
  refine W.region ?_
  refine WL.c rfl (o_bsn (xs := [(.const (.int .u8 172)), (.const (.int .u8 2)), (.const (.int .u8 255))]) TI32 TI5 rfl (lc (show _ = Value.int _ _ from rfl) (lc (show _ = Value.int _ _ from rfl) (lc (show _ = Value.int _ _ from rfl) ln))) rfl rfl (by decide) (by decide) ?_)
  have hx19 : Ext w16 _ := Only.alloc w16 (.cells #[bv 172, bv 2, bv 255] 5)
  have hb19 := heap_alloc_new w16 (.cells #[bv 172, bv 2, bv 255] 5)
  refine WL.c rfl (o_call Try.call15 (lc rfl ln) ((get_spec [172, 2, 255] _ _ (by_made [172, 2, 255] hb19 rfl rfl) (by decide)).mono ?_))
  rintro v20 w20 ⟨rfl, rfl⟩
  refine WL.c rfl (o_mv ?_)
  refine WL.c rfl (o_ext rfl rfl ?_)
  refine WL.c rfl (o_ext rfl rfl ?_)
  refine WL.c rfl (o_ext rfl rfl ?_)
  refine WL.c rfl (o_as ?_)
  refine WL.c rfl (o_as ?_)
  refine WL.c rfl (o_as ?_)
  refine WL.nil ?_
  refine W.seq ?_
  refine W.region ?_
  generalize hw20 : w16.alloc (.cells #[bv 172, bv 2, bv 255] 5) = w20 at hx19
  refine WL.c rfl (o_bsn (xs := [(.const (.int .u8 128)), (.const (.int .u8 0))]) TI32 TI5 rfl (lc (show _ = Value.int _ _ from rfl) (lc (show _ = Value.int _ _ from rfl) ln)) rfl rfl (by decide) (by decide) ?_)
  have hx25 : Ext w20 _ := Only.alloc w20 (.cells #[bv 128, bv 0] 5)
  have hb25 := heap_alloc_new w20 (.cells #[bv 128, bv 0] 5)
  refine WL.c rfl (o_call Try.call15 (lc rfl ln) ((get_spec [128, 0] _ _ (by_made [128, 0] hb25 rfl rfl) (by decide)).mono ?_))
  rintro v26 w26 ⟨rfl, rfl⟩
  refine WL.c rfl (o_mv ?_)
  refine WL.c rfl (o_ext rfl rfl ?_)
  refine WL.c rfl (o_ext rfl rfl ?_)
  refine WL.c rfl (o_ext rfl rfl ?_)
  refine WL.c rfl (o_as ?_)
  refine WL.c rfl (o_as ?_)
  refine WL.c rfl (o_as ?_)
  refine WL.nil ?_
  refine W.seq ?_
  generalize hw26 : w20.alloc (.cells #[bv 128, bv 0] 5) = w26 at hx25
  refine W.region ?_
  refine WL.c rfl (o_call Try.call9 ln ((new_spec _).mono ?_))
  rintro v30 w30 ⟨rfl, hr30, hx30⟩
  refine WL.c rfl (o_as ?_)
  refine WL.nil ?_
  refine W.seq ?_
  refine W.seq ?_
  refine W.region ?_
  refine WL.c rfl (o_mv ?_)
  refine WL.c rfl (o_eqN TI25 rfl rfl ?_)
  refine WL.nil ?_
  refine W.condF' rfl (rfl) ?_
  refine W.skip ?_
  refine W.seq ?_
  refine W.region ?_
  refine WL.c rfl (o_mv ?_)
  refine WL.c rfl (o_call Try.call21 (lc rfl (lc rfl ln)) ((byte_spec _ 172 _ _ _ hr30 RdOk.new).mono ?_))
  rintro v35 w35 ⟨rfl, hr35, hx35⟩
  refine WL.c rfl (o_mv ?_)
  refine WL.c rfl (o_ext rfl rfl ?_)
  refine WL.c rfl (o_ext rfl rfl ?_)
  refine WL.c rfl (o_as ?_)
  refine WL.c rfl (o_as ?_)
  refine WL.nil ?_
  refine W.seq ?_
  refine W.region ?_
  refine WL.c rfl (o_mv ?_)
  refine WL.c rfl (o_call Try.call21 (lc rfl (lc rfl ln)) ((byte_spec _ 2 _ _ _ hr35 (RdOk.new.next _)).mono ?_))
  rintro v40 w40 ⟨rfl, hr40, hx40⟩
  refine WL.c rfl (o_mv ?_)
  refine WL.c rfl (o_ext rfl rfl ?_)
  refine WL.c rfl (o_ext rfl rfl ?_)
  refine WL.c rfl (o_as ?_)
  refine WL.c rfl (o_as ?_)
  refine WL.nil ?_
  refine W.seq ?_
  refine W.region ?_
  refine WL.c rfl (o_mv ?_)
  refine WL.c rfl (o_call Try.call21 (lc rfl (lc rfl ln)) ((byte_spec _ 0 _ _ _ hr40 ((RdOk.new.next _).next _)).mono ?_))
  rintro v45 w45 ⟨rfl, hr45, hx45⟩
  refine WL.c rfl (o_mv ?_)
  refine WL.c rfl (o_ext rfl rfl ?_)
  refine WL.c rfl (o_ext rfl rfl ?_)
  refine WL.c rfl (o_as ?_)
  refine WL.c rfl (o_as ?_)
  refine WL.nil ?_
  refine W.seq ?_
  refine W.region ?_
  refine WL.c rfl (o_bs1 TI32 TI5 (show _ = Value.int _ _ from rfl) (by decide) (by decide) rfl ?_)
  have hx49 : Ext w45 _ := Only.alloc w45 (.cells #[bv 172] 5)
  have hb49 := heap_alloc_new w45 (.cells #[bv 172] 5)
  refine WL.c rfl (o_call Try.call18 (lc rfl ln) ((load_spec [172] _ _ (by_made [172] hb49 rfl rfl) (by decide)).mono ?_))
  rintro v50 w50 ⟨rfl, hr50, hx50⟩
  refine WL.c rfl (o_mv ?_)
  refine WL.c rfl (o_ext rfl rfl ?_)
  refine WL.c rfl (o_ext rfl rfl ?_)
  refine WL.c rfl (o_as ?_)
  refine WL.c rfl (o_as ?_)
  refine WL.nil ?_
  refine W.seq ?_
  refine W.seq ?_
  refine W.region ?_
  refine WL.c rfl (o_mv ?_)
  refine WL.c rfl (o_eqN (p := some ⟨_, 0, none⟩) TI25 rfl rfl ?_)
  refine WL.c rfl (o_mv ?_)
  refine WL.g rfl (rfl) rfl (o_mv ?_)
  refine WL.g rfl (rfl) rfl (o_call Try.call16 (lc rfl ln) ((num_spec _ _).mono ?_))
  rintro v57 w57 ⟨rfl, rfl⟩
  refine WL.g rfl (rfl) rfl (o_ne rfl rfl ?_)
  refine WL.c rfl (o_pickO rfl rfl ?_)
  refine WL.c rfl (o_mv ?_)
  refine WL.g rfl (by simp only [Option.isNone_some, Bool.false_or]; decide +kernel) rfl (o_mv ?_)
  refine WL.g rfl (by simp only [Option.isNone_some, Bool.false_or]; decide +kernel) rfl (o_call Try.call20 (lc rfl ln) ((n_spec _ _ _ _ (hr50 (by decide +kernel)) (rload_ok _ _ _ RdOk.new)).mono ?_))
  rintro v62 w62 ⟨rfl, m62, rfl⟩
  refine WL.g rfl (by simp only [Option.isNone_some, Bool.false_or]; decide +kernel) rfl (o_ne rfl rfl ?_)
  refine WL.c rfl (o_pickO rfl rfl ?_)
  refine WL.c rfl (o_mv ?_)
  refine WL.g rfl (by simp only [Option.isNone_some, Bool.false_or]; decide +kernel) rfl (o_mv ?_)
  refine WL.g rfl (by simp only [Option.isNone_some, Bool.false_or]; decide +kernel) rfl (o_call Try.call16 (lc rfl ln) ((num_spec _ _).mono ?_))
  rintro v67 w67 ⟨rfl, rfl⟩
  refine WL.g rfl (by simp only [Option.isNone_some, Bool.false_or]; decide +kernel) rfl (o_ne rfl rfl ?_)
  refine WL.c rfl (o_pickO rfl rfl ?_)
  refine WL.c rfl (o_mv ?_)
  refine WL.g rfl (by simp only [Option.isNone_some, Bool.false_or]; decide +kernel) rfl (o_mv ?_)
  refine WL.g rfl (by simp only [Option.isNone_some, Bool.false_or]; decide +kernel) rfl (o_call Try.call16 (lc rfl ln) ((num_spec _ _).mono ?_))
  rintro v72 w72 ⟨rfl, rfl⟩
  refine WL.g rfl (by simp only [Option.isNone_some, Bool.false_or]; decide +kernel) rfl (o_ne rfl rfl ?_)
  refine WL.c rfl (o_pickO rfl rfl ?_)
  refine WL.c rfl (o_mv ?_)
  refine WL.g rfl (by simp only [Option.isNone_some, Bool.false_or]; decide +kernel) rfl (o_mv ?_)
  refine WL.g rfl (by simp only [Option.isNone_some, Bool.false_or]; decide +kernel) rfl (o_call Try.call16 (lc rfl ln) ((num_spec _ _).mono ?_))
  rintro v77 w77 ⟨rfl, rfl⟩
  refine WL.g rfl (by simp only [Option.isNone_some, Bool.false_or]; decide +kernel) rfl (o_ne rfl rfl ?_)
  refine WL.c rfl (o_pickO rfl rfl ?_)
  refine WL.c rfl (o_mv ?_)
  refine WL.g rfl (by simp only [Option.isNone_some, Bool.false_or]; decide +kernel) rfl (o_mv ?_)
  refine WL.g rfl (by simp only [Option.isNone_some, Bool.false_or]; decide +kernel) rfl (o_call Try.call16 (lc rfl ln) ((num_spec _ _).mono ?_))
  rintro v82 w82 ⟨rfl, rfl⟩
  refine WL.g rfl (by simp only [Option.isNone_some, Bool.false_or]; decide +kernel) rfl (o_ne rfl rfl ?_)
  refine WL.c rfl (o_pickO rfl rfl ?_)
  refine WL.c rfl (o_mv ?_)
  refine WL.g rfl (by simp only [Option.isNone_some, Bool.false_or]; decide +kernel) rfl (o_mv ?_)
  refine WL.g rfl (by simp only [Option.isNone_some, Bool.false_or]; decide +kernel) rfl (o_call Try.call16 (lc rfl ln) ((num_spec _ _).mono ?_))
  rintro v87 w87 ⟨rfl, rfl⟩
  refine WL.g rfl (by simp only [Option.isNone_some, Bool.false_or]; decide +kernel) rfl (o_ne rfl rfl ?_)
  refine WL.c rfl (o_pickO rfl rfl ?_)
  refine WL.nil ?_
  refine W.condF' rfl (by simp only [Option.isNone_some, Bool.false_or]; decide +kernel) ?_
  refine W.skip ?_
  refine W.seq ?_
  have hok45 : RdOk _ _ := ((RdOk.new.next 172).next 2).next 0
  have hx62 : Ext w45 _ := (hx49.tr hx50).tr (Only.drewN _ m62)
  have hr62 := hr45.ext hx62
  refine W.region ?_
  refine WL.c rfl (o_mv ?_)
  refine WL.c rfl (o_eq rfl rfl ?_)
  refine WL.c rfl (o_mv ?_)
  refine WL.g rfl (rfl) rfl (o_mv ?_)
  refine WL.g rfl (rfl) rfl (o_eq rfl rfl ?_)
  refine WL.c rfl (o_pickA rfl rfl ?_)
  refine WL.c rfl (o_mv ?_)
  refine WL.g rfl (by decide +kernel) rfl (o_mv ?_)
  refine WL.g rfl (by decide +kernel) rfl (o_eq rfl rfl ?_)
  refine WL.c rfl (o_pickA rfl rfl ?_)
  refine WL.c rfl (o_mv ?_)
  refine WL.g rfl (by decide +kernel) rfl (o_mv ?_)
  refine WL.g rfl (by decide +kernel) rfl (o_not' rfl ?_)
  refine WL.c rfl (o_pickA rfl rfl ?_)
  refine WL.c rfl (o_mv ?_)
  refine WL.g rfl (by decide +kernel) rfl (o_mv ?_)
  refine WL.c rfl (o_pickA rfl rfl ?_)
  refine WL.c rfl (o_mv ?_)
  refine WL.g rfl (by decide +kernel) rfl (o_mv ?_)
  refine WL.g rfl (by decide +kernel) rfl (o_call Try.call20 (lc rfl ln) ((n_spec _ _ _ _ hr62 hok45).mono ?_))
  rintro v109 w109 ⟨rfl, m109, rfl⟩
  have hx109 := hx62.tr (Only.drewN _ m109)
  refine WL.g rfl (by decide +kernel) rfl (o_eq rfl rfl ?_)
  refine WL.c rfl (o_pickA rfl rfl ?_)
  refine WL.c rfl (o_mv ?_)
  refine WL.g rfl (by decide +kernel) rfl (o_mv ?_)
  refine WL.g rfl (by decide +kernel) rfl (o_call Try.call19 (lc rfl ln) ((read_spec _ _ _ _ (hr45.ext hx109) hok45).mono ?_))
  rintro v114 w114 hf114
  have hx114 := hx109.tr hf114.2
  refine WL.g rfl (by decide +kernel) rfl (o_bsn (xs := [(.const (.int .u8 172)), (.const (.int .u8 2))]) TI32 TI5 rfl (lc (show _ = Value.int _ _ from rfl) (lc (show _ = Value.int _ _ from rfl) ln)) rfl rfl (by decide) (by decide) ?_)
  have hx115 : Ext w114 _ := Only.alloc w114 (.cells #[bv 172, bv 2] 5)
  have hb115 := heap_alloc_new w114 (.cells #[bv 172, bv 2] 5)
  refine WL.g rfl (by decide +kernel) rfl (o_call Try.call17 (lc rfl (lc rfl ln)) ((same_spec _ _ _ [172, 2] _ (hf114.by.ext hx115) (by_made [172, 2] hb115 rfl rfl)).mono ?_))
  rintro v116 w116 ⟨rfl, rfl⟩
  have hx116 := hx114.tr hx115
  refine WL.c rfl (o_pickA rfl rfl ?_)
  refine WL.c rfl (o_mv ?_)
  refine WL.g rfl (by decide +kernel) rfl (o_call Try.call13 (lc rfl ln) ((put_spec 300 (by decide) _).mono ?_))
  rintro v119 w119 ⟨b119, hv119, hb119, hh119, hx119⟩
  subst hv119
  have hf119 := put_fresh hb119 hh119 (by decide) hx119
  refine WL.g rfl (by decide +kernel) rfl (o_mv ?_)
  refine WL.g rfl (by decide +kernel) rfl (o_call Try.call19 (lc rfl ln) ((read_spec _ _ _ _ (hr45.ext (hx116.tr hx119)) hok45).mono ?_))
  rintro v121 w121 hf121
  refine WL.g rfl (by decide +kernel) rfl (o_call Try.call17 (lc rfl (lc rfl ln)) ((same_spec _ _ _ _ _ (hf119.by.ext hf121.2) hf121.by).mono ?_))
  rintro v122 w122 ⟨rfl, rfl⟩
  refine WL.c rfl (o_pickA rfl rfl ?_)
  refine WL.c rfl (o_mv ?_)
  refine WL.g rfl (by decide +kernel) rfl (o_call Try.call14 (lc rfl ln) ((size_spec 9223372036854775808 (by decide) _).mono ?_))
  rintro v125 w125 ⟨rfl, rfl⟩
  refine WL.g rfl (by decide +kernel) rfl (o_eq rfl rfl ?_)
  refine WL.c rfl (o_pickA rfl rfl ?_)
  refine WL.c rfl (o_as ?_)
  refine WL.nil ?_
  refine W.ret ?_
  refine ret1v rfl (show _ = Value.bool _ from rfl) ?_
  refine ⟨by congr 1; decide +kernel, ?_⟩
  exact ((((hx19.tr hx25).tr (own_ge hx30 (Nat.le_refl _) ((hx35.trans hx40).trans hx45))).tr hx116).tr hx119).tr hf121.2
end Go.Proofs.Ytieldjpbempkcaa
