/-
  Walks. Written by program out of specs of mine.
-/
import Derived.Test.YtcljkkfpcomdcaaU
import Derived.Test.YtcljkkfpcomdcaaS
set_option linter.unusedSimpArgs false
set_option linter.unusedVariables false
set_option maxRecDepth 100000
namespace Go.Proofs.Ytcljkkfpcomdcaa
open Go Go.Vc Go.RowKit Go.Proofs

theorem r_lenT {P : Program} {e : Env} {w : World} {ty : TypeId} {xs : List UInt8} {x : Operand} {t : TypeId} {s bs : Nat} {z : Value} (ht : Ty P t .string s bs z) (hx : ev e x = st xs) : RV P e (.call ⟨.builtin .len, #[x], #[t]⟩) ty w (.int .i64 (xs.length : Int)) := r_lenS ht hx
/-- definitions whose places rise -/
def RiD (T : List Tk) : Int → List Df → Prop
  | _, [] => True
  | lo, d :: ds => lo ≤ d.at_ ∧ 0 ≤ d.at_ ∧ d.at_ < T.length ∧ (tkA T d.at_.toNat).kind = 1 ∧ (tkA T d.at_.toNat).text = d.name ∧ (∃ hi : Int, hi ≤ T.length ∧ Rise (d.at_ + 1) d.ty hi ∧ RiD T hi ds) ∧ ∀ y ∈ d.ty, NdOk T y
theorem RiD.lo {T : List Tk} {a b : Int} {D : List Df} (h : RiD T b D) (hab : a ≤ b) : RiD T a D := by
  cases D with
  | nil => trivial
  | cons d ds => exact ⟨Int.le_trans hab h.1, h.2⟩
theorem pd_rid {T : List Tk} {i k : Nat} {D : List Df} (h : PD T i k D) : RiD T i D := by
  induction h with
  | nil => trivial
  | @cons i k j N D hk h0 h1 h2 hN h3 hD ih =>
    obtain ⟨q1, q2, q3⟩ := px_rise hN
    obtain ⟨r1, r2⟩ := q3 (.inl ⟨by decide, rfl⟩)
    rw [if_pos (by decide)] at r1
    have hh : (tkA T (i + 1)).kind = 1 := by simp only [nmT, Bool.and_eq_true, decide_eq_true_eq] at h1; exact h1.1
    refine ⟨by show (i : Int) ≤ ((i + 1 : Nat) : Int); omega, by show (0 : Int) ≤ ((i + 1 : Nat) : Int); omega, ?_, hh, rfl, ⟨j, by omega, r1.lo (by show ((i + 1 : Nat) : Int) + 1 ≤ _; omega), ih.lo (by omega)⟩, r2⟩
    have := tkA_kind (by decide) hh
    show ((i + 1 : Nat) : Int) < _
    omega
/-- lengths -/
theorem Rise.len {L : List Ex} : ∀ {a b : Int}, Rise a L b → (L.length : Int) ≤ b - a := by
  induction L with
  | nil => intro a b h; have : a ≤ b := h; simp; omega
  | cons y l ih => intro a b h; have h1 := ih h.2; have h2 := h.1; rw [List.length_cons]; omega
theorem px_lim {T : List Tk} {B : Nat} (hT : ∀ i, (tkA T i).text.length ≤ B) {r : Option (Bool × Nat)} {deep i : Nat} {x : Ex} {N : List Ex} {n j : Nat} (h : PX T r deep i x N n j) : x.name.length ≤ B → x.label.length ≤ B → ∀ y ∈ N, y.name.length ≤ B ∧ y.label.length ≤ B := by
  have ha : ∀ {i x}, (atE i x).name = x.name ∧ (atE i x).label = x.label := fun {i x} => by unfold atE; split <;> exact ⟨rfl, rfl⟩
  have hh : ∀ {u i}, (hdE T u i).name.length ≤ B ∧ (hdE T u i).label.length ≤ B := fun {u i} => by
    cases u
    · exact ⟨Nat.zero_le _, hT i⟩
    · exact ⟨Nat.zero_le _, Nat.zero_le _⟩
  induction h with
  | leaf => intro h1 h2 y hy; rw [List.mem_singleton] at hy; subst hy; exact ⟨by show (atE _ _).name.length ≤ B; rw [ha.1]; exact h1, by show (atE _ _).label.length ≤ B; rw [ha.2]; exact h2⟩
  | nm => intro h1 h2 y hy; rw [List.mem_singleton] at hy; subst hy; exact ⟨hT _, by show (atE _ _).label.length ≤ B; rw [ha.2]; exact h2⟩
  | vec hb hd hl hv h1 hN h2 h3 h4 ih =>
    intro g1 g2 y hy
    rcases List.mem_cons.1 hy with rfl | hy
    · exact ⟨by show (atE _ _).name.length ≤ B; rw [ha.1]; exact g1, by show (atE _ _).label.length ≤ B; rw [ha.2]; exact g2⟩
    · exact ih (Nat.zero_le _) (Nat.zero_le _) y hy
  | opt hb hd hl ho h1 hN h2 ih =>
    intro g1 g2 y hy
    rcases List.mem_cons.1 hy with rfl | hy
    · exact ⟨by show (atE _ _).name.length ≤ B; rw [ha.1]; exact g1, by show (atE _ _).label.length ≤ B; rw [ha.2]; exact g2⟩
    · exact ih (Nat.zero_le _) (Nat.zero_le _) y hy
  | br u hb hd hl hw h1 hM ih =>
    intro g1 g2 y hy
    rcases List.mem_cons.1 hy with rfl | hy
    · exact ⟨by show (atE _ _).name.length ≤ B; rw [ha.1]; exact g1, by show (atE _ _).label.length ≤ B; rw [ha.2]; exact g2⟩
    · exact ih (Nat.zero_le _) (Nat.zero_le _) y hy
  | last hk hd hc hN hm hr ih => intro _ _; exact ih hh.1 hh.2
  | more hk hd hc hN hm hR ih1 ih2 =>
    intro _ _ y hy
    rcases List.mem_append.1 hy with hy | hy
    · exact ih1 hh.1 hh.2 y hy
    · exact ih2 (Nat.zero_le _) (Nat.zero_le _) y hy
theorem pd_lim {T : List Tk} {B : Nat} (hT : ∀ i, (tkA T i).text.length ≤ B) {i k : Nat} {D : List Df} (h : PD T i k D) : ∀ d ∈ D, d.name.length ≤ B ∧ d.ty.length ≤ T.length ∧ ∀ y ∈ d.ty, y.name.length ≤ B ∧ y.label.length ≤ B := by
  induction h with
  | nil => intro d hd; cases hd
  | @cons i k j N D hk h0 h1 h2 hN h3 hD ih =>
    intro d hd
    rcases List.mem_cons.1 hd with rfl | hd
    · obtain ⟨q1, q2, q3⟩ := px_rise hN
      obtain ⟨r1, r2⟩ := q3 (.inl ⟨by decide, rfl⟩)
      rw [if_pos (by decide)] at r1
      have := r1.len
      exact ⟨hT _, by show N.length ≤ _; omega, px_lim hT hN (Nat.zero_le _) (Nat.zero_le _)⟩
    · exact ih d hd
/-- what Parse answers is of a size that a machine can hold -/
theorem parse_ok (xs : List UInt8) : DOk (parseA xs).1 := by
  rcases parse_cases xs with ⟨-, h⟩ | ⟨-, D, hp, h⟩
  · rw [h]
    exact ⟨by decide, fun d hd => (by cases hd), fun d hd => (by cases hd), fun d hd => (by cases hd)⟩
  · have hc := cutA_len xs
    have hT : ∀ i, (tkA (cutA xs).1 i).text.length ≤ 65536 := fun i => by
      by_cases hi : i < (cutA xs).1.length
      · rw [tkA_lt hi]; exact hc.2 _ (List.getElem_mem hi)
      · rw [tkA_ge (by omega)]; exact Nat.zero_le _
    have hl := pd_lim hT hp
    have hn := (pd_chk (cut_small xs) hp).2
    rw [h]
    refine ⟨by rw [List.length_map]; omega, ?_, ?_, ?_⟩
    · intro d hd
      obtain ⟨d0, h0, rfl⟩ := List.mem_map.1 hd
      have := (hl d0 h0).2.1
      show (d0.ty.map _).length * 72 ≤ _
      rw [List.length_map]; omega
    · intro d hd
      obtain ⟨d0, h0, rfl⟩ := List.mem_map.1 hd
      have := (hl d0 h0).1
      show d0.name.length ≤ _
      omega
    · intro d hd x hx
      obtain ⟨d0, h0, rfl⟩ := List.mem_map.1 hd
      obtain ⟨x0, hx0, rfl⟩ := List.mem_map.1 (show x ∈ d0.ty.map _ from hx)
      have := (hl d0 h0).2.2 x0 hx0
      rw [name_pl, label_pl]
      omega
theorem pd_chkS {T : List Tk} (hT : ∀ i, (tkA T i).n ≤ 2147483647) {D : List Df} (h : PD T 0 0 D) : chkS (D.map (plD T)) = (0, 0, 0) := by
  obtain ⟨h1, h2⟩ := pd_chk hT h
  rw [chkS, if_neg (by rw [List.length_map]; omega), h1]
theorem rid_drop {T : List Tk} {lo : Int} {D : List Df} {q : Nat} (hq : q < D.length) (h : RiD T lo (D.drop q)) : lo ≤ D[q].at_ ∧ 0 ≤ D[q].at_ ∧ D[q].at_ < T.length ∧ (tkA T D[q].at_.toNat).kind = 1 ∧ (tkA T D[q].at_.toNat).text = D[q].name ∧ (∃ hi : Int, hi ≤ T.length ∧ Rise (D[q].at_ + 1) D[q].ty hi ∧ RiD T hi (D.drop (q + 1))) ∧ ∀ y ∈ D[q].ty, NdOk T y := by
  rw [← List.getElem_cons_drop hq] at h; exact h
theorem rise_drop {lo hi : Int} {L : List Ex} {q : Nat} (hq : q < L.length) (h : Rise lo (L.drop q) hi) : lo ≤ L[q].at_ ∧ Rise (L[q].at_ + 1) (L.drop (q + 1)) hi := by
  rw [← List.getElem_cons_drop hq] at h; exact h
theorem plE_nat {T : List Tk} {x : Ex} (h : 0 ≤ x.at_) : (plE T x).at_ = ((tkA T x.at_.toNat).at_ : Int) := by unfold plE; rw [if_neg (by omega)]
theorem tok_sub {xs : List UInt8} {t : Tk} (h : TokIn xs t) (hk : t.kind ≠ 2) : t.at_ + t.text.length = t.fin ∧ (xs.take (t.at_ + t.text.length)).drop t.at_ = t.text := by
  have h1 := h.text hk
  have h2 : t.text.length = t.fin - t.at_ := by rw [h1]; exact sub_length h.le
  have h3 := h.lt
  have h4 : t.at_ + t.text.length = t.fin := by omega
  exact ⟨h4, by rw [h4, h1]; rfl⟩

set_option maxHeartbeats 4000000 in
theorem places_walk0 (w0 : World) (xs : List UInt8) (hlen : xs.length ≤ 9223372036854775807) : Ca Try.prog 6 #[st xs] w0 (fun v w' => v = .bool true ∧ Ext w0 w') := by
  have hx : Ext w0 w0 := Only.refl _ _
  have hpl := parse_ok xs
  have hTl := (cutA_len xs).1
  refine Ca.of Try.func6 Try.ntmps6 rfl rfl ?_
  refine W.seq ?_
  refine W.region ?_
  refine WL.c rfl (o_ash (show _ = Value.bool _ from rfl) ?_)
  refine WL.nil ?_
  refine W.seq ?_
  refine W.seq ?_
  refine W.region ?_
  refine WL.c rfl (o_call Try.call11 ln ((first_spec _).mono ?_))
  rintro v15 w15 ⟨rfl, hx15⟩
  replace hx := hx.tr hx15
  refine WL.c rfl (o_not' rfl ?_)
  refine WL.nil ?_
  refine W.condF' rfl (rfl) ?_
  refine W.skip ?_
  refine W.seq ?_
  refine W.region ?_
  refine WL.c rfl (o_mvh (show _ = Value.string _ from rfl) ?_)
  refine WL.c rfl (o_call Try.call19 (lc rfl ln) ((parse_spec xs _ hlen).mono ?_))
  rintro v19 w19 ⟨dv19, V19, rfl, hD19, hxp19⟩
  replace hx := hx.tr hxp19
  refine WL.c rfl (o_mvh (by first | exact (show _ = Value.tuple _ from rfl) | exact rfl) ?_)
  refine WL.c rfl (o_ext rfl rfl ?_)
  refine WL.c rfl (o_ext rfl rfl ?_)
  refine WL.c rfl (o_alB TI28 ?_)
  intro wa hCs hxs hss
  refine WL.c rfl (o_alB TI49 ?_)
  intro wb hCf hxf hsf
  replace hCs := hxf.blk hCs (fun h => h)
  refine WL.u (o_stA TI28 rfl (show _ = Value.agg #[dv19] from rfl) rfl (by simp [own_one hD19.row]) hCs rfl ?_)
  intro wc hB3 hos hsz
  replace hCf := hos.blk hCf (by omega)
  refine WL.u (o_stA TI49 rfl (show _ = Value.agg (faultV (parseA xs).2.1 (parseA xs).2.2) from rfl) rfl rfl hCf rfl ?_)
  intro w4z hB4 hof hsz2
  replace hB3 := hof.blk hB3 (by omega)
  have hxn : Ext w19 w4z := ((hxs.tr hxf).trans' hos (fun _ h => h) (fun k hk he => by omega)).trans' hof (fun _ h => h) (fun k hk he => by omega)
  obtain ⟨b3, hb3⟩ : ∃ b, b = w19.heap.size := ⟨_, rfl⟩
  obtain ⟨b4, hb4⟩ : ∃ b, b = wa.heap.size := ⟨_, rfl⟩
  rw [← hb3] at hB3 ⊢
  rw [← hb4] at hB4 ⊢
  clear hCs hCf hos hof
  replace hx := hx.tr hxn
  replace hD19 := hD19.ext hxn
  clear hxn
  refine WL.nil ?_
  refine W.seq ?_
  refine W.seq ?_
  refine W.region ?_
  refine WL.c rfl (o_fa 0 TI49 rfl TI32 rfl rfl ?_)
  refine WL.c rfl (o_ld TI32 rfl rfl (cell_of hB4 rfl) ?_)
  refine WL.c rfl (o_ne rfl rfl ?_)
  refine WL.nil ?_
  refine W.cond rfl (fun c24 => ?_) (fun c24 => ?_)
  · try simp only [decide_eq_true_eq, decide_eq_false_iff_not, Bool.not_eq_true', Bool.not_eq_false', Bool.and_eq_true, Bool.or_eq_true, Bool.and_eq_false_iff, Bool.or_eq_false_iff] at c24
    have he : ¬ (parseA xs).2.1 = 0 := by omega
    rw [parseA_bad he] at hD19
    refine W.seq ?_
    refine W.region ?_
    refine WL.c rfl (o_fa 0 TI28 rfl TI26 rfl rfl ?_)
    refine WL.c rfl (o_ld TI26 rfl rfl (cell_of hB3 rfl) ?_)
    refine WL.c rfl (o_lenR TI26 rfl hD19.rd.row ?_)
    refine WL.c rfl (o_eq rfl rfl ?_)
    refine WL.c rfl (o_mvh (show _ = Value.bool _ from rfl) ?_)
    refine WL.g rfl (rfl) rfl (o_fa 1 TI49 rfl TI3 rfl rfl ?_)
    refine WL.g rfl (rfl) rfl (o_ld TI3 rfl rfl (cell_of hB4 rfl) ?_)
    refine WL.g rfl (rfl) rfl (o_ge rfl rfl ?_)
    refine WL.c rfl (o_pickA rfl rfl ?_)
    refine WL.c rfl (o_mvh (show _ = Value.bool _ from rfl) ?_)
    refine WL.g rfl (by simp) rfl (o_fa 1 TI49 rfl TI3 rfl rfl ?_)
    refine WL.g rfl (by simp) rfl (o_ld TI3 rfl rfl (cell_of hB4 rfl) ?_)
    refine WL.g rfl (by simp) rfl (o_mvh (show _ = Value.string _ from rfl) ?_)
    refine WL.g rfl (by simp) rfl (o_lenT TI9 rfl ?_)
    refine WL.g rfl (by simp) rfl (o_le rfl rfl ?_)
    refine WL.c rfl (o_pickA rfl rfl ?_)
    refine WL.c rfl (o_ash (show _ = Value.bool _ from rfl) ?_)
    refine WL.nil ?_
    refine W.ret ?_
    refine ret1v rfl (show _ = Value.bool _ from rfl) ?_
    exact ⟨congrArg Value.bool (by have := parseA_le xs; simp; omega), hx⟩
  · try simp only [decide_eq_true_eq, decide_eq_false_iff_not, Bool.not_eq_true', Bool.not_eq_false', Bool.and_eq_true, Bool.or_eq_true, Bool.and_eq_false_iff, Bool.or_eq_false_iff] at c24
    have he : (parseA xs).2.1 = 0 := by omega
    obtain ⟨hc2, D, hpd, hpa⟩ := (parse_cases xs).resolve_left (fun h => h.1 he)
    rw [hpa] at hD19 hB4 hpl
    simp only at hD19 hB4 hpl
    replace hB4 : w4z.heap[b4]? = some (.cells #[.int .i64 0, .int .i64 0] 49 (0, 0)) := hB4
    have hchk := pd_chkS (cut_small xs) hpd
    have hrid := pd_rid hpd
    have hD256 := (pd_chk (cut_small xs) hpd).2
    clear hpa he
    refine W.skip ?_
    refine W.seq ?_
    refine W.region ?_
    refine WL.c rfl (o_ldA TI28 rfl rfl (show Cells _ b3 0 [dv19] from Cells.of hB3 0 _ (by simp)) rfl ?_)
    refine WL.c rfl (o_call Try.call14 (lc rfl ln) ((check_spec (D.map (plD (cutA xs).1)) dv19 V19 _ hD19.rd hpl.lim).mono ?_))
    rw [hchk, tupE]
    rintro v43 w43 ⟨rfl, hx43⟩
    replace hx := hx.tr hx43
    replace hB3 := hx43.blk hB3 (fun h => h)
    replace hB4 := hx43.blk hB4 (fun h => h)
    replace hD19 := hD19.ext hx43
    refine WL.c rfl (o_mvh (by first | exact (show _ = Value.tuple _ from rfl) | exact rfl) ?_)
    refine WL.c rfl (o_ext rfl rfl ?_)
    refine WL.c rfl (o_ext rfl rfl ?_)
    refine WL.c rfl (o_ext rfl rfl ?_)
    refine WL.c rfl (o_ash (show _ = Value.int _ _ from rfl) ?_)
    refine WL.c rfl (o_ash (show _ = Value.int _ _ from rfl) ?_)
    refine WL.c rfl (o_ash (show _ = Value.int _ _ from rfl) ?_)
    refine WL.nil ?_
    refine W.seq ?_
    refine W.region ?_
    refine WL.c rfl (o_mvh (show _ = Value.string _ from rfl) ?_)
    refine WL.c rfl (o_call Try.call21 (lc rfl ln) ((cut_spec xs _ hlen).mono ?_))
    rw [hc2]
    rintro v49 w49 ⟨v49, rfl, hT0, hx49⟩
    replace hx := hx.tr hx49
    replace hB3 := hx49.blk hB3 (fun h => h)
    replace hB4 := hx49.blk hB4 (fun h => h)
    replace hD19 := hD19.ext hx49
    refine WL.c rfl (o_mvh (by first | exact (show _ = Value.tuple _ from rfl) | exact rfl) ?_)
    refine WL.c rfl (o_ext rfl rfl ?_)
    refine WL.c rfl (o_ext rfl rfl ?_)
    refine WL.c rfl (o_alB TI49 ?_)
    intro wa hC9 hx9 hs9
    refine WL.c rfl (o_ash (by first | exact (show _ = Value.slice _ _ _ from rfl) | exact rfl) ?_)
    refine WL.u (o_stA TI49 rfl (show _ = Value.agg #[.int .i64 0, .int .i64 0] from rfl) rfl rfl hC9 rfl ?_)
    intro wb hB9 ho9 hs9b
    have hxn := Ext.own hx9 (Nat.le_refl _) ho9
    obtain ⟨b9, hb9⟩ : ∃ c, c = w49.heap.size := ⟨_, rfl⟩
    rw [← hb9] at hB9 ⊢
    clear hC9 hx9 hs9 ho9 hs9b
    replace hx := hx.tr hxn
    replace hB3 := hxn.blk hB3 (fun h => h)
    replace hB4 := hxn.blk hB4 (fun h => h)
    replace hD19 := hD19.ext hxn
    replace hT0 := own_mono (own_ext hT0 hxn) (Nat.zero_le _)
    refine WL.nil ?_
    refine W.seq ?_
    refine W.seq ?_
    refine W.region ?_
    refine WL.c rfl (o_mvh (show _ = Value.int _ _ from rfl) ?_)
    refine WL.c rfl (o_ne rfl rfl ?_)
    refine WL.c rfl (o_mvh (show _ = Value.bool _ from rfl) ?_)
    refine WL.g rfl (by decide) rfl (o_mvh (show _ = Value.int _ _ from rfl) ?_)
    refine WL.g rfl (by decide) rfl (o_ne rfl rfl ?_)
    refine WL.c rfl (o_pickO rfl rfl ?_)
    refine WL.c rfl (o_mvh (show _ = Value.bool _ from rfl) ?_)
    refine WL.g rfl (by decide) rfl (o_mvh (show _ = Value.int _ _ from rfl) ?_)
    refine WL.g rfl (by decide) rfl (o_ne rfl rfl ?_)
    refine WL.c rfl (o_pickO rfl rfl ?_)
    refine WL.c rfl (o_mvh (show _ = Value.bool _ from rfl) ?_)
    refine WL.g rfl (by decide) rfl (o_ldA TI49 rfl rfl (cells_all hB9) rfl ?_)
    refine WL.g rfl (by decide) rfl (o_bldC (cs := [(.int .i64 0), (.int .i64 0)]) TI49 (Sizes.cons TI32 (Sizes.cons TI3 Sizes.nil)) rfl lnp rfl rfl ?_)
    refine WL.g rfl (by decide) rfl (o_neR TI49 (by kernel_rfl) (by kernel_rfl) rfl rfl (.int TI32 (by decide) rfl rfl (.int TI3 (by decide) rfl rfl .nil)) ?_)
    refine WL.c rfl (o_pickO rfl rfl ?_)
    refine WL.c rfl (o_mvh (show _ = Value.bool _ from rfl) ?_)
    refine WL.g rfl (by decide) rfl (o_fa 1 TI49 rfl TI3 rfl rfl ?_)
    refine WL.g rfl (by decide) rfl (o_ld TI3 rfl rfl (cell_of hB4 rfl) ?_)
    refine WL.g rfl (by decide) rfl (o_ne rfl rfl ?_)
    refine WL.c rfl (o_pickO rfl rfl ?_)
    refine WL.nil ?_
    refine W.condF' rfl (by decide) ?_
    refine W.skip ?_
    refine W.seq ?_
    refine W.region ?_
    refine WL.c rfl (o_ash (show _ = Value.int _ _ from rfl) ?_)
    refine WL.nil ?_
    refine W.seq ?_
    refine W.region ?_
    refine WL.c rfl (o_ash (show _ = Value.int _ _ from rfl) ?_)
    refine WL.nil ?_
    refine W.seq ?_
    refine W.seq ?_
    refine W.region ?_
    refine WL.c rfl (o_ash (show _ = Value.int _ _ from rfl) ?_)
    refine WL.nil ?_
    refine W.block ?_
    refine W.loop (fun e w => ∃ (q kk : Nat) (a lo : Int), q ≤ D.length ∧ e 0 = st xs ∧ e 3 = .pointer (some ⟨b3, 0, none⟩) ∧ e 8 = v49 ∧ e 12 = .int .i64 (q : Int) ∧ w.heap[b3]? = some (.cells #[dv19] 28 (0, 0)) ∧ Defs w w15.heap.size (D.map (plD (cutA xs).1)) (dv19) V19 ∧ w.ownsRow 0 58 5 v49 (cutA xs).1.length (flat (cutA xs).1) ∧ Ext w0 w ∧ e 10 = .int .i64 a ∧ e 11 = .int .i64 (kk : Int) ∧ 0 ≤ lo ∧ (kk : Int) ≤ lo ∧ RiD (cutA xs).1 lo (D.drop q) ∧ (∀ i : Nat, lo ≤ i → i < (cutA xs).1.length → a < (tkA (cutA xs).1 i).at_)) (fun e w => D.length - (intOf (e 12)).toNat) ?_ ?_
    · exact ⟨0, 0, -1, 0, Nat.zero_le _, rfl, rfl, rfl, rfl, hB3, hD19, hT0, hx, rfl, rfl, by decide, by decide, hrid, fun i _ _ => by omega⟩
    rintro e w ⟨q, kk, a, lo, hq, h0, h3, h8, h12, hB3, hD19, hT0, hx, h10, h11, hlo, hkl, hri, hal⟩
    have hm12 := h12
    refine W.seq ?_
    refine W.seq ?_
    refine W.region ?_
    refine WL.c rfl (o_mvh h12 ?_)
    refine WL.c rfl (o_fa 0 TI28 rfl TI26 rfl h3 ?_)
    refine WL.c rfl (o_ld TI26 rfl rfl (cell_of hB3 rfl) ?_)
    refine WL.c rfl (o_lenR TI26 rfl hD19.rd.row ?_)
    refine WL.c rfl (o_lt rfl rfl ?_)
    refine WL.nil ?_
    refine W.cond rfl (fun c76 => ?_) (fun c76 => ?_)
    · try simp only [decide_eq_true_eq, decide_eq_false_iff_not, Bool.not_eq_true', Bool.not_eq_false', Bool.and_eq_true, Bool.or_eq_true, Bool.and_eq_false_iff, Bool.or_eq_false_iff] at c76
      have hq1 : q < D.length := by simp at c76; omega
      obtain ⟨tb, to_, tc, rfl, htc, hty⟩ := hD19.rd.atk (k := q) (by simpa using hq1)
      rw [List.getElem_map] at htc hty
      obtain ⟨r1, r2, r3, r4, r5, ⟨hi, r6, r7, r8⟩, r9⟩ := rid_drop hq1 hri
      obtain ⟨d, hd⟩ : ∃ d, d = D[q] := ⟨_, rfl⟩
      rw [← hd] at htc hty r1 r2 r3 r4 r5 r7 r9
      have hin := cut_in (xs := xs) (i := d.at_.toNat) (by omega)
      obtain ⟨p, hp⟩ : ∃ p, p = (tkA (cutA xs).1 d.at_.toNat).at_ := ⟨_, rfl⟩
      replace htc : Cells w tb (to_ + q * 3) [st d.name, .int .i64 (p : Int), V19 q] := by rw [hp]; exact htc
      replace hty : Sl w 7 (V19 q) d.ty.length (exs (d.ty.map (plE (cutA xs).1))) := by
        have h := hty
        rw [show (plD (cutA xs).1 d).ty = d.ty.map (plE (cutA xs).1) from rfl, List.length_map] at h
        exact h
      obtain ⟨hs1, hs2⟩ := tok_sub hin (by omega)
      rw [r5, ← hp] at hs1 hs2
      have hfl := hin.le
      have hap := hal d.at_.toNat (by omega) (by omega)
      have hdl := r7.len
      rw [← hp] at hap
      refine W.skip ?_
      refine W.seq ?_
      refine W.block ?_
      refine W.seq ?_
      refine W.seq ?_
      refine W.quiet rfl (by kernel_rfl) ?_
      refine WQ.c rfl ((QO.o rfl fun _ => o_fa 0 TI28 rfl TI26 rfl h3 ⟨rfl, rfl⟩)) ?_
      refine WQ.c rfl ((QO.o rfl fun _ => o_ld TI26 rfl rfl (cell_of hB3 rfl) ⟨rfl, rfl⟩)) ?_
      refine WQ.c rfl ((QO.o rfl fun _ => o_mvh h12 ⟨rfl, rfl⟩)) ?_
      refine WQ.c rfl ((QO.o rfl fun _ => o_ixB TI26 TI40 rfl rfl (by simp; omega) ⟨rfl, rfl⟩)) ?_
      refine WQ.c rfl ((QO.o rfl fun _ => o_fa 1 TI40 rfl TI3 rfl rfl ⟨rfl, rfl⟩)) ?_
      refine WQ.c rfl ((QO.o rfl fun _ => o_ld TI3 rfl rfl (htc 1 _ rfl) ⟨rfl, rfl⟩)) ?_
      refine WQ.c rfl ((QO.o rfl fun _ => o_mvh h10 ⟨rfl, rfl⟩)) ?_
      refine WQ.c rfl ((QO.o rfl fun _ => o_le rfl rfl ⟨rfl, rfl⟩)) ?_
      refine WQ.c rfl ((QO.o rfl fun _ => o_mvh (show _ = Value.bool _ from rfl) ⟨rfl, rfl⟩)) ?_
      refine WQ.g rfl (decide_eq_false (by omega)) rfl ((QO.o rfl fun _ => o_fa 0 TI28 rfl TI26 rfl h3 ⟨rfl, rfl⟩)) ?_
      refine WQ.g rfl (decide_eq_false (by omega)) rfl ((QO.o rfl fun _ => o_ld TI26 rfl rfl (cell_of hB3 rfl) ⟨rfl, rfl⟩)) ?_
      refine WQ.g rfl (decide_eq_false (by omega)) rfl ((QO.o rfl fun _ => o_mvh h12 ⟨rfl, rfl⟩)) ?_
      refine WQ.g rfl (decide_eq_false (by omega)) rfl ((QO.o rfl fun _ => o_ixB TI26 TI40 rfl rfl (by simp; omega) ⟨rfl, rfl⟩)) ?_
      refine WQ.g rfl (decide_eq_false (by omega)) rfl ((QO.o rfl fun _ => o_fa 1 TI40 rfl TI3 rfl rfl ⟨rfl, rfl⟩)) ?_
      refine WQ.g rfl (decide_eq_false (by omega)) rfl ((QO.o rfl fun _ => o_ld TI3 rfl rfl (htc 1 _ rfl) ⟨rfl, rfl⟩)) ?_
      refine WQ.g rfl (decide_eq_false (by omega)) rfl ((QO.o rfl fun _ => o_fa 0 TI28 rfl TI26 rfl h3 ⟨rfl, rfl⟩)) ?_
      refine WQ.g rfl (decide_eq_false (by omega)) rfl ((QO.o rfl fun _ => o_ld TI26 rfl rfl (cell_of hB3 rfl) ⟨rfl, rfl⟩)) ?_
      refine WQ.g rfl (decide_eq_false (by omega)) rfl ((QO.o rfl fun _ => o_mvh h12 ⟨rfl, rfl⟩)) ?_
      refine WQ.g rfl (decide_eq_false (by omega)) rfl ((QO.o rfl fun _ => o_ixB TI26 TI40 rfl rfl (by simp; omega) ⟨rfl, rfl⟩)) ?_
      refine WQ.g rfl (decide_eq_false (by omega)) rfl ((QO.o rfl fun _ => o_fa 0 TI40 rfl TI9 rfl rfl ⟨rfl, rfl⟩)) ?_
      refine WQ.g rfl (decide_eq_false (by omega)) rfl ((QO.o rfl fun _ => o_ld TI9 rfl rfl (htc 0 _ rfl) ⟨rfl, rfl⟩)) ?_
      refine WQ.g rfl (decide_eq_false (by omega)) rfl ((QO.r fun _ => r_lenT TI9 rfl)) ?_
      refine WQ.g rfl (decide_eq_false (by omega)) rfl ((QO.o rfl fun _ => o_addi rfl rfl (by omega) ⟨rfl, rfl⟩)) ?_
      refine WQ.g rfl (decide_eq_false (by omega)) rfl ((QO.o rfl fun _ => o_mvh h0 ⟨rfl, rfl⟩)) ?_
      refine WQ.g rfl (decide_eq_false (by omega)) rfl ((QO.r fun _ => r_lenT TI9 rfl)) ?_
      refine WQ.g rfl (decide_eq_false (by omega)) rfl ((QO.o rfl fun _ => o_gt rfl rfl ⟨rfl, rfl⟩)) ?_
      refine WQ.c rfl ((QO.r fun _ => r_pickO rfl rfl)) ?_
      refine WQ.c rfl ((QO.o rfl fun _ => o_mvh (show _ = Value.bool _ from rfl) ⟨rfl, rfl⟩)) ?_
      refine WQ.g rfl (by simp; omega) rfl ((QO.o rfl fun _ => o_mvh h0 ⟨rfl, rfl⟩)) ?_
      refine WQ.g rfl (by simp; omega) rfl ((QO.o rfl fun _ => o_fa 0 TI28 rfl TI26 rfl h3 ⟨rfl, rfl⟩)) ?_
      refine WQ.g rfl (by simp; omega) rfl ((QO.o rfl fun _ => o_ld TI26 rfl rfl (cell_of hB3 rfl) ⟨rfl, rfl⟩)) ?_
      refine WQ.g rfl (by simp; omega) rfl ((QO.o rfl fun _ => o_mvh h12 ⟨rfl, rfl⟩)) ?_
      refine WQ.g rfl (by simp; omega) rfl ((QO.o rfl fun _ => o_ixB TI26 TI40 rfl rfl (by simp; omega) ⟨rfl, rfl⟩)) ?_
      refine WQ.g rfl (by simp; omega) rfl ((QO.o rfl fun _ => o_fa 1 TI40 rfl TI3 rfl rfl ⟨rfl, rfl⟩)) ?_
      refine WQ.g rfl (by simp; omega) rfl ((QO.o rfl fun _ => o_ld TI3 rfl rfl (htc 1 _ rfl) ⟨rfl, rfl⟩)) ?_
      refine WQ.g rfl (by simp; omega) rfl ((QO.o rfl fun _ => o_fa 0 TI28 rfl TI26 rfl h3 ⟨rfl, rfl⟩)) ?_
      refine WQ.g rfl (by simp; omega) rfl ((QO.o rfl fun _ => o_ld TI26 rfl rfl (cell_of hB3 rfl) ⟨rfl, rfl⟩)) ?_
      refine WQ.g rfl (by simp; omega) rfl ((QO.o rfl fun _ => o_mvh h12 ⟨rfl, rfl⟩)) ?_
      refine WQ.g rfl (by simp; omega) rfl ((QO.o rfl fun _ => o_ixB TI26 TI40 rfl rfl (by simp; omega) ⟨rfl, rfl⟩)) ?_
      refine WQ.g rfl (by simp; omega) rfl ((QO.o rfl fun _ => o_fa 1 TI40 rfl TI3 rfl rfl ⟨rfl, rfl⟩)) ?_
      refine WQ.g rfl (by simp; omega) rfl ((QO.o rfl fun _ => o_ld TI3 rfl rfl (htc 1 _ rfl) ⟨rfl, rfl⟩)) ?_
      refine WQ.g rfl (by simp; omega) rfl ((QO.o rfl fun _ => o_fa 0 TI28 rfl TI26 rfl h3 ⟨rfl, rfl⟩)) ?_
      refine WQ.g rfl (by simp; omega) rfl ((QO.o rfl fun _ => o_ld TI26 rfl rfl (cell_of hB3 rfl) ⟨rfl, rfl⟩)) ?_
      refine WQ.g rfl (by simp; omega) rfl ((QO.o rfl fun _ => o_mvh h12 ⟨rfl, rfl⟩)) ?_
      refine WQ.g rfl (by simp; omega) rfl ((QO.o rfl fun _ => o_ixB TI26 TI40 rfl rfl (by simp; omega) ⟨rfl, rfl⟩)) ?_
      refine WQ.g rfl (by simp; omega) rfl ((QO.o rfl fun _ => o_fa 0 TI40 rfl TI9 rfl rfl ⟨rfl, rfl⟩)) ?_
      refine WQ.g rfl (by simp; omega) rfl ((QO.o rfl fun _ => o_ld TI9 rfl rfl (htc 0 _ rfl) ⟨rfl, rfl⟩)) ?_
      refine WQ.g rfl (by simp; omega) rfl ((QO.r fun _ => r_lenT TI9 rfl)) ?_
      refine WQ.g rfl (by simp; omega) rfl ((QO.o rfl fun _ => o_addi rfl rfl (by omega) ⟨rfl, rfl⟩)) ?_
      refine WQ.g rfl (by simp; omega) rfl ((QO.o rfl fun _ => o_ssT (xs := xs) (l := p) (h := p + d.name.length) TI9 rfl (Lo.s rfl) (Hi.s rfl) (by omega) (by omega) ⟨rfl, rfl⟩)) ?_
      refine WQ.g rfl (by simp; omega) rfl ((QO.o rfl fun _ => o_fa 0 TI28 rfl TI26 rfl h3 ⟨rfl, rfl⟩)) ?_
      refine WQ.g rfl (by simp; omega) rfl ((QO.o rfl fun _ => o_ld TI26 rfl rfl (cell_of hB3 rfl) ⟨rfl, rfl⟩)) ?_
      refine WQ.g rfl (by simp; omega) rfl ((QO.o rfl fun _ => o_mvh h12 ⟨rfl, rfl⟩)) ?_
      refine WQ.g rfl (by simp; omega) rfl ((QO.o rfl fun _ => o_ixB TI26 TI40 rfl rfl (by simp; omega) ⟨rfl, rfl⟩)) ?_
      refine WQ.g rfl (by simp; omega) rfl ((QO.o rfl fun _ => o_fa 0 TI40 rfl TI9 rfl rfl ⟨rfl, rfl⟩)) ?_
      refine WQ.g rfl (by simp; omega) rfl ((QO.o rfl fun _ => o_ld TI9 rfl rfl (htc 0 _ rfl) ⟨rfl, rfl⟩)) ?_
      refine WQ.g rfl (by simp; omega) rfl ((QO.o rfl fun _ => o_neT rfl rfl ⟨rfl, rfl⟩)) ?_
      refine WQ.c rfl ((QO.r fun _ => r_pickO rfl rfl)) ?_
      refine WQ.nil ?_
      intro nq
      have hxq := Only.drewN w nq
      replace hx := hx.tr hxq
      replace hB3 := hxq.blk hB3 (fun h => h)
      replace hD19 := hD19.ext hxq
      replace hT0 := own_ext hT0 hxq
      replace hty := hty.ext hxq
      replace htc := Cells.only htc hxq (fun h => h)
      clear hxq
      generalize w.drewN nq = wq at *
      refine W.condF' rfl (by simp [hs2]; omega) ?_
      refine W.skip ?_
      refine W.seq ?_
      refine W.region ?_
      refine WL.c rfl (o_fa 0 TI28 rfl TI26 rfl h3 ?_)
      refine WL.c rfl (o_ld TI26 rfl rfl (cell_of hB3 rfl) ?_)
      refine WL.c rfl (o_mvh h12 ?_)
      refine WL.c rfl (o_ixB TI26 TI40 rfl rfl (by simp; omega) ?_)
      refine WL.c rfl (o_fa 1 TI40 rfl TI3 rfl rfl ?_)
      refine WL.c rfl (o_ld TI3 rfl rfl (htc 1 _ rfl) ?_)
      refine WL.c rfl (o_ash (show _ = Value.int _ _ from rfl) ?_)
      refine WL.nil ?_
      refine W.seq ?_
      refine W.region ?_
      refine WL.c rfl (o_ash (show _ = Value.int _ _ from rfl) ?_)
      refine WL.nil ?_
      refine W.block ?_
      refine W.loop (fun e w => ∃ (j kk : Nat) (a2 lo2 : Int), j ≤ d.ty.length ∧ e 0 = st xs ∧ e 3 = .pointer (some ⟨b3, 0, none⟩) ∧ e 8 = v49 ∧ e 12 = .int .i64 (q : Int) ∧ w.heap[b3]? = some (.cells #[Value.slice (some ⟨tb, to_, none⟩) (D.map (plD (cutA xs).1)).length tc] 28 (0, 0)) ∧ Defs w w15.heap.size (D.map (plD (cutA xs).1)) (Value.slice (some ⟨tb, to_, none⟩) (D.map (plD (cutA xs).1)).length tc) V19 ∧ w.ownsRow 0 58 5 v49 (cutA xs).1.length (flat (cutA xs).1) ∧ Ext w0 w ∧ e 13 = .int .i64 (j : Int) ∧ e 10 = .int .i64 a2 ∧ e 11 = .int .i64 (kk : Int) ∧ 0 ≤ lo2 ∧ (kk : Int) ≤ lo2 ∧ Rise lo2 (d.ty.drop j) hi ∧ (∀ i : Nat, lo2 ≤ i → i < (cutA xs).1.length → a2 < (tkA (cutA xs).1 i).at_)) (fun e w => d.ty.length - (intOf (e 13)).toNat) ?_ ?_
      · refine ⟨0, kk, p, d.at_ + 1, Nat.zero_le _, h0, h3, h8, h12, hB3, hD19, hT0, hx, rfl, rfl, h11, by omega, by omega, r7, fun i g1 g2 => ?_⟩
        rw [hp]; exact Int.ofNat_lt.2 (cut_lt (by omega) g2).2
      rintro e w ⟨j, kk, a2, lo2, hj, h0, h3, h8, h12, hB3, hD19, hT0, hx, h13, h10, h11, hlo2, hkl2, hris, hal⟩
      have hm13 := h13
      obtain ⟨_, _, _, hvv, htc, hty⟩ := hD19.rd.atk (k := q) (by simpa using hq1)
      cases hvv
      rw [List.getElem_map, ← hd] at htc hty
      replace htc : Cells w tb (to_ + q * 3) [st d.name, .int .i64 (p : Int), V19 q] := by rw [hp]; exact htc
      have hln : (d.ty.map (plE (cutA xs).1)).length = d.ty.length := List.length_map ..
      replace hty : Sl w 7 (V19 q) (d.ty.map (plE (cutA xs).1)).length (exs (d.ty.map (plE (cutA xs).1))) := hty
      refine W.seq ?_
      refine W.seq ?_
      refine W.region ?_
      refine WL.c rfl (o_mvh h13 ?_)
      refine WL.c rfl (o_fa 0 TI28 rfl TI26 rfl h3 ?_)
      refine WL.c rfl (o_ld TI26 rfl rfl (cell_of hB3 rfl) ?_)
      refine WL.c rfl (o_mvh h12 ?_)
      refine WL.c rfl (o_ixB TI26 TI40 rfl rfl (by simp; omega) ?_)
      refine WL.c rfl (o_fa 2 TI40 rfl TI38 rfl rfl ?_)
      refine WL.c rfl (o_ld TI38 rfl rfl (htc 2 _ rfl) ?_)
      refine WL.c rfl (o_lenR TI38 rfl hty ?_)
      refine WL.c rfl (o_lt rfl rfl ?_)
      refine WL.nil ?_
      refine W.cond rfl (fun c151 => ?_) (fun c151 => ?_)
      · try simp only [decide_eq_true_eq, decide_eq_false_iff_not, Bool.not_eq_true', Bool.not_eq_false', Bool.and_eq_true, Bool.or_eq_true, Bool.and_eq_false_iff, Bool.or_eq_false_iff] at c151
        have hj1 : j < d.ty.length := by omega
        have hj2 : j < (d.ty.map (plE (cutA xs).1)).length := by omega
        obtain ⟨ub, uo, uc, hV, huc⟩ := Sl.exq hty hj2
        rw [List.getElem_map] at huc
        obtain ⟨y, hy⟩ : ∃ y, y = d.ty[j] := ⟨_, rfl⟩
        rw [← hy] at huc
        have hnd := r9 y (hy ▸ List.getElem_mem hj1)
        obtain ⟨rx, ry⟩ := rise_drop hj1 hris
        rw [← hy] at rx ry
        obtain ⟨n1, n2, n3⟩ := hnd
        have hyi : y.at_ + 1 ≤ hi := ry.ge
        have hpn := plE_nat (T := (cutA xs).1) n1
        have hyin := cut_in (xs := xs) (i := y.at_.toNat) (by omega)
        obtain ⟨py, hpy⟩ : ∃ p, p = (tkA (cutA xs).1 y.at_.toNat).at_ := ⟨_, rfl⟩
        rw [← hpy] at hpn
        have hay := hal y.at_.toNat (by omega) (by omega)
        rw [← hpy] at hay
        have hpl2 := hyin.lt
        have hpl3 := hyin.le
        rw [← hpy] at hpl2
        obtain ⟨X, hX⟩ : ∃ X, X = plE (cutA xs).1 y := ⟨_, rfl⟩
        rw [← hX] at huc hpn
        have hXl : X.label = y.label := by rw [hX]; exact label_pl
        have hXk : X.kind = y.kind := by rw [hX]; exact kind_pl
        have hXn : X.name = y.name := by rw [hX]; exact name_pl
        refine W.skip ?_
        refine W.seq ?_
        refine W.block ?_
        refine W.seq ?_
        refine W.region ?_
        refine WL.c rfl (o_fa 0 TI28 rfl TI26 rfl h3 ?_)
        refine WL.c rfl (o_ld TI26 rfl rfl (cell_of hB3 rfl) ?_)
        refine WL.c rfl (o_mvh h12 ?_)
        refine WL.c rfl (o_ixB TI26 TI40 rfl rfl (by simp; omega) ?_)
        refine WL.c rfl (o_fa 2 TI40 rfl TI38 rfl rfl ?_)
        refine WL.c rfl (o_ld TI38 rfl rfl (htc 2 _ rfl) ?_)
        refine WL.c rfl (o_mvh h13 ?_)
        refine WL.c rfl (o_ixB (i := j) TI38 TI30 (show _ = _ from hV) rfl (by omega) ?_)
        refine WL.c rfl (o_ldA TI30 rfl rfl huc rfl ?_)
        refine WL.c rfl (o_alB TI30 ?_)
        intro wa hCa hxa hsa
        refine WL.u (o_stA TI30 rfl (show _ = Value.agg (exV X).toArray from rfl) rfl rfl hCa rfl ?_)
        intro wb hC14 hob hsb
        have hxb := Ext.own hxa (Nat.le_refl _) hob
        obtain ⟨c14, hc14⟩ : ∃ c, c = w.heap.size := ⟨_, rfl⟩
        rw [← hc14] at hC14 ⊢
        clear hCa hxa hsa hob hsb huc htc hty
        replace hx := hx.tr hxb
        replace hB3 := hxb.blk hB3 (fun h => h)
        replace hD19 := hD19.ext hxb
        replace hT0 := own_ext hT0 hxb
        refine WL.nil ?_
        refine W.seq ?_
        refine W.seq ?_
        refine W.region ?_
        refine WL.c rfl (o_fa 6 TI30 rfl TI3 rfl rfl ?_)
        refine WL.c rfl (o_ld TI3 rfl rfl (show _ = some (.int .i64 (py : Int)) from hpn ▸ cell_of hC14 rfl) ?_)
        refine WL.c rfl (o_mvh h10 ?_)
        refine WL.c rfl (o_le rfl rfl ?_)
        refine WL.c rfl (o_mvh (show _ = Value.bool _ from rfl) ?_)
        refine WL.g rfl (decide_eq_false (by omega)) rfl (o_fa 6 TI30 rfl TI3 rfl rfl ?_)
        refine WL.g rfl (decide_eq_false (by omega)) rfl (o_ld TI3 rfl rfl (show _ = some (.int .i64 (py : Int)) from hpn ▸ cell_of hC14 rfl) ?_)
        refine WL.g rfl (decide_eq_false (by omega)) rfl (o_mvh h0 ?_)
        refine WL.g rfl (decide_eq_false (by omega)) rfl (o_lenT TI9 rfl ?_)
        refine WL.g rfl (decide_eq_false (by omega)) rfl (o_ge rfl rfl ?_)
        refine WL.c rfl (o_pickO rfl rfl ?_)
        refine WL.nil ?_
        refine W.condF' rfl (by simp; omega) ?_
        refine W.skip ?_
        refine W.seq ?_
        refine W.region ?_
        refine WL.c rfl (o_fa 6 TI30 rfl TI3 rfl rfl ?_)
        refine WL.c rfl (o_ld TI3 rfl rfl (show _ = some (.int .i64 (py : Int)) from hpn ▸ cell_of hC14 rfl) ?_)
        refine WL.c rfl (o_ash (show _ = Value.int _ _ from rfl) ?_)
        refine WL.nil ?_
        refine W.seq ?_
        refine W.block ?_
        refine W.loop (fun e w => ∃ kk : Nat, (kk : Int) ≤ y.at_ ∧ e 0 = st xs ∧ e 3 = .pointer (some ⟨b3, 0, none⟩) ∧ e 8 = v49 ∧ e 12 = .int .i64 (q : Int) ∧ w.heap[b3]? = some (.cells #[Value.slice (some ⟨tb, to_, none⟩) (D.map (plD (cutA xs).1)).length tc] 28 (0, 0)) ∧ Defs w w15.heap.size (D.map (plD (cutA xs).1)) (Value.slice (some ⟨tb, to_, none⟩) (D.map (plD (cutA xs).1)).length tc) V19 ∧ w.ownsRow 0 58 5 v49 (cutA xs).1.length (flat (cutA xs).1) ∧ Ext w0 w ∧ e 13 = .int .i64 (j : Int) ∧ e 10 = .int .i64 (py : Int) ∧ e 11 = .int .i64 (kk : Int) ∧ e 14 = .pointer (some ⟨c14, 0, none⟩) ∧ w.heap[c14]? = some (.cells (exV X).toArray 30 (0, 0))) (fun e w => y.at_.toNat - (intOf (e 11)).toNat) ?_ ?_
        · exact ⟨kk, by omega, h0, h3, h8, h12, hB3, hD19, hT0, hx, h13, rfl, h11, rfl, hC14⟩
        rintro e w ⟨kk, hky, h0, h3, h8, h12, hB3, hD19, hT0, hx, h13, h10, h11, h14, hC14⟩
        have hm11 := h11
        obtain ⟨gt, capt, hv49, -⟩ := own_some hT0 (by omega)
        have hkl3 : kk < (cutA xs).1.length := by omega
        have htk : Cells w gt (0 + kk * 5) (tokV (tkA (cutA xs).1 kk)).toList := by
          obtain ⟨_, _, _, hv, hc⟩ := Sl.tok (Sl.own hT0) hkl3
          rw [hv49] at hv; cases hv; exact hc
        rw [hv49] at h8
        refine W.seq ?_
        refine W.seq ?_
        refine W.region ?_
        refine WL.c rfl (o_mvh h11 ?_)
        refine WL.c rfl (o_mvh h8 ?_)
        refine WL.c rfl (o_lenR TI54 rfl (hv49 ▸ Sl.own hT0) ?_)
        refine WL.c rfl (o_lt rfl rfl ?_)
        refine WL.c rfl (o_mvh (show _ = Value.bool _ from rfl) ?_)
        refine WL.g rfl (decide_eq_true (by omega)) rfl (o_mvh h8 ?_)
        refine WL.g rfl (decide_eq_true (by omega)) rfl (o_mvh h11 ?_)
        refine WL.g rfl (decide_eq_true (by omega)) rfl (o_ixB TI54 TI58 rfl rfl (by omega) ?_)
        refine WL.g rfl (decide_eq_true (by omega)) rfl (o_fa 3 TI58 rfl TI3 rfl rfl ?_)
        refine WL.g rfl (decide_eq_true (by omega)) rfl (o_ld TI3 rfl rfl (htk 3 _ rfl) ?_)
        refine WL.g rfl (decide_eq_true (by omega)) rfl (o_mvh h10 ?_)
        refine WL.g rfl (decide_eq_true (by omega)) rfl (o_lt rfl rfl ?_)
        refine WL.c rfl (o_pickA rfl rfl ?_)
        refine WL.nil ?_
        refine W.cond rfl (fun c188 => ?_) (fun c188 => ?_)
        · try simp only [decide_eq_true_eq, decide_eq_false_iff_not, Bool.not_eq_true', Bool.not_eq_false', Bool.and_eq_true, Bool.or_eq_true, Bool.and_eq_false_iff, Bool.or_eq_false_iff] at c188
          have hlt : kk < y.at_.toNat := by
            rcases Nat.lt_or_ge kk y.at_.toNat with h | h
            · exact h
            · have : kk = y.at_.toNat := by omega
              rw [this, ← hpy] at c188; omega
          refine W.skip ?_
          refine W.block ?_
          refine W.region ?_
          refine WL.c rfl (o_mvh h11 ?_)
          refine WL.c rfl (o_addi rfl rfl (by omega) ?_)
          refine WL.c rfl (o_ash (show _ = Value.int _ _ from rfl) ?_)
          refine WL.nil ?_
          refine ⟨⟨kk + 1, by omega, h0, h3, by rw [hv49]; exact h8, h12, hB3, hD19, hT0, hx, h13, h10, rfl, h14, hC14⟩, ?_⟩
          show y.at_.toNat - ((kk : Int) + 1).toNat < _
          rw [hm11]; simp [intOf]; omega
        · try simp only [decide_eq_true_eq, decide_eq_false_iff_not, Bool.not_eq_true', Bool.not_eq_false', Bool.and_eq_true, Bool.or_eq_true, Bool.and_eq_false_iff, Bool.or_eq_false_iff] at c188
          have hkk : kk = y.at_.toNat := by
            rcases Nat.lt_or_ge kk y.at_.toNat with h | h
            · have h2 := (cut_lt (xs := xs) h (by omega)).2
              rw [← hpy] at h2
              have h3 : (cutA xs).1.length ≤ kk ∨ py ≤ (tkA (cutA xs).1 kk).at_ := by simpa using c188
              omega
            · omega
          have htk2 : Cells w gt (0 + kk * 5) [.int .i64 ((tkA (cutA xs).1 kk).kind : Int), st (tkA (cutA xs).1 kk).text, .int .i64 ((tkA (cutA xs).1 kk).n : Int), .int .i64 (py : Int), .int .i64 ((tkA (cutA xs).1 kk).fin : Int)] := by rw [hpy, ← hkk]; exact htk
          rw [← hkk] at n2 n3
          have hkne : ¬ (kk : Int) = ((cutA xs).1.length : Int) := by omega
          refine W.exit ?_
          refine W.seq ?_
          rcases Classical.em (y.label = []) with hl | hl
          rcases Classical.em (y.kind = 9) with hk9 | hk9
          rcases Classical.em ((tkA (cutA xs).1 kk).kind = 1) with hk1 | hk1
          · skip
            skip
            refine W.quiet rfl (by kernel_rfl) ?_
            refine WQ.c rfl ((QO.o rfl fun _ => o_mvh h11 ⟨rfl, rfl⟩)) ?_
            refine WQ.c rfl ((QO.o rfl fun _ => o_mvh h8 ⟨rfl, rfl⟩)) ?_
            refine WQ.c rfl ((QO.r fun _ => r_lenR TI54 rfl (hv49 ▸ Sl.own hT0))) ?_
            refine WQ.c rfl ((QO.o rfl fun _ => o_eq rfl rfl ⟨rfl, rfl⟩)) ?_
            refine WQ.c rfl ((QO.o rfl fun _ => o_mvh (show _ = Value.bool _ from rfl) ⟨rfl, rfl⟩)) ?_
            refine WQ.g rfl (decide_eq_false (by omega)) rfl ((QO.o rfl fun _ => o_mvh h8 ⟨rfl, rfl⟩)) ?_
            refine WQ.g rfl (decide_eq_false (by omega)) rfl ((QO.o rfl fun _ => o_mvh h11 ⟨rfl, rfl⟩)) ?_
            refine WQ.g rfl (decide_eq_false (by omega)) rfl ((QO.o rfl fun _ => o_ixB TI54 TI58 rfl rfl (by omega) ⟨rfl, rfl⟩)) ?_
            refine WQ.g rfl (decide_eq_false (by omega)) rfl ((QO.o rfl fun _ => o_fa 3 TI58 rfl TI3 rfl rfl ⟨rfl, rfl⟩)) ?_
            refine WQ.g rfl (decide_eq_false (by omega)) rfl ((QO.o rfl fun _ => o_ld TI3 rfl rfl (htk2 3 _ rfl) ⟨rfl, rfl⟩)) ?_
            refine WQ.g rfl (decide_eq_false (by omega)) rfl ((QO.o rfl fun _ => o_mvh h10 ⟨rfl, rfl⟩)) ?_
            refine WQ.g rfl (decide_eq_false (by omega)) rfl ((QO.o rfl fun _ => o_ne rfl rfl ⟨rfl, rfl⟩)) ?_
            refine WQ.c rfl ((QO.r fun _ => r_pickO rfl rfl)) ?_
            refine WQ.c rfl ((QO.o rfl fun _ => o_mvh (show _ = Value.bool _ from rfl) ⟨rfl, rfl⟩)) ?_
            refine WQ.g rfl (by simp [hkne]) rfl ((QO.o rfl fun _ => o_fa 3 TI30 rfl TI9 rfl h14 ⟨rfl, rfl⟩)) ?_
            refine WQ.g rfl (by simp [hkne]) rfl ((QO.o rfl fun _ => o_ld TI9 rfl rfl (cell_of hC14 rfl) ⟨rfl, rfl⟩)) ?_
            refine WQ.g rfl (by simp [hkne]) rfl ((QO.o rfl fun _ => o_neT rfl rfl ⟨rfl, rfl⟩)) ?_
            refine WQ.g rfl (by simp [hkne]) rfl ((QO.o rfl fun _ => o_mvh (show _ = Value.bool _ from rfl) ⟨rfl, rfl⟩)) ?_
            refine WQ.s rfl (by simp [hkne, hXl, hl]) rfl ?_
            refine WQ.s rfl (by simp [hkne, hXl, hl]) rfl ?_
            refine WQ.s rfl (by simp [hkne, hXl, hl]) rfl ?_
            refine WQ.s rfl (by simp [hkne, hXl, hl]) rfl ?_
            refine WQ.s rfl (by simp [hkne, hXl, hl]) rfl ?_
            refine WQ.s rfl (by simp [hkne, hXl, hl]) rfl ?_
            refine WQ.s rfl (by simp [hkne, hXl, hl]) rfl ?_
            refine WQ.s rfl (by simp [hkne, hXl, hl]) rfl ?_
            refine WQ.g rfl (by simp [hkne]) rfl ((QO.r fun _ => r_pickF rfl (by simp [hkne, hXl, hl]))) ?_
            refine WQ.c rfl ((QO.r fun _ => r_pickO rfl rfl)) ?_
            refine WQ.c rfl ((QO.o rfl fun _ => o_mvh (show _ = Value.bool _ from rfl) ⟨rfl, rfl⟩)) ?_
            refine WQ.g rfl (by simp [hkne, hXl, hl]) rfl ((QO.o rfl fun _ => o_fa 3 TI30 rfl TI9 rfl h14 ⟨rfl, rfl⟩)) ?_
            refine WQ.g rfl (by simp [hkne, hXl, hl]) rfl ((QO.o rfl fun _ => o_ld TI9 rfl rfl (cell_of hC14 rfl) ⟨rfl, rfl⟩)) ?_
            refine WQ.g rfl (by simp [hkne, hXl, hl]) rfl ((QO.o rfl fun _ => o_eqT rfl rfl ⟨rfl, rfl⟩)) ?_
            refine WQ.g rfl (by simp [hkne, hXl, hl]) rfl ((QO.o rfl fun _ => o_mvh (show _ = Value.bool _ from rfl) ⟨rfl, rfl⟩)) ?_
            refine WQ.g rfl (by simp [hkne, hXl, hl]) rfl ((QO.o rfl fun _ => o_fa 0 TI30 rfl TI3 rfl h14 ⟨rfl, rfl⟩)) ?_
            refine WQ.g rfl (by simp [hkne, hXl, hl]) rfl ((QO.o rfl fun _ => o_ld TI3 rfl rfl (cell_of hC14 rfl) ⟨rfl, rfl⟩)) ?_
            refine WQ.g rfl (by simp [hkne, hXl, hl]) rfl ((QO.o rfl fun _ => o_eq rfl rfl ⟨rfl, rfl⟩)) ?_
            refine WQ.g rfl (by simp [hkne, hXl, hl]) rfl ((QO.r fun _ => r_pickA rfl rfl)) ?_
            refine WQ.g rfl (by simp [hkne, hXl, hl]) rfl ((QO.o rfl fun _ => o_mvh (show _ = Value.bool _ from rfl) ⟨rfl, rfl⟩)) ?_
            refine WQ.g rfl (by simp [hkne, hXl, hl, hXk, hk9]) rfl ((QO.o rfl fun _ => o_mvh h8 ⟨rfl, rfl⟩)) ?_
            refine WQ.g rfl (by simp [hkne, hXl, hl, hXk, hk9]) rfl ((QO.o rfl fun _ => o_mvh h11 ⟨rfl, rfl⟩)) ?_
            refine WQ.g rfl (by simp [hkne, hXl, hl, hXk, hk9]) rfl ((QO.o rfl fun _ => o_ixB TI54 TI58 rfl rfl (by omega) ⟨rfl, rfl⟩)) ?_
            refine WQ.g rfl (by simp [hkne, hXl, hl, hXk, hk9]) rfl ((QO.o rfl fun _ => o_fa 0 TI58 rfl TI3 rfl rfl ⟨rfl, rfl⟩)) ?_
            refine WQ.g rfl (by simp [hkne, hXl, hl, hXk, hk9]) rfl ((QO.o rfl fun _ => o_ld TI3 rfl rfl (htk2 0 _ rfl) ⟨rfl, rfl⟩)) ?_
            refine WQ.g rfl (by simp [hkne, hXl, hl, hXk, hk9]) rfl ((QO.o rfl fun _ => o_eq rfl rfl ⟨rfl, rfl⟩)) ?_
            refine WQ.g rfl (by simp [hkne, hXl, hl]) rfl ((QO.r fun _ => r_pickA rfl rfl)) ?_
            refine WQ.g rfl (by simp [hkne, hXl, hl]) rfl ((QO.o rfl fun _ => o_mvh (show _ = Value.bool _ from rfl) ⟨rfl, rfl⟩)) ?_
            refine WQ.g rfl (by simp [hkne, hXl, hl, hXk, hk9, hk1]) rfl ((QO.o rfl fun _ => o_mvh h8 ⟨rfl, rfl⟩)) ?_
            refine WQ.g rfl (by simp [hkne, hXl, hl, hXk, hk9, hk1]) rfl ((QO.o rfl fun _ => o_mvh h11 ⟨rfl, rfl⟩)) ?_
            refine WQ.g rfl (by simp [hkne, hXl, hl, hXk, hk9, hk1]) rfl ((QO.o rfl fun _ => o_ixB TI54 TI58 rfl rfl (by omega) ⟨rfl, rfl⟩)) ?_
            refine WQ.g rfl (by simp [hkne, hXl, hl, hXk, hk9, hk1]) rfl ((QO.o rfl fun _ => o_fa 1 TI58 rfl TI9 rfl rfl ⟨rfl, rfl⟩)) ?_
            refine WQ.g rfl (by simp [hkne, hXl, hl, hXk, hk9, hk1]) rfl ((QO.o rfl fun _ => o_ld TI9 rfl rfl (htk2 1 _ rfl) ⟨rfl, rfl⟩)) ?_
            refine WQ.g rfl (by simp [hkne, hXl, hl, hXk, hk9, hk1]) rfl ((QO.o rfl fun _ => o_fa 2 TI30 rfl TI9 rfl h14 ⟨rfl, rfl⟩)) ?_
            refine WQ.g rfl (by simp [hkne, hXl, hl, hXk, hk9, hk1]) rfl ((QO.o rfl fun _ => o_ld TI9 rfl rfl (cell_of hC14 rfl) ⟨rfl, rfl⟩)) ?_
            refine WQ.g rfl (by simp [hkne, hXl, hl, hXk, hk9, hk1]) rfl ((QO.o rfl fun _ => o_neT rfl rfl ⟨rfl, rfl⟩)) ?_
            refine WQ.g rfl (by simp [hkne, hXl, hl]) rfl ((QO.r fun _ => r_pickA rfl rfl)) ?_
            refine WQ.c rfl ((QO.r fun _ => r_pickO rfl rfl)) ?_
            refine WQ.nil ?_
            intro nq
            have hxq := Only.drewN w nq
            replace hx := hx.tr hxq
            replace hB3 := hxq.blk hB3 (fun h => h)
            replace hD19 := hD19.ext hxq
            replace hT0 := own_ext hT0 hxq
            replace hC14 := hxq.blk hC14 (fun h => h)
            clear hxq
            generalize w.drewN nq = wq at *
            rw [← hv49] at h8
            refine W.condF' rfl (by simp [hkne, hXl, hl, hXk, hk9, hk1, hXn, n3 hl hk9 hk1]) ?_
            refine W.skip ?_
            refine W.region ?_
            refine WL.c rfl (o_mvh h13 ?_)
            refine WL.c rfl (o_addi rfl rfl (by omega) ?_)
            refine WL.c rfl (o_ash (show _ = Value.int _ _ from rfl) ?_)
            refine WL.nil ?_
            refine ⟨⟨j + 1, kk, _, y.at_ + 1, by omega, h0, h3, h8, h12, hB3, hD19, hT0, hx, rfl, h10, h11, by omega, by omega, ry, fun i g1 g2 => ?_⟩, ?_⟩
            · rw [hpy]; exact Int.ofNat_lt.2 (cut_lt (by omega) g2).2
            · show d.ty.length - ((j : Int) + 1).toNat < _
              rw [hm13]; simp [intOf]; omega
          · skip
            skip
            refine W.quiet rfl (by kernel_rfl) ?_
            refine WQ.c rfl ((QO.o rfl fun _ => o_mvh h11 ⟨rfl, rfl⟩)) ?_
            refine WQ.c rfl ((QO.o rfl fun _ => o_mvh h8 ⟨rfl, rfl⟩)) ?_
            refine WQ.c rfl ((QO.r fun _ => r_lenR TI54 rfl (hv49 ▸ Sl.own hT0))) ?_
            refine WQ.c rfl ((QO.o rfl fun _ => o_eq rfl rfl ⟨rfl, rfl⟩)) ?_
            refine WQ.c rfl ((QO.o rfl fun _ => o_mvh (show _ = Value.bool _ from rfl) ⟨rfl, rfl⟩)) ?_
            refine WQ.g rfl (decide_eq_false (by omega)) rfl ((QO.o rfl fun _ => o_mvh h8 ⟨rfl, rfl⟩)) ?_
            refine WQ.g rfl (decide_eq_false (by omega)) rfl ((QO.o rfl fun _ => o_mvh h11 ⟨rfl, rfl⟩)) ?_
            refine WQ.g rfl (decide_eq_false (by omega)) rfl ((QO.o rfl fun _ => o_ixB TI54 TI58 rfl rfl (by omega) ⟨rfl, rfl⟩)) ?_
            refine WQ.g rfl (decide_eq_false (by omega)) rfl ((QO.o rfl fun _ => o_fa 3 TI58 rfl TI3 rfl rfl ⟨rfl, rfl⟩)) ?_
            refine WQ.g rfl (decide_eq_false (by omega)) rfl ((QO.o rfl fun _ => o_ld TI3 rfl rfl (htk2 3 _ rfl) ⟨rfl, rfl⟩)) ?_
            refine WQ.g rfl (decide_eq_false (by omega)) rfl ((QO.o rfl fun _ => o_mvh h10 ⟨rfl, rfl⟩)) ?_
            refine WQ.g rfl (decide_eq_false (by omega)) rfl ((QO.o rfl fun _ => o_ne rfl rfl ⟨rfl, rfl⟩)) ?_
            refine WQ.c rfl ((QO.r fun _ => r_pickO rfl rfl)) ?_
            refine WQ.c rfl ((QO.o rfl fun _ => o_mvh (show _ = Value.bool _ from rfl) ⟨rfl, rfl⟩)) ?_
            refine WQ.g rfl (by simp [hkne]) rfl ((QO.o rfl fun _ => o_fa 3 TI30 rfl TI9 rfl h14 ⟨rfl, rfl⟩)) ?_
            refine WQ.g rfl (by simp [hkne]) rfl ((QO.o rfl fun _ => o_ld TI9 rfl rfl (cell_of hC14 rfl) ⟨rfl, rfl⟩)) ?_
            refine WQ.g rfl (by simp [hkne]) rfl ((QO.o rfl fun _ => o_neT rfl rfl ⟨rfl, rfl⟩)) ?_
            refine WQ.g rfl (by simp [hkne]) rfl ((QO.o rfl fun _ => o_mvh (show _ = Value.bool _ from rfl) ⟨rfl, rfl⟩)) ?_
            refine WQ.s rfl (by simp [hkne, hXl, hl]) rfl ?_
            refine WQ.s rfl (by simp [hkne, hXl, hl]) rfl ?_
            refine WQ.s rfl (by simp [hkne, hXl, hl]) rfl ?_
            refine WQ.s rfl (by simp [hkne, hXl, hl]) rfl ?_
            refine WQ.s rfl (by simp [hkne, hXl, hl]) rfl ?_
            refine WQ.s rfl (by simp [hkne, hXl, hl]) rfl ?_
            refine WQ.s rfl (by simp [hkne, hXl, hl]) rfl ?_
            refine WQ.s rfl (by simp [hkne, hXl, hl]) rfl ?_
            refine WQ.g rfl (by simp [hkne]) rfl ((QO.r fun _ => r_pickF rfl (by simp [hkne, hXl, hl]))) ?_
            refine WQ.c rfl ((QO.r fun _ => r_pickO rfl rfl)) ?_
            refine WQ.c rfl ((QO.o rfl fun _ => o_mvh (show _ = Value.bool _ from rfl) ⟨rfl, rfl⟩)) ?_
            refine WQ.g rfl (by simp [hkne, hXl, hl]) rfl ((QO.o rfl fun _ => o_fa 3 TI30 rfl TI9 rfl h14 ⟨rfl, rfl⟩)) ?_
            refine WQ.g rfl (by simp [hkne, hXl, hl]) rfl ((QO.o rfl fun _ => o_ld TI9 rfl rfl (cell_of hC14 rfl) ⟨rfl, rfl⟩)) ?_
            refine WQ.g rfl (by simp [hkne, hXl, hl]) rfl ((QO.o rfl fun _ => o_eqT rfl rfl ⟨rfl, rfl⟩)) ?_
            refine WQ.g rfl (by simp [hkne, hXl, hl]) rfl ((QO.o rfl fun _ => o_mvh (show _ = Value.bool _ from rfl) ⟨rfl, rfl⟩)) ?_
            refine WQ.g rfl (by simp [hkne, hXl, hl]) rfl ((QO.o rfl fun _ => o_fa 0 TI30 rfl TI3 rfl h14 ⟨rfl, rfl⟩)) ?_
            refine WQ.g rfl (by simp [hkne, hXl, hl]) rfl ((QO.o rfl fun _ => o_ld TI3 rfl rfl (cell_of hC14 rfl) ⟨rfl, rfl⟩)) ?_
            refine WQ.g rfl (by simp [hkne, hXl, hl]) rfl ((QO.o rfl fun _ => o_eq rfl rfl ⟨rfl, rfl⟩)) ?_
            refine WQ.g rfl (by simp [hkne, hXl, hl]) rfl ((QO.r fun _ => r_pickA rfl rfl)) ?_
            refine WQ.g rfl (by simp [hkne, hXl, hl]) rfl ((QO.o rfl fun _ => o_mvh (show _ = Value.bool _ from rfl) ⟨rfl, rfl⟩)) ?_
            refine WQ.g rfl (by simp [hkne, hXl, hl, hXk, hk9]) rfl ((QO.o rfl fun _ => o_mvh h8 ⟨rfl, rfl⟩)) ?_
            refine WQ.g rfl (by simp [hkne, hXl, hl, hXk, hk9]) rfl ((QO.o rfl fun _ => o_mvh h11 ⟨rfl, rfl⟩)) ?_
            refine WQ.g rfl (by simp [hkne, hXl, hl, hXk, hk9]) rfl ((QO.o rfl fun _ => o_ixB TI54 TI58 rfl rfl (by omega) ⟨rfl, rfl⟩)) ?_
            refine WQ.g rfl (by simp [hkne, hXl, hl, hXk, hk9]) rfl ((QO.o rfl fun _ => o_fa 0 TI58 rfl TI3 rfl rfl ⟨rfl, rfl⟩)) ?_
            refine WQ.g rfl (by simp [hkne, hXl, hl, hXk, hk9]) rfl ((QO.o rfl fun _ => o_ld TI3 rfl rfl (htk2 0 _ rfl) ⟨rfl, rfl⟩)) ?_
            refine WQ.g rfl (by simp [hkne, hXl, hl, hXk, hk9]) rfl ((QO.o rfl fun _ => o_eq rfl rfl ⟨rfl, rfl⟩)) ?_
            refine WQ.g rfl (by simp [hkne, hXl, hl]) rfl ((QO.r fun _ => r_pickA rfl rfl)) ?_
            refine WQ.g rfl (by simp [hkne, hXl, hl]) rfl ((QO.o rfl fun _ => o_mvh (show _ = Value.bool _ from rfl) ⟨rfl, rfl⟩)) ?_
            refine WQ.s rfl (by simp [hkne, hXl, hl, hXk, hk9]; omega) rfl ?_
            refine WQ.s rfl (by simp [hkne, hXl, hl, hXk, hk9]; omega) rfl ?_
            refine WQ.s rfl (by simp [hkne, hXl, hl, hXk, hk9]; omega) rfl ?_
            refine WQ.s rfl (by simp [hkne, hXl, hl, hXk, hk9]; omega) rfl ?_
            refine WQ.s rfl (by simp [hkne, hXl, hl, hXk, hk9]; omega) rfl ?_
            refine WQ.s rfl (by simp [hkne, hXl, hl, hXk, hk9]; omega) rfl ?_
            refine WQ.s rfl (by simp [hkne, hXl, hl, hXk, hk9]; omega) rfl ?_
            refine WQ.s rfl (by simp [hkne, hXl, hl, hXk, hk9]; omega) rfl ?_
            refine WQ.g rfl (by simp [hkne, hXl, hl]) rfl ((QO.r fun _ => r_pickF rfl (by simp [hkne, hXl, hl, hXk, hk9]; omega))) ?_
            refine WQ.c rfl ((QO.r fun _ => r_pickO rfl rfl)) ?_
            refine WQ.nil ?_
            intro nq
            have hxq := Only.drewN w nq
            replace hx := hx.tr hxq
            replace hB3 := hxq.blk hB3 (fun h => h)
            replace hD19 := hD19.ext hxq
            replace hT0 := own_ext hT0 hxq
            replace hC14 := hxq.blk hC14 (fun h => h)
            clear hxq
            generalize w.drewN nq = wq at *
            rw [← hv49] at h8
            refine W.condF' rfl (by simp [hkne, hXl, hl]) ?_
            refine W.skip ?_
            refine W.region ?_
            refine WL.c rfl (o_mvh h13 ?_)
            refine WL.c rfl (o_addi rfl rfl (by omega) ?_)
            refine WL.c rfl (o_ash (show _ = Value.int _ _ from rfl) ?_)
            refine WL.nil ?_
            refine ⟨⟨j + 1, kk, _, y.at_ + 1, by omega, h0, h3, h8, h12, hB3, hD19, hT0, hx, rfl, h10, h11, by omega, by omega, ry, fun i g1 g2 => ?_⟩, ?_⟩
            · rw [hpy]; exact Int.ofNat_lt.2 (cut_lt (by omega) g2).2
            · show d.ty.length - ((j : Int) + 1).toNat < _
              rw [hm13]; simp [intOf]; omega
          · skip
            skip
            refine W.quiet rfl (by kernel_rfl) ?_
            refine WQ.c rfl ((QO.o rfl fun _ => o_mvh h11 ⟨rfl, rfl⟩)) ?_
            refine WQ.c rfl ((QO.o rfl fun _ => o_mvh h8 ⟨rfl, rfl⟩)) ?_
            refine WQ.c rfl ((QO.r fun _ => r_lenR TI54 rfl (hv49 ▸ Sl.own hT0))) ?_
            refine WQ.c rfl ((QO.o rfl fun _ => o_eq rfl rfl ⟨rfl, rfl⟩)) ?_
            refine WQ.c rfl ((QO.o rfl fun _ => o_mvh (show _ = Value.bool _ from rfl) ⟨rfl, rfl⟩)) ?_
            refine WQ.g rfl (decide_eq_false (by omega)) rfl ((QO.o rfl fun _ => o_mvh h8 ⟨rfl, rfl⟩)) ?_
            refine WQ.g rfl (decide_eq_false (by omega)) rfl ((QO.o rfl fun _ => o_mvh h11 ⟨rfl, rfl⟩)) ?_
            refine WQ.g rfl (decide_eq_false (by omega)) rfl ((QO.o rfl fun _ => o_ixB TI54 TI58 rfl rfl (by omega) ⟨rfl, rfl⟩)) ?_
            refine WQ.g rfl (decide_eq_false (by omega)) rfl ((QO.o rfl fun _ => o_fa 3 TI58 rfl TI3 rfl rfl ⟨rfl, rfl⟩)) ?_
            refine WQ.g rfl (decide_eq_false (by omega)) rfl ((QO.o rfl fun _ => o_ld TI3 rfl rfl (htk2 3 _ rfl) ⟨rfl, rfl⟩)) ?_
            refine WQ.g rfl (decide_eq_false (by omega)) rfl ((QO.o rfl fun _ => o_mvh h10 ⟨rfl, rfl⟩)) ?_
            refine WQ.g rfl (decide_eq_false (by omega)) rfl ((QO.o rfl fun _ => o_ne rfl rfl ⟨rfl, rfl⟩)) ?_
            refine WQ.c rfl ((QO.r fun _ => r_pickO rfl rfl)) ?_
            refine WQ.c rfl ((QO.o rfl fun _ => o_mvh (show _ = Value.bool _ from rfl) ⟨rfl, rfl⟩)) ?_
            refine WQ.g rfl (by simp [hkne]) rfl ((QO.o rfl fun _ => o_fa 3 TI30 rfl TI9 rfl h14 ⟨rfl, rfl⟩)) ?_
            refine WQ.g rfl (by simp [hkne]) rfl ((QO.o rfl fun _ => o_ld TI9 rfl rfl (cell_of hC14 rfl) ⟨rfl, rfl⟩)) ?_
            refine WQ.g rfl (by simp [hkne]) rfl ((QO.o rfl fun _ => o_neT rfl rfl ⟨rfl, rfl⟩)) ?_
            refine WQ.g rfl (by simp [hkne]) rfl ((QO.o rfl fun _ => o_mvh (show _ = Value.bool _ from rfl) ⟨rfl, rfl⟩)) ?_
            refine WQ.s rfl (by simp [hkne, hXl, hl]) rfl ?_
            refine WQ.s rfl (by simp [hkne, hXl, hl]) rfl ?_
            refine WQ.s rfl (by simp [hkne, hXl, hl]) rfl ?_
            refine WQ.s rfl (by simp [hkne, hXl, hl]) rfl ?_
            refine WQ.s rfl (by simp [hkne, hXl, hl]) rfl ?_
            refine WQ.s rfl (by simp [hkne, hXl, hl]) rfl ?_
            refine WQ.s rfl (by simp [hkne, hXl, hl]) rfl ?_
            refine WQ.s rfl (by simp [hkne, hXl, hl]) rfl ?_
            refine WQ.g rfl (by simp [hkne]) rfl ((QO.r fun _ => r_pickF rfl (by simp [hkne, hXl, hl]))) ?_
            refine WQ.c rfl ((QO.r fun _ => r_pickO rfl rfl)) ?_
            refine WQ.c rfl ((QO.o rfl fun _ => o_mvh (show _ = Value.bool _ from rfl) ⟨rfl, rfl⟩)) ?_
            refine WQ.g rfl (by simp [hkne, hXl, hl]) rfl ((QO.o rfl fun _ => o_fa 3 TI30 rfl TI9 rfl h14 ⟨rfl, rfl⟩)) ?_
            refine WQ.g rfl (by simp [hkne, hXl, hl]) rfl ((QO.o rfl fun _ => o_ld TI9 rfl rfl (cell_of hC14 rfl) ⟨rfl, rfl⟩)) ?_
            refine WQ.g rfl (by simp [hkne, hXl, hl]) rfl ((QO.o rfl fun _ => o_eqT rfl rfl ⟨rfl, rfl⟩)) ?_
            refine WQ.g rfl (by simp [hkne, hXl, hl]) rfl ((QO.o rfl fun _ => o_mvh (show _ = Value.bool _ from rfl) ⟨rfl, rfl⟩)) ?_
            refine WQ.g rfl (by simp [hkne, hXl, hl]) rfl ((QO.o rfl fun _ => o_fa 0 TI30 rfl TI3 rfl h14 ⟨rfl, rfl⟩)) ?_
            refine WQ.g rfl (by simp [hkne, hXl, hl]) rfl ((QO.o rfl fun _ => o_ld TI3 rfl rfl (cell_of hC14 rfl) ⟨rfl, rfl⟩)) ?_
            refine WQ.g rfl (by simp [hkne, hXl, hl]) rfl ((QO.o rfl fun _ => o_eq rfl rfl ⟨rfl, rfl⟩)) ?_
            refine WQ.g rfl (by simp [hkne, hXl, hl]) rfl ((QO.r fun _ => r_pickA rfl rfl)) ?_
            refine WQ.g rfl (by simp [hkne, hXl, hl]) rfl ((QO.o rfl fun _ => o_mvh (show _ = Value.bool _ from rfl) ⟨rfl, rfl⟩)) ?_
            refine WQ.s rfl (by simp [hkne, hXl, hl, hXk, hk9]) rfl ?_
            refine WQ.s rfl (by simp [hkne, hXl, hl, hXk, hk9]) rfl ?_
            refine WQ.s rfl (by simp [hkne, hXl, hl, hXk, hk9]) rfl ?_
            refine WQ.s rfl (by simp [hkne, hXl, hl, hXk, hk9]) rfl ?_
            refine WQ.s rfl (by simp [hkne, hXl, hl, hXk, hk9]) rfl ?_
            refine WQ.s rfl (by simp [hkne, hXl, hl, hXk, hk9]) rfl ?_
            refine WQ.g rfl (by simp [hkne, hXl, hl]) rfl ((QO.r fun _ => r_pickF rfl (by simp [hkne, hXl, hl, hXk, hk9]))) ?_
            refine WQ.g rfl (by simp [hkne, hXl, hl]) rfl ((QO.o rfl fun _ => o_mvh (show _ = Value.bool _ from rfl) ⟨rfl, rfl⟩)) ?_
            refine WQ.s rfl (rfl) rfl ?_
            refine WQ.s rfl (rfl) rfl ?_
            refine WQ.s rfl (rfl) rfl ?_
            refine WQ.s rfl (rfl) rfl ?_
            refine WQ.s rfl (rfl) rfl ?_
            refine WQ.s rfl (rfl) rfl ?_
            refine WQ.s rfl (rfl) rfl ?_
            refine WQ.s rfl (rfl) rfl ?_
            refine WQ.g rfl (by simp [hkne, hXl, hl]) rfl ((QO.r fun _ => r_pickF rfl (rfl))) ?_
            refine WQ.c rfl ((QO.r fun _ => r_pickO rfl rfl)) ?_
            refine WQ.nil ?_
            intro nq
            have hxq := Only.drewN w nq
            replace hx := hx.tr hxq
            replace hB3 := hxq.blk hB3 (fun h => h)
            replace hD19 := hD19.ext hxq
            replace hT0 := own_ext hT0 hxq
            replace hC14 := hxq.blk hC14 (fun h => h)
            clear hxq
            generalize w.drewN nq = wq at *
            rw [← hv49] at h8
            refine W.condF' rfl (by simp [hkne, hXl, hl]) ?_
            refine W.skip ?_
            refine W.region ?_
            refine WL.c rfl (o_mvh h13 ?_)
            refine WL.c rfl (o_addi rfl rfl (by omega) ?_)
            refine WL.c rfl (o_ash (show _ = Value.int _ _ from rfl) ?_)
            refine WL.nil ?_
            refine ⟨⟨j + 1, kk, _, y.at_ + 1, by omega, h0, h3, h8, h12, hB3, hD19, hT0, hx, rfl, h10, h11, by omega, by omega, ry, fun i g1 g2 => ?_⟩, ?_⟩
            · rw [hpy]; exact Int.ofNat_lt.2 (cut_lt (by omega) g2).2
            · show d.ty.length - ((j : Int) + 1).toNat < _
              rw [hm13]; simp [intOf]; omega
          · skip
            skip
            refine W.quiet rfl (by kernel_rfl) ?_
            refine WQ.c rfl ((QO.o rfl fun _ => o_mvh h11 ⟨rfl, rfl⟩)) ?_
            refine WQ.c rfl ((QO.o rfl fun _ => o_mvh h8 ⟨rfl, rfl⟩)) ?_
            refine WQ.c rfl ((QO.r fun _ => r_lenR TI54 rfl (hv49 ▸ Sl.own hT0))) ?_
            refine WQ.c rfl ((QO.o rfl fun _ => o_eq rfl rfl ⟨rfl, rfl⟩)) ?_
            refine WQ.c rfl ((QO.o rfl fun _ => o_mvh (show _ = Value.bool _ from rfl) ⟨rfl, rfl⟩)) ?_
            refine WQ.g rfl (decide_eq_false (by omega)) rfl ((QO.o rfl fun _ => o_mvh h8 ⟨rfl, rfl⟩)) ?_
            refine WQ.g rfl (decide_eq_false (by omega)) rfl ((QO.o rfl fun _ => o_mvh h11 ⟨rfl, rfl⟩)) ?_
            refine WQ.g rfl (decide_eq_false (by omega)) rfl ((QO.o rfl fun _ => o_ixB TI54 TI58 rfl rfl (by omega) ⟨rfl, rfl⟩)) ?_
            refine WQ.g rfl (decide_eq_false (by omega)) rfl ((QO.o rfl fun _ => o_fa 3 TI58 rfl TI3 rfl rfl ⟨rfl, rfl⟩)) ?_
            refine WQ.g rfl (decide_eq_false (by omega)) rfl ((QO.o rfl fun _ => o_ld TI3 rfl rfl (htk2 3 _ rfl) ⟨rfl, rfl⟩)) ?_
            refine WQ.g rfl (decide_eq_false (by omega)) rfl ((QO.o rfl fun _ => o_mvh h10 ⟨rfl, rfl⟩)) ?_
            refine WQ.g rfl (decide_eq_false (by omega)) rfl ((QO.o rfl fun _ => o_ne rfl rfl ⟨rfl, rfl⟩)) ?_
            refine WQ.c rfl ((QO.r fun _ => r_pickO rfl rfl)) ?_
            refine WQ.c rfl ((QO.o rfl fun _ => o_mvh (show _ = Value.bool _ from rfl) ⟨rfl, rfl⟩)) ?_
            refine WQ.g rfl (by simp [hkne]) rfl ((QO.o rfl fun _ => o_fa 3 TI30 rfl TI9 rfl h14 ⟨rfl, rfl⟩)) ?_
            refine WQ.g rfl (by simp [hkne]) rfl ((QO.o rfl fun _ => o_ld TI9 rfl rfl (cell_of hC14 rfl) ⟨rfl, rfl⟩)) ?_
            refine WQ.g rfl (by simp [hkne]) rfl ((QO.o rfl fun _ => o_neT rfl rfl ⟨rfl, rfl⟩)) ?_
            refine WQ.g rfl (by simp [hkne]) rfl ((QO.o rfl fun _ => o_mvh (show _ = Value.bool _ from rfl) ⟨rfl, rfl⟩)) ?_
            refine WQ.g rfl (by simp [hkne, hXl, hl]) rfl ((QO.o rfl fun _ => o_mvh h8 ⟨rfl, rfl⟩)) ?_
            refine WQ.g rfl (by simp [hkne, hXl, hl]) rfl ((QO.o rfl fun _ => o_mvh h11 ⟨rfl, rfl⟩)) ?_
            refine WQ.g rfl (by simp [hkne, hXl, hl]) rfl ((QO.o rfl fun _ => o_ixB TI54 TI58 rfl rfl (by omega) ⟨rfl, rfl⟩)) ?_
            refine WQ.g rfl (by simp [hkne, hXl, hl]) rfl ((QO.o rfl fun _ => o_fa 1 TI58 rfl TI9 rfl rfl ⟨rfl, rfl⟩)) ?_
            refine WQ.g rfl (by simp [hkne, hXl, hl]) rfl ((QO.o rfl fun _ => o_ld TI9 rfl rfl (htk2 1 _ rfl) ⟨rfl, rfl⟩)) ?_
            refine WQ.g rfl (by simp [hkne, hXl, hl]) rfl ((QO.o rfl fun _ => o_fa 3 TI30 rfl TI9 rfl h14 ⟨rfl, rfl⟩)) ?_
            refine WQ.g rfl (by simp [hkne, hXl, hl]) rfl ((QO.o rfl fun _ => o_ld TI9 rfl rfl (cell_of hC14 rfl) ⟨rfl, rfl⟩)) ?_
            refine WQ.g rfl (by simp [hkne, hXl, hl]) rfl ((QO.o rfl fun _ => o_neT rfl rfl ⟨rfl, rfl⟩)) ?_
            refine WQ.g rfl (by simp [hkne]) rfl ((QO.r fun _ => r_pickA rfl rfl)) ?_
            refine WQ.c rfl ((QO.r fun _ => r_pickO rfl rfl)) ?_
            refine WQ.c rfl ((QO.o rfl fun _ => o_mvh (show _ = Value.bool _ from rfl) ⟨rfl, rfl⟩)) ?_
            refine WQ.g rfl (by simp [hkne, hXl, hl, n2 hl]) rfl ((QO.o rfl fun _ => o_fa 3 TI30 rfl TI9 rfl h14 ⟨rfl, rfl⟩)) ?_
            refine WQ.g rfl (by simp [hkne, hXl, hl, n2 hl]) rfl ((QO.o rfl fun _ => o_ld TI9 rfl rfl (cell_of hC14 rfl) ⟨rfl, rfl⟩)) ?_
            refine WQ.g rfl (by simp [hkne, hXl, hl, n2 hl]) rfl ((QO.o rfl fun _ => o_eqT rfl rfl ⟨rfl, rfl⟩)) ?_
            refine WQ.g rfl (by simp [hkne, hXl, hl, n2 hl]) rfl ((QO.o rfl fun _ => o_mvh (show _ = Value.bool _ from rfl) ⟨rfl, rfl⟩)) ?_
            refine WQ.s rfl (by simp [hkne, hXl, hl]) rfl ?_
            refine WQ.s rfl (by simp [hkne, hXl, hl]) rfl ?_
            refine WQ.s rfl (by simp [hkne, hXl, hl]) rfl ?_
            refine WQ.g rfl (by simp [hkne, hXl, hl, n2 hl]) rfl ((QO.r fun _ => r_pickF rfl (by simp [hkne, hXl, hl]))) ?_
            refine WQ.g rfl (by simp [hkne, hXl, hl, n2 hl]) rfl ((QO.o rfl fun _ => o_mvh (show _ = Value.bool _ from rfl) ⟨rfl, rfl⟩)) ?_
            refine WQ.s rfl (rfl) rfl ?_
            refine WQ.s rfl (rfl) rfl ?_
            refine WQ.s rfl (rfl) rfl ?_
            refine WQ.s rfl (rfl) rfl ?_
            refine WQ.s rfl (rfl) rfl ?_
            refine WQ.s rfl (rfl) rfl ?_
            refine WQ.g rfl (by simp [hkne, hXl, hl, n2 hl]) rfl ((QO.r fun _ => r_pickF rfl (rfl))) ?_
            refine WQ.g rfl (by simp [hkne, hXl, hl, n2 hl]) rfl ((QO.o rfl fun _ => o_mvh (show _ = Value.bool _ from rfl) ⟨rfl, rfl⟩)) ?_
            refine WQ.s rfl (rfl) rfl ?_
            refine WQ.s rfl (rfl) rfl ?_
            refine WQ.s rfl (rfl) rfl ?_
            refine WQ.s rfl (rfl) rfl ?_
            refine WQ.s rfl (rfl) rfl ?_
            refine WQ.s rfl (rfl) rfl ?_
            refine WQ.s rfl (rfl) rfl ?_
            refine WQ.s rfl (rfl) rfl ?_
            refine WQ.g rfl (by simp [hkne, hXl, hl, n2 hl]) rfl ((QO.r fun _ => r_pickF rfl (rfl))) ?_
            refine WQ.c rfl ((QO.r fun _ => r_pickO rfl rfl)) ?_
            refine WQ.nil ?_
            intro nq
            have hxq := Only.drewN w nq
            replace hx := hx.tr hxq
            replace hB3 := hxq.blk hB3 (fun h => h)
            replace hD19 := hD19.ext hxq
            replace hT0 := own_ext hT0 hxq
            replace hC14 := hxq.blk hC14 (fun h => h)
            clear hxq
            generalize w.drewN nq = wq at *
            rw [← hv49] at h8
            refine W.condF' rfl (by simp [hkne, hXl, hl, n2 hl]) ?_
            refine W.skip ?_
            refine W.region ?_
            refine WL.c rfl (o_mvh h13 ?_)
            refine WL.c rfl (o_addi rfl rfl (by omega) ?_)
            refine WL.c rfl (o_ash (show _ = Value.int _ _ from rfl) ?_)
            refine WL.nil ?_
            refine ⟨⟨j + 1, kk, _, y.at_ + 1, by omega, h0, h3, h8, h12, hB3, hD19, hT0, hx, rfl, h10, h11, by omega, by omega, ry, fun i g1 g2 => ?_⟩, ?_⟩
            · rw [hpy]; exact Int.ofNat_lt.2 (cut_lt (by omega) g2).2
            · show d.ty.length - ((j : Int) + 1).toNat < _
              rw [hm13]; simp [intOf]; omega
      · try simp only [decide_eq_true_eq, decide_eq_false_iff_not, Bool.not_eq_true', Bool.not_eq_false', Bool.and_eq_true, Bool.or_eq_true, Bool.and_eq_false_iff, Bool.or_eq_false_iff] at c151
        have hj1 : j = d.ty.length := by omega
        have hri2 : RiD (cutA xs).1 hi (D.drop (q + 1)) := r8
        have hhi : lo2 ≤ hi := hris.ge
        refine W.exit ?_
        refine W.region ?_
        refine WL.c rfl (o_mvh h12 ?_)
        refine WL.c rfl (o_addi rfl rfl (by omega) ?_)
        refine WL.c rfl (o_ash (show _ = Value.int _ _ from rfl) ?_)
        refine WL.nil ?_
        refine ⟨⟨q + 1, kk, a2, hi, by omega, h0, h3, h8, rfl, hB3, hD19, hT0, hx, h10, h11, by omega, by omega, hri2, fun i h1 h2 => hal i (by omega) h2⟩, ?_⟩
        show D.length - ((q : Int) + 1).toNat < _
        rw [hm12]; simp [intOf]; omega
    · try simp only [decide_eq_true_eq, decide_eq_false_iff_not, Bool.not_eq_true', Bool.not_eq_false', Bool.and_eq_true, Bool.or_eq_true, Bool.and_eq_false_iff, Bool.or_eq_false_iff] at c76
      have hq1 : q = D.length := by simp at c76; omega
      refine W.exit ?_
      refine W.seq ?_
      refine W.region ?_
      refine WL.c rfl (o_ash (show _ = Value.bool _ from rfl) ?_)
      refine WL.nil ?_
      refine W.ret ?_
      refine ret1v rfl (show _ = Value.bool _ from rfl) ?_
      exact ⟨rfl, hx⟩

theorem places_walk (w0 : World) (s : ByteArray) (hs : s.size ≤ maxLen) : Ca Try.prog 6 #[.string s] w0 (fun v w' => v = .bool true ∧ Ext w0 w') := by
  obtain ⟨⟨xs⟩⟩ := s
  exact places_walk0 w0 xs hs

end Go.Proofs.Ytcljkkfpcomdcaa
