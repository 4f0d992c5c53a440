/-
  Walks. Written by program out of specs of mine.
-/
import Derived.Test.YtcljkkfpcomdcaaD
set_option linter.unusedSimpArgs false
set_option linter.unusedVariables false
set_option maxRecDepth 100000
namespace Go.Proofs.Ytcljkkfpcomdcaa
open Go Go.Vc Go.RowKit Go.Proofs

theorem headT_u {T : List Tk} {full : Bool} {i : Nat} {x : Ex} : headT T true full i x = if full = true ∧ (tkA T i).kind = 2 then .bad 5 i else (numT T i).bind fun n i => .ok { x with tag := n } i := rfl
theorem headT_s {T : List Tk} {full : Bool} {i : Nat} {x : Ex} : headT T false full i x = if full = true ∧ nmT (tkA T i) = true then .bad 5 i else (nameT T i).bind fun s i => .ok { x with label := s } i := rfl
theorem cells_exV {x : Ex} : (exV x).length = 7 := rfl
def exs (L : List Ex) : List Value := L.flatMap exV
theorem exs_len (L : List Ex) : (exs L).length = L.length * 7 := by
  induction L with
  | nil => rfl
  | cons a l ih => rw [exs, List.flatMap_cons, List.length_append, cells_exV]; show 7 + (exs l).length = _; rw [ih, List.length_cons]; omega
theorem exs_snoc (L : List Ex) (x : Ex) : exs (L ++ [x]) = exs L ++ exV x := by simp [exs]
theorem exs_app (L M : List Ex) : exs (L ++ M) = exs L ++ exs M := by simp [exs]

theorem headu_spec (B0 p c4 bx : Nat) (lv : Value) (T : List Tk) (fin at_ : Nat) (full : Bool) (x : Ex) (w0 : World) (h : Psr w0 B0 p lv T fin at_) (hc : w0.heap[c4]? = some (.cells #[.pointer (some ⟨p, 0, none⟩)] 75 (0, 0))) (hx0 : w0.heap[bx]? = some (.cells (exV x).toArray 30 (0, 0))) (hbp : ¬ bx = p) (hcp : ¬ c4 = p) (hbp2 : p < bx) : CaX Try.prog 60 #[.pointer (some ⟨bx, 0, none⟩), .bool full, .pointer (some ⟨c4, 0, none⟩)] w0 (fun _ w' => ∃ y, headT T true full at_ x = .ok y (at_ + 1) ∧ w'.heap[bx]? = some (.cells (exV y).toArray 30 (0, 0)) ∧ Psr w' B0 p lv T fin (at_ + 1) ∧ Only (fun k => k = p ∨ k = bx) w0 w') (fun ch w' => ∃ e j, headT T true full at_ x = .bad e j ∧ ch = [pan e (plc T fin j)] ∧ Ext w0 w') := by
  have hx : Ext w0 w0 := Only.refl _ _
  have hsm := h.small
  have hle := h.le
  refine CaX.of Try.func60 Try.ntmps60 rfl rfl ?_
  refine W.seq ?_
  refine W.seq ?_
  refine W.region ?_
  refine WL.c rfl (o_mvh (show _ = Value.bool _ from rfl) ?_)
  refine WL.c rfl (o_mvh (show _ = Value.bool _ from rfl) ?_)
  refine WL.sp 1 rfl (fun g6 => ?_) (fun g6 => ?_)
  · skip
    refine WL.g rfl (g6) rfl (o_ld TI75 rfl rfl (cell_of hc rfl) ?_)
    refine WL.g rfl (g6) rfl (o_call Try.call54 (lc rfl ln) ((peek_spec B0 p lv T fin at_ _ h).mono ?_))
    rintro v8 w8 ⟨rfl, hx8⟩
    replace h := h.ext hx8
    replace hx := hx.tr hx8
    replace hc := hx8.blk hc (fun h => h)
    replace hx0 := hx8.blk hx0 (fun h => h)
    refine WL.g rfl (g6) rfl (o_fldT TI58 rfl rfl rfl TI3 rfl rfl rfl ?_)
    refine WL.g rfl (g6) rfl (o_eq rfl rfl ?_)
    refine WL.c rfl (o_pickA rfl rfl ?_)
    refine WL.nil ?_
    refine W.cond rfl (fun c11 => ?_) (fun c11 => ?_)
    · try simp only [decide_eq_true_eq, decide_eq_false_iff_not, Bool.not_eq_true', Bool.not_eq_false', Bool.and_eq_true, Bool.or_eq_true, Bool.and_eq_false_iff, Bool.or_eq_false_iff] at c11
      have hk2 : full = true ∧ (tkA T at_).kind = 2 := by simp_all <;> omega
      refine W.region ?_
      refine WL.c rfl (o_ld TI75 rfl rfl (cell_of hc rfl) ?_)
      refine WL.cx rfl (ox_call Try.call32 (lc rfl (lc rfl ln)) ((fails_spec B0 p lv T fin at_ _ h 5).mono ?_ (fun ch w' hh => by obtain ⟨h1, h2⟩ := hh; exact ⟨5, at_, by rw [headT_u, if_pos hk2], h1, hx.tr h2⟩)))
      exact fun _ _ hf => hf.elim
    · try simp only [decide_eq_true_eq, decide_eq_false_iff_not, Bool.not_eq_true', Bool.not_eq_false', Bool.and_eq_true, Bool.or_eq_true, Bool.and_eq_false_iff, Bool.or_eq_false_iff] at c11
      have hk2 : ¬ (full = true ∧ (tkA T at_).kind = 2) := by simp_all <;> omega
      refine W.skip ?_
      refine W.region ?_
      refine WL.c rfl (o_mvh (by first | exact (show _ = Value.pointer _ from rfl) | exact rfl) ?_)
      refine WL.c rfl (o_ld TI75 rfl rfl (cell_of hc rfl) ?_)
      refine WL.cx rfl (ox_call Try.call58 (lc rfl ln) ((nump_spec B0 p lv T fin at_ _ h).mono ?_ (fun ch w' hh => by obtain ⟨e, j, h1, h2, h3⟩ := hh; exact ⟨e, j, by rw [headT_u, if_neg hk2, h1, Pr.bind], h2, hx.tr h3⟩)))
      rintro v16 w16 ⟨n, hn, rfl, h', hop⟩
      refine WL.c rfl (o_nil rfl ?_)
      refine WL.c rfl (o_fa 4 TI30 rfl TI3 rfl rfl ?_)
      refine WL.u (o_stB TI3 rfl (show _ = Value.int _ _ from rfl) rfl (hop.blk hx0 hbp) (show 4 < 7 by decide) ?_)
      intro wz hBz hoz hsz
      refine WL.nil ?_
      refine ret0 rfl ?_
      exact ⟨{ x with tag := n }, by rw [headT_u, if_neg hk2, hn, Pr.bind], hBz, h'.keep hoz (fun k hk => by subst hk; exact hbp2), (hx.mono (fun _ _ h => h.elim)).trans ((hop.mono (fun _ _ h => .inl h)).trans (hoz.mono (fun _ _ h => .inr h)))⟩
  · skip
    refine WL.s rfl (g6) rfl ?_
    refine WL.s rfl (g6) rfl ?_
    refine WL.s rfl (g6) rfl ?_
    refine WL.s rfl (g6) rfl ?_
    refine WL.c rfl (o_pickF rfl (g6) ?_)
    refine WL.nil ?_
    refine W.cond rfl (fun c11 => ?_) (fun c11 => ?_)
    · try simp only [decide_eq_true_eq, decide_eq_false_iff_not, Bool.not_eq_true', Bool.not_eq_false', Bool.and_eq_true, Bool.or_eq_true, Bool.and_eq_false_iff, Bool.or_eq_false_iff] at c11
      have hk2 : full = true ∧ (tkA T at_).kind = 2 := by simp_all <;> omega
      refine W.region ?_
      refine WL.c rfl (o_ld TI75 rfl rfl (cell_of hc rfl) ?_)
      refine WL.cx rfl (ox_call Try.call32 (lc rfl (lc rfl ln)) ((fails_spec B0 p lv T fin at_ _ h 5).mono ?_ (fun ch w' hh => by obtain ⟨h1, h2⟩ := hh; exact ⟨5, at_, by rw [headT_u, if_pos hk2], h1, hx.tr h2⟩)))
      exact fun _ _ hf => hf.elim
    · try simp only [decide_eq_true_eq, decide_eq_false_iff_not, Bool.not_eq_true', Bool.not_eq_false', Bool.and_eq_true, Bool.or_eq_true, Bool.and_eq_false_iff, Bool.or_eq_false_iff] at c11
      have hk2 : ¬ (full = true ∧ (tkA T at_).kind = 2) := by simp_all <;> omega
      refine W.skip ?_
      refine W.region ?_
      refine WL.c rfl (o_mvh (by first | exact (show _ = Value.pointer _ from rfl) | exact rfl) ?_)
      refine WL.c rfl (o_ld TI75 rfl rfl (cell_of hc rfl) ?_)
      refine WL.cx rfl (ox_call Try.call58 (lc rfl ln) ((nump_spec B0 p lv T fin at_ _ h).mono ?_ (fun ch w' hh => by obtain ⟨e, j, h1, h2, h3⟩ := hh; exact ⟨e, j, by rw [headT_u, if_neg hk2, h1, Pr.bind], h2, hx.tr h3⟩)))
      rintro v16 w16 ⟨n, hn, rfl, h', hop⟩
      refine WL.c rfl (o_nil rfl ?_)
      refine WL.c rfl (o_fa 4 TI30 rfl TI3 rfl rfl ?_)
      refine WL.u (o_stB TI3 rfl (show _ = Value.int _ _ from rfl) rfl (hop.blk hx0 hbp) (show 4 < 7 by decide) ?_)
      intro wz hBz hoz hsz
      refine WL.nil ?_
      refine ret0 rfl ?_
      exact ⟨{ x with tag := n }, by rw [headT_u, if_neg hk2, hn, Pr.bind], hBz, h'.keep hoz (fun k hk => by subst hk; exact hbp2), (hx.mono (fun _ _ h => h.elim)).trans ((hop.mono (fun _ _ h => .inl h)).trans (hoz.mono (fun _ _ h => .inr h)))⟩
theorem heads_spec (B0 p c4 bx : Nat) (lv : Value) (T : List Tk) (fin at_ : Nat) (full : Bool) (x : Ex) (w0 : World) (h : Psr w0 B0 p lv T fin at_) (hc : w0.heap[c4]? = some (.cells #[.pointer (some ⟨p, 0, none⟩)] 75 (0, 0))) (hx0 : w0.heap[bx]? = some (.cells (exV x).toArray 30 (0, 0))) (hbp : ¬ bx = p) (hcp : ¬ c4 = p) (hbp2 : p < bx) (hln : ∀ i, (tkA T i).text.length ≤ 9223372036854775807) : CaX Try.prog 61 #[.pointer (some ⟨bx, 0, none⟩), .bool full, .pointer (some ⟨c4, 0, none⟩)] w0 (fun _ w' => ∃ y, headT T false full at_ x = .ok y (at_ + 1) ∧ w'.heap[bx]? = some (.cells (exV y).toArray 30 (0, 0)) ∧ Psr w' B0 p lv T fin (at_ + 1) ∧ Only (fun k => k = p ∨ k = bx) w0 w') (fun ch w' => ∃ e j, headT T false full at_ x = .bad e j ∧ ch = [pan e (plc T fin j)] ∧ Ext w0 w') := by
  have hx : Ext w0 w0 := Only.refl _ _
  have hsm := h.small
  have hle := h.le
  have hlen : (tkA T at_).text.length ≤ 9223372036854775807 := hln at_
  refine CaX.of Try.func61 Try.ntmps61 rfl rfl ?_
  refine W.seq ?_
  refine W.seq ?_
  refine W.region ?_
  refine WL.c rfl (o_mvh (show _ = Value.bool _ from rfl) ?_)
  refine WL.c rfl (o_mvh (show _ = Value.bool _ from rfl) ?_)
  refine WL.sp 1 rfl (fun g6 => ?_) (fun g6 => ?_)
  · skip
    refine WL.g rfl (g6) rfl (o_ld TI75 rfl rfl (cell_of hc rfl) ?_)
    refine WL.g rfl (g6) rfl (o_call Try.call55 (lc rfl ln) ((isname_spec B0 p lv T fin at_ _ h hlen).mono ?_))
    rintro v8 w8 ⟨rfl, hx8⟩
    replace h := h.ext hx8
    replace hx := hx.tr hx8
    replace hc := hx8.blk hc (fun h => h)
    replace hx0 := hx8.blk hx0 (fun h => h)
    refine WL.c rfl (o_pickA rfl rfl ?_)
    refine WL.nil ?_
    refine W.cond rfl (fun c9 => ?_) (fun c9 => ?_)
    · try simp only [decide_eq_true_eq, decide_eq_false_iff_not, Bool.not_eq_true', Bool.not_eq_false', Bool.and_eq_true, Bool.or_eq_true, Bool.and_eq_false_iff, Bool.or_eq_false_iff] at c9
      have hk2 : full = true ∧ nmT (tkA T at_) = true := by simp_all <;> omega
      refine W.region ?_
      refine WL.c rfl (o_ld TI75 rfl rfl (cell_of hc rfl) ?_)
      refine WL.cx rfl (ox_call Try.call32 (lc rfl (lc rfl ln)) ((fails_spec B0 p lv T fin at_ _ h 5).mono ?_ (fun ch w' hh => by obtain ⟨h1, h2⟩ := hh; exact ⟨5, at_, by rw [headT_s, if_pos hk2], h1, hx.tr h2⟩)))
      exact fun _ _ hf => hf.elim
    · try simp only [decide_eq_true_eq, decide_eq_false_iff_not, Bool.not_eq_true', Bool.not_eq_false', Bool.and_eq_true, Bool.or_eq_true, Bool.and_eq_false_iff, Bool.or_eq_false_iff] at c9
      have hk2 : ¬ (full = true ∧ nmT (tkA T at_) = true) := by simp_all <;> omega
      refine W.skip ?_
      refine W.region ?_
      refine WL.c rfl (o_mvh (by first | exact (show _ = Value.pointer _ from rfl) | exact rfl) ?_)
      refine WL.c rfl (o_ld TI75 rfl rfl (cell_of hc rfl) ?_)
      refine WL.cx rfl (ox_call Try.call35 (lc rfl ln) ((namep_spec B0 p lv T fin at_ _ h hlen).mono ?_ (fun ch w' hh => by obtain ⟨e, j, h1, h2, h3⟩ := hh; exact ⟨e, j, by rw [headT_s, if_neg hk2, h1, Pr.bind], h2, hx.tr h3⟩)))
      rintro v14 w14 ⟨s, hn, rfl, h', hop⟩
      refine WL.c rfl (o_nil rfl ?_)
      refine WL.c rfl (o_fa 3 TI30 rfl TI9 rfl rfl ?_)
      refine WL.u (o_stB TI9 rfl (show _ = Value.string _ from rfl) rfl (hop.blk hx0 hbp) (show 3 < 7 by decide) ?_)
      intro wz hBz hoz hsz
      refine WL.nil ?_
      refine ret0 rfl ?_
      exact ⟨{ x with label := s }, by rw [headT_s, if_neg hk2, hn, Pr.bind], hBz, h'.keep hoz (fun k hk => by subst hk; exact hbp2), (hx.mono (fun _ _ h => h.elim)).trans ((hop.mono (fun _ _ h => .inl h)).trans (hoz.mono (fun _ _ h => .inr h)))⟩
  · skip
    refine WL.s rfl (g6) rfl ?_
    refine WL.s rfl (g6) rfl ?_
    refine WL.c rfl (o_pickF rfl (g6) ?_)
    refine WL.nil ?_
    refine W.cond rfl (fun c9 => ?_) (fun c9 => ?_)
    · try simp only [decide_eq_true_eq, decide_eq_false_iff_not, Bool.not_eq_true', Bool.not_eq_false', Bool.and_eq_true, Bool.or_eq_true, Bool.and_eq_false_iff, Bool.or_eq_false_iff] at c9
      have hk2 : full = true ∧ nmT (tkA T at_) = true := by simp_all <;> omega
      refine W.region ?_
      refine WL.c rfl (o_ld TI75 rfl rfl (cell_of hc rfl) ?_)
      refine WL.cx rfl (ox_call Try.call32 (lc rfl (lc rfl ln)) ((fails_spec B0 p lv T fin at_ _ h 5).mono ?_ (fun ch w' hh => by obtain ⟨h1, h2⟩ := hh; exact ⟨5, at_, by rw [headT_s, if_pos hk2], h1, hx.tr h2⟩)))
      exact fun _ _ hf => hf.elim
    · try simp only [decide_eq_true_eq, decide_eq_false_iff_not, Bool.not_eq_true', Bool.not_eq_false', Bool.and_eq_true, Bool.or_eq_true, Bool.and_eq_false_iff, Bool.or_eq_false_iff] at c9
      have hk2 : ¬ (full = true ∧ nmT (tkA T at_) = true) := by simp_all <;> omega
      refine W.skip ?_
      refine W.region ?_
      refine WL.c rfl (o_mvh (by first | exact (show _ = Value.pointer _ from rfl) | exact rfl) ?_)
      refine WL.c rfl (o_ld TI75 rfl rfl (cell_of hc rfl) ?_)
      refine WL.cx rfl (ox_call Try.call35 (lc rfl ln) ((namep_spec B0 p lv T fin at_ _ h hlen).mono ?_ (fun ch w' hh => by obtain ⟨e, j, h1, h2, h3⟩ := hh; exact ⟨e, j, by rw [headT_s, if_neg hk2, h1, Pr.bind], h2, hx.tr h3⟩)))
      rintro v14 w14 ⟨s, hn, rfl, h', hop⟩
      refine WL.c rfl (o_nil rfl ?_)
      refine WL.c rfl (o_fa 3 TI30 rfl TI9 rfl rfl ?_)
      refine WL.u (o_stB TI9 rfl (show _ = Value.string _ from rfl) rfl (hop.blk hx0 hbp) (show 3 < 7 by decide) ?_)
      intro wz hBz hoz hsz
      refine WL.nil ?_
      refine ret0 rfl ?_
      exact ⟨{ x with label := s }, by rw [headT_s, if_neg hk2, hn, Pr.bind], hBz, h'.keep hoz (fun k hk => by subst hk; exact hbp2), (hx.mono (fun _ _ h => h.elim)).trans ((hop.mono (fun _ _ h => .inl h)).trans (hoz.mono (fun _ _ h => .inr h)))⟩
end Go.Proofs.Ytcljkkfpcomdcaa
