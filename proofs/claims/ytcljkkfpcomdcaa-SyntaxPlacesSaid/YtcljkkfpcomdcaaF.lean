/-
  Walks. Written by program out of specs of mine.
-/
import Derived.Test.YtcljkkfpcomdcaaE
set_option linter.unusedSimpArgs false
set_option linter.unusedVariables false
set_option maxRecDepth 100000
namespace Go.Proofs.Ytcljkkfpcomdcaa
open Go Go.Vc Go.RowKit Go.Proofs

theorem ob {g n c k : Nat} (h : (Value.slice (some ⟨g, 0, none⟩) n c).ownBlock = some k) : g = k := by simpa [Value.ownBlock] using h
theorem headT_at {T : List Tk} {u full : Bool} {i j : Nat} {a : Int} {y : Ex} (b : Int) (h : headT T u full i { ex0 with at_ := a } = .ok y j) : y.at_ = a ∧ i < T.length ∧ y.kids = 0 ∧ j = i + 1 ∧ headT T u full i { ex0 with at_ := b } = .ok { y with at_ := b } j := by
  cases u
  · rw [headT_s] at h ⊢
    split at h
    · cases h
    · rename_i hn
      rw [if_neg hn]
      unfold nameT at h ⊢
      split at h
      · rename_i h1
        rw [if_pos h1]
        simp only [Pr.bind, Pr.ok.injEq] at h ⊢
        obtain ⟨rfl, rfl⟩ := h
        exact ⟨rfl, tkA_kind (k := 1) (by decide) (by simp only [nmT, Bool.and_eq_true, decide_eq_true_eq] at h1; exact h1.1), rfl, rfl, rfl, rfl⟩
      · cases h
  · rw [headT_u] at h ⊢
    split at h
    · cases h
    · rename_i hn
      rw [if_neg hn]
      unfold numT at h ⊢
      split at h
      · rename_i h1
        rw [if_pos h1]
        simp only [Pr.bind, Pr.ok.injEq] at h ⊢
        obtain ⟨rfl, rfl⟩ := h
        exact ⟨rfl, tkA_kind (k := 2) (by decide) h1, rfl, rfl, rfl, rfl⟩
      · cases h
theorem headT_bad {T : List Tk} {u full : Bool} {i e j : Nat} {a : Int} (b : Int) (h : headT T u full i { ex0 with at_ := a } = .bad e j) : headT T u full i { ex0 with at_ := b } = .bad e j := by
  cases u
  · rw [headT_s] at h ⊢
    split at h
    · rename_i hn; rw [if_pos hn]; exact h
    · rename_i hn
      rw [if_neg hn]
      unfold nameT at h ⊢
      split at h
      · cases h
      · rename_i h1; rw [if_neg h1]; exact h
  · rw [headT_u] at h ⊢
    split at h
    · rename_i hn; rw [if_pos hn]; exact h
    · rename_i hn
      rw [if_neg hn]
      unfold numT at h ⊢
      split at h
      · cases h
      · rename_i h1; rw [if_neg h1]; exact h
def Ex.wk (x : Ex) (z : Int) : Ex := { x with kids := z }
def Ex.wn (x : Ex) (z : Int) : Ex := { x with n := z }
theorem wk_self {x : Ex} {z : Int} (h : x.kids = z) : x.wk z = x := by subst h; rfl
theorem dec64 {x : Ex} {k : Nat} : decide (k = 64) = decide (((x.wk (k : Int)).kids) = 64) := by
  rw [Bool.eq_iff_iff, decide_eq_true_iff, decide_eq_true_iff]
  show k = 64 ↔ (k : Int) = 64
  omega
theorem exs_set {L M : List Ex} {x : Ex} {z : Int} : (exs (L ++ x :: M)).set (L.length * 7 + 5) (.int .i64 z) = exs (L ++ x.wk z :: M) := by
  rw [exs_app, exs_app, List.set_append_right _ _ (by rw [exs_len]; omega), exs_len, show L.length * 7 + 5 - L.length * 7 = 5 by omega]
  rfl
theorem exs_setN {L M : List Ex} {x : Ex} {z : Int} : (exs (L ++ x :: M)).set (L.length * 7 + 1) (.int .i64 z) = exs (L ++ x.wn z :: M) := by
  rw [exs_app, exs_app, List.set_append_right _ _ (by rw [exs_len]; omega), exs_len, show L.length * 7 + 1 - L.length * 7 = 1 by omega]
  rfl
theorem exs_kids {L M : List Ex} {x : Ex} : (exs (L ++ x :: M))[L.length * 7 + 5]? = some (.int .i64 x.kids) := by
  rw [exs_app, List.getElem?_append_right (by rw [exs_len]; omega), exs_len, show L.length * 7 + 5 - L.length * 7 = 5 by omega]
  rfl
abbrev RowE (w : World) (B0 : Nat) (v : Value) (L : List Ex) : Prop := w.ownsRow B0 30 7 v L.length (exs L)
/-- what expr does, as told by E, at the depth 'deep', from the token m on -/
def ESpec (B0 p : Nat) (lv : Value) (T : List Tk) (fin : Nat) (E : Nat → Ex → Pr (List Ex)) (deep m : Nat) : Prop :=
  ∀ (at_ : Nat) (x : Ex) (L : List Ex) (v : Value) (w0 : World), m ≤ at_ → x.kids = 0 → Psr w0 B0 p lv T fin at_ → RowE w0 B0 v L → L.length ≤ at_ →
    CaX Try.prog 37 #[.pointer (some ⟨p, 0, none⟩), v, .agg (exV (plE T x)).toArray, .int .i64 (deep : Int)] w0
      (fun v' w' => ∃ N j, E at_ x = .ok N j ∧ RowE w' B0 v' (L ++ N.map (plE T)) ∧ L.length + N.length ≤ j ∧ at_ < j ∧ (∀ k, v'.ownBlock = some k → v.ownBlock = some k ∨ w0.heap.size ≤ k) ∧ Psr w' B0 p lv T fin j ∧ Only (fun k => k = p ∨ v.ownBlock = some k) w0 w')
      (fun ch w' => ∃ e j, E at_ x = .bad e j ∧ ch = [pan e (plc T fin j)] ∧ Only (fun k => k = p ∨ v.ownBlock = some k) w0 w')
/-- what stands ahead of the colon is read by g -/
def HSpec (B0 p c4 : Nat) (lv : Value) (T : List Tk) (fin : Nat) (u : Bool) (g : FuncId) : Prop :=
  ∀ (bx at_ : Nat) (full : Bool) (x : Ex) (w0 : World), Psr w0 B0 p lv T fin at_ → w0.heap[c4]? = some (.cells #[.pointer (some ⟨p, 0, none⟩)] 75 (0, 0)) → w0.heap[bx]? = some (.cells (exV x).toArray 30 (0, 0)) → ¬ bx = p → ¬ c4 = p → p < bx →
    CaX Try.prog g #[.pointer (some ⟨bx, 0, none⟩), .bool full, .pointer (some ⟨c4, 0, none⟩)] w0 (fun _ w' => ∃ y, headT T u full at_ x = .ok y (at_ + 1) ∧ w'.heap[bx]? = some (.cells (exV y).toArray 30 (0, 0)) ∧ Psr w' B0 p lv T fin (at_ + 1) ∧ Only (fun k => k = p ∨ k = bx) w0 w') (fun ch w' => ∃ e j, headT T u full at_ x = .bad e j ∧ ch = [pan e (plc T fin j)] ∧ Ext w0 w')
theorem plE_at {T : List Tk} {y : Ex} {i : Nat} (h : y.at_ = ((tkA T i).at_ : Int)) : plE T { y with at_ := (i : Int) } = y := by
  unfold plE
  rw [if_neg (by show ¬ (i : Int) < 0; omega)]
  cases y
  simp only at h
  simp [h]
theorem rowsT_s {E : Nat → Ex → Pr (List Ex)} {T : List Tk} {u : Bool} {g i k : Nat} : rowsT E T u (g + 1) i k = ((headT T u (decide (k = 64)) i { ex0 with at_ := i }).bind fun x i => (wantT T i 3 [58]).bind fun _ i => (E i x).bind fun N i =>
    if isT (tkA T i) 3 [44] = true then (rowsT E T u g (i + 1) (k + 1)).bind fun r i => .ok (N ++ r.1, r.2) i
    else (wantT T i 3 [125]).bind fun _ i => .ok (N, k + 1) i) := rfl
theorem Pr.bind_ok {α β : Type} {a : α} {i : Nat} {f : α → Nat → Pr β} : (Pr.ok a i).bind f = f a i := rfl
theorem Pr.bind_bad {α β : Type} {e i : Nat} {f : α → Nat → Pr β} : (Pr.bad e i : Pr α).bind f = .bad e i := rfl

set_option maxHeartbeats 2000000 in
theorem rows_spec (B0 p c4 : Nat) (lv : Value) (T : List Tk) (fin : Nat) (u : Bool) (g : FuncId) (hg : ∀ args w, (callFunc g args).run Try.prog w = .ok (.enter g args) w) (hH : HSpec B0 p c4 lv T fin u g) (E : Nat → Ex → Pr (List Ex)) (deep f m : Nat) (hE : ESpec B0 p lv T fin E (deep + 1) m) (hdeep : deep ≤ 16) (L : List Ex) (x : Ex) (hxk : x.kids = 0) (v : Value) (at_ : Nat) (w0 : World) (h : Psr w0 B0 p lv T fin at_) (hc4 : w0.heap[c4]? = some (.cells #[.pointer (some ⟨p, 0, none⟩)] 75 (0, 0))) (hcp : ¬ c4 = p) (hrow : RowE w0 B0 v (L ++ [plE T x])) (hl : L.length + 1 ≤ at_) (hm : m ≤ at_ + 1) (hf : T.length + 2 ≤ f + (at_ + 1)) : CaX Try.prog 59 #[.pointer (some ⟨p, 0, none⟩), v, .int .i64 (L.length : Int), .int .i64 (deep : Int), .int .i64 64, .func (.func g) #[] #[.pointer (some ⟨c4, 0, none⟩)]] w0 (fun v' w' => ∃ (N : List Ex) (k j : Nat), ((wantT T at_ 3 [123]).bind fun _ i => rowsT E T u f i 0) = .ok (N, k) j ∧ RowE w' B0 v' (L ++ (plE T x).wk (k : Int) :: N.map (plE T)) ∧ L.length + 1 + N.length ≤ j ∧ at_ < j ∧ (∀ k, v'.ownBlock = some k → v.ownBlock = some k ∨ w0.heap.size ≤ k) ∧ Psr w' B0 p lv T fin j ∧ Only (fun k => k = p ∨ v.ownBlock = some k) w0 w') (fun ch w' => ∃ e j, ((wantT T at_ 3 [123]).bind fun _ i => rowsT E T u f i 0) = .bad e j ∧ ch = [pan e (plc T fin j)] ∧ Only (fun k => k = p ∨ v.ownBlock = some k) w0 w') := by
  have hx : Ext w0 w0 := Only.refl _ _
  have hsm := h.small
  have hpl := (Array.getElem?_eq_some_iff.1 h.cell).1
  have hvp : ¬ v.ownBlock = some p := own_off hrow h.cell (by decide)
  have hvc : ¬ v.ownBlock = some c4 := own_off hrow hc4 (by decide)
  have hvl : ∀ k, v.ownBlock = some k → k < w0.heap.size := fun k hk => (hrow.lt k hk).2
  have hpk : (plE T x).kids = 0 := by unfold plE; split <;> exact hxk
  refine CaX.of Try.func59 Try.ntmps59 rfl rfl ?_
  refine W.seq ?_
  refine W.region ?_
  refine WL.c rfl (o_ash (by first | exact (show _ = Value.slice _ _ _ from rfl) | exact rfl) ?_)
  refine WL.nil ?_
  refine W.seq ?_
  refine W.region ?_
  refine WL.c rfl (o_mvh (by first | exact (show _ = Value.pointer _ from rfl) | exact rfl) ?_)
  refine WL.cx rfl (ox_call Try.call36 (lc rfl (lc rfl ln)) ((mark_spec B0 p lv T fin at_ _ h [123]).mono ?_ (fun ch w' hh => by obtain ⟨e, j, h1, h2, h3⟩ := hh; exact ⟨e, j, by rw [h1]; rfl, h2, h3.mono (fun _ _ h => h.elim)⟩)))
  rintro v15 w15 ⟨hw, h', ho⟩
  replace h := h'
  have hcl : ¬ c4 = p := hcp
  replace hc4 := ho.blk hc4 hcp
  replace hrow := own_only hrow ho (fun k hk he => by subst he; exact hvp hk)
  have hq : Only (fun k => k = p ∨ v.ownBlock = some k) w0 w15 := ho.mono (fun _ _ h => .inl h)
  rw [hw]
  simp only [Pr.bind_ok]
  refine WL.nil ?_
  refine W.seq ?_
  refine W.block ?_
  refine W.loopN (fun gg e w => ∃ (i k : Nat) (N : List Ex) (v' : Value), e 0 = .pointer (some ⟨p, 0, none⟩) ∧ e 1 = v' ∧ e 2 = .int .i64 (L.length : Int) ∧ e 3 = .int .i64 (deep : Int) ∧ e 4 = .int .i64 64 ∧ e 5 = .func (.func g) #[] #[.pointer (some ⟨c4, 0, none⟩)] ∧ Psr w B0 p lv T fin i ∧ RowE w B0 v' (L ++ (plE T x).wk (k : Int) :: N.map (plE T)) ∧ L.length + 1 + N.length ≤ i ∧ k ≤ i ∧ m ≤ i ∧ at_ < i ∧ T.length + 2 ≤ gg + i ∧ rowsT E T u f (at_ + 1) 0 = ((rowsT E T u gg i k).bind fun r i => .ok (N ++ r.1, r.2) i) ∧ (∀ k, v'.ownBlock = some k → v.ownBlock = some k ∨ w0.heap.size ≤ k) ∧ Only (fun k => k = p ∨ v.ownBlock = some k) w0 w ∧ w.heap[c4]? = some (.cells #[.pointer (some ⟨p, 0, none⟩)] 75 (0, 0))) ?_ ?_
  · refine ⟨f, at_ + 1, 0, [], v, rfl, rfl, rfl, rfl, rfl, rfl, h, ?_, by simp; omega, by omega, by omega, by omega, hf, ?_, fun k hk => .inl hk, hq, hc4⟩
    · rw [show ((0 : Nat) : Int) = 0 from rfl, wk_self hpk]; exact hrow
    · cases rowsT E T u f (at_ + 1) 0 <;> simp [Pr.bind]
  rintro gg e w ⟨i, k, N, v', h0, h1, h2, h3, h4, h5, h, hrow, hNl, hki, hmi, hati, hfi, hres, hvb, hq, hc4⟩
  obtain ⟨gg, rfl⟩ : ∃ g', gg = g' + 1 := ⟨gg - 1, by have := h.le; omega⟩
  have hpw := (Array.getElem?_eq_some_iff.1 h.cell).1
  have hcw := (Array.getElem?_eq_some_iff.1 hc4).1
  obtain ⟨gv, cap, rfl, hgb⟩ := own_some hrow (by simp only [List.length_append, List.length_cons]; omega)
  refine W.block ?_
  refine W.seq ?_
  refine W.region ?_
  refine WL.c rfl (o_mvh h0 ?_)
  refine WL.c rfl (o_call Try.call34 (lc rfl ln) ((place_spec B0 p lv T fin i _ h).mono ?_))
  rintro v17 w17 ⟨rfl, hx17⟩
  replace h := h.ext hx17
  replace hrow := own_ext hrow hx17
  replace hc4 := hx17.blk hc4 (fun h => h)
  replace hq := hq.ext hx17
  have hq17 : w0.heap.size ≤ w17.heap.size := hq.size
  have hgv17 : gv < w17.heap.size := (hrow.lt gv rfl).2
  refine WL.c rfl (o_bldC (cs := [(.int .i64 0), (.int .i64 0), (.string ⟨#[]⟩), (.string ⟨#[]⟩), (.int .i64 0), (.int .i64 0), _]) TI30 (Sizes.cons TI3 (Sizes.cons TI3 (Sizes.cons TI9 (Sizes.cons TI9 (Sizes.cons TI3 (Sizes.cons TI3 (Sizes.cons TI3 Sizes.nil))))))) rfl (lcp (show _ = Value.int _ _ from rfl) lnp) rfl rfl ?_)
  refine WL.c rfl (o_alB TI30 ?_)
  intro wa hCa hxa hsa
  refine WL.u (o_stA TI30 rfl (show _ = Value.agg (exV { ex0 with at_ := (plc T fin i : Int) }).toArray from rfl) rfl rfl hCa rfl ?_)
  intro wb hB hob hsb
  have hxb := Ext.own hxa (Nat.le_refl _) hob
  clear hCa hob hsb
  replace h := h.ext hxb
  replace hrow := own_ext hrow hxb
  replace hc4 := hxb.blk hc4 (fun h => h)
  replace hq := hq.ext hxb
  have h00 := h
  obtain ⟨bx, hbx⟩ : ∃ bx, bx = w17.heap.size := ⟨_, rfl⟩
  rw [← hbx] at hB ⊢
  have hpb : p < bx := by have := hx17.size; omega
  have hcb : c4 < bx := by have := hx17.size; omega
  have hBl := (Array.getElem?_eq_some_iff.1 hB).1
  refine WL.nil ?_
  refine W.seq ?_
  refine W.region ?_
  refine WL.c rfl (o_mvh h5 ?_)
  refine WL.c rfl (o_mvh h1 ?_)
  refine WL.c rfl (o_mvh h2 ?_)
  refine WL.c rfl (o_ixB (i := L.length) TI38 TI30 (show _ = Value.slice (some ⟨gv, 0, none⟩) (L ++ (plE T x).wk (k : Int) :: N.map (plE T)).length cap from rfl) rfl (by simp only [List.length_append, List.length_cons]; omega) ?_)
  refine WL.c rfl (o_fa 5 TI30 rfl TI3 rfl rfl ?_)
  refine WL.c rfl (o_ld TI3 rfl rfl (own_cell hrow (by rw [Nat.zero_add]; exact exs_kids)) ?_)
  refine WL.c rfl (o_mvh h4 ?_)
  refine WL.c rfl (o_eq rfl rfl ?_)
  refine WL.cx rfl (ox_callC rfl hg (lc rfl (lc rfl ln)) ((hH bx i (decide ((((plE T x).wk (k : Int)).kids) = 64)) { ex0 with at_ := (plc T fin i : Int) } _ h hc4 hB (by omega) hcp hpb).mono ?_ (fun ch w' hh => by obtain ⟨e, j, h1, h2, h3⟩ := hh; exact ⟨e, j, by rw [hres, rowsT_s, dec64 (x := plE T x), headT_bad _ h1]; rfl, h2, hq.ext h3⟩)))
  rintro v27 w27 ⟨y, hy, hB', h', ho⟩
  replace h := h'
  clear h' hB
  have h0c := h00.cell
  obtain ⟨hya, hil, hyk, -, hy2⟩ := headT_at (i : Int) hy
  have hpy : plE T { y with at_ := (i : Int) } = y := plE_at (by rw [hya, plc_lt hil])
  refine WL.nil ?_
  refine W.seq ?_
  refine W.region ?_
  refine WL.c rfl (o_mvh h0 ?_)
  refine WL.cx rfl (ox_call Try.call36 (lc rfl (lc rfl ln)) ((mark_spec B0 p lv T fin (i + 1) _ h [58]).mono ?_ (fun ch w' hh => by obtain ⟨e, j, h1, h2, h3⟩ := hh; exact ⟨e, j, by rw [hres, rowsT_s, dec64 (x := plE T x), hy2, Pr.bind_ok, h1]; rfl, h2, (hq.trans' ho (fun _ h => h) (fun k hk hF => hF.imp id (fun he => by omega))).ext h3⟩)))
  rintro v29 w29 ⟨hw2, h', ho2⟩
  replace h := h'
  replace hB := ho2.blk hB' (fun he => by omega)
  have hob : Only (fun k => k = p ∨ k = bx) wb w29 := ho.trans (ho2.mono (fun _ _ h => .inl h))
  have hgb2 : ¬ gv = bx := by omega
  have hgp : ¬ gv = p := fun he => own_off hrow h0c (by decide) (by rw [he]; rfl)
  have hgc : ¬ gv = c4 := fun he => own_off hrow hc4 (by decide) (by rw [he]; rfl)
  replace hrow := own_only hrow hob (fun k hk hF => by obtain rfl := ob hk; rcases hF with hF | hF; exact hgp hF; exact hgb2 hF)
  replace hc4 := hob.blk hc4 (fun hF => by rcases hF with hF | hF; exact hcp hF; omega)
  replace hq := hq.trans' hob (fun _ h => h) (fun k hk hF => hF.imp id (fun he => by omega))
  refine WL.nil ?_
  refine W.seq ?_
  refine W.region ?_
  refine WL.c rfl (o_mvh h0 ?_)
  refine WL.c rfl (o_mvh h1 ?_)
  refine WL.c rfl (o_ldA TI30 rfl rfl (show Cells _ bx 0 (exV y) from Cells.of hB 0 _ (by simp)) rfl ?_)
  refine WL.c rfl (o_mvh h3 ?_)
  refine WL.c rfl (o_addi rfl rfl (by omega) ?_)
  have hE2 := hE (i + 1 + 1) { y with at_ := (i : Int) } (L ++ (plE T x).wk (k : Int) :: N.map (plE T)) _ _ (by omega) hyk h hrow (by simp only [List.length_append, List.length_cons, List.length_map]; omega)
  rw [hpy, show ((deep + 1 : Nat) : Int) = (deep : Int) + 1 by omega] at hE2
  refine WL.cx rfl (ox_call Try.call37 (lc rfl (lc rfl (lc rfl (lc rfl ln)))) ((hE2).mono ?_ (fun ch w' hh => by obtain ⟨e, j, h1, h2, h3⟩ := hh; exact ⟨e, j, by rw [hres, rowsT_s, dec64 (x := plE T x), hy2, Pr.bind_ok, hw2, Pr.bind_ok, h1]; rfl, h2, hq.trans' h3 (fun _ h => h) (fun k hk hF => hF.imp id (fun he => (hvb k he).resolve_right (by omega)))⟩)))
  rintro v35 w35 ⟨M, j, hM, hrow', hMl, hij, hvb', h', ho3⟩
  have hsz0 := hq.size
  clear hrow h
  replace h := h'
  have erow : (L ++ (plE T x).wk (k : Int) :: N.map (plE T)) ++ M.map (plE T) = L ++ (plE T x).wk (k : Int) :: (N ++ M).map (plE T) := by simp
  rw [erow] at hrow'
  replace hc4 := ho3.blk hc4 (fun hF => by rcases hF with hF | hF; exact hcp hF; exact hgc (ob hF))
  replace hq := hq.trans' ho3 (fun _ h => h) (fun k hk hF => hF.imp id (fun he => (hvb k he).resolve_right (by omega)))
  have hvbn : ∀ k, v35.ownBlock = some k → v.ownBlock = some k ∨ w0.heap.size ≤ k := fun k hk => by
    rcases hvb' k hk with h1 | h1
    · exact hvb k h1
    · exact .inr (by omega)
  clear hvb'
  have hjl := h.le
  simp only [List.length_append, List.length_cons, List.length_map] at hMl
  obtain ⟨g2, cap2, rfl, hgb3⟩ := own_some hrow' (by simp only [List.length_append, List.length_cons]; omega)
  refine WL.c rfl (o_ash (by first | exact (show _ = Value.slice _ _ _ from rfl) | exact rfl) ?_)
  refine WL.nil ?_
  refine W.seq ?_
  refine W.region ?_
  refine WL.c rfl (o_mvh (by first | exact (show _ = Value.slice _ _ _ from rfl) | exact rfl) ?_)
  refine WL.c rfl (o_mvh h2 ?_)
  refine WL.c rfl (o_ixB (i := L.length) TI38 TI30 (show _ = Value.slice (some ⟨g2, 0, none⟩) (L ++ (plE T x).wk (k : Int) :: (N ++ M).map (plE T)).length cap2 from rfl) rfl (by simp only [List.length_append, List.length_cons]; omega) ?_)
  refine WL.c rfl (o_fa 5 TI30 rfl TI3 rfl rfl ?_)
  refine WL.c rfl (o_ld TI3 rfl rfl (show _ = some (Value.int .i64 (k : Int)) from own_cell hrow' (by rw [Nat.zero_add]; exact exs_kids)) ?_)
  refine WL.c rfl (o_addi rfl rfl (by omega) ?_)
  refine WL.c rfl (o_ixB (i := L.length) TI38 TI30 (show _ = Value.slice (some ⟨g2, 0, none⟩) (L ++ (plE T x).wk (k : Int) :: (N ++ M).map (plE T)).length cap2 from rfl) rfl (by simp only [List.length_append, List.length_cons]; omega) ?_)
  refine WL.c rfl (o_fa 5 TI30 rfl TI3 rfl rfl ?_)
  refine WL.u (o_stRj (i := L.length * 7 + 5) TI3 rfl (by omega) (show _ = Value.int .i64 ((k : Int) + 1) from rfl) rfl hrow' rfl (by simp only [List.length_append, List.length_cons]; omega) ?_)
  intro w43 hrow2 ho43 hs43
  rw [exs_set] at hrow2
  replace hrow : RowE w43 B0 (.slice (some ⟨g2, 0, none⟩) (L ++ (plE T x).wk (k : Int) :: (N ++ M).map (plE T)).length cap2) (L ++ (plE T x).wk ((k + 1 : Nat) : Int) :: (N ++ M).map (plE T)) := by
    show World.ownsRow _ _ _ _ _ (L ++ (plE T x).wk ((k + 1 : Nat) : Int) :: (N ++ M).map (plE T)).length _
    rw [show (L ++ (plE T x).wk ((k + 1 : Nat) : Int) :: (N ++ M).map (plE T)).length = (L ++ (plE T x).wk (k : Int) :: (N ++ M).map (plE T)).length by simp only [List.length_append, List.length_cons]]
    exact hrow2
  have hg2p : ¬ g2 = p := fun he => own_off hrow' h.cell (by decide) (by rw [he]; rfl)
  have hg2c : ¬ g2 = c4 := fun he => own_off hrow' hc4 (by decide) (by rw [he]; rfl)
  have hg2r : p < g2 := by have := (hrow'.lt g2 rfl).1; have := h.hp; omega
  clear hrow' hrow2
  replace h := h.keep ho43 (fun k hk => by obtain rfl := ob hk; exact hg2r)
  replace hc4 := ho43.blk hc4 (fun hk => hg2c (ob hk))
  replace hq := hq.trans' ho43 (fun _ h => h) (fun k hk hF => .inr ((hvbn k hF).resolve_right (by omega)))
  refine WL.nil ?_
  refine W.seq ?_
  refine W.seq ?_
  refine W.region ?_
  refine WL.c rfl (o_mvh h0 ?_)
  refine WL.c rfl (o_call Try.call31 (lc rfl (lc rfl (lc rfl ln))) ((is_spec B0 p lv T fin j _ h 3 [44]).mono ?_))
  rintro v45 w45 ⟨rfl, hx45⟩
  replace h := h.ext hx45
  replace hrow := own_ext hrow hx45
  replace hc4 := hx45.blk hc4 (fun h => h)
  replace hq := hq.ext hx45
  refine WL.c rfl (o_not' rfl ?_)
  refine WL.nil ?_
  refine W.cond rfl (fun c46 => ?_) (fun c46 => ?_)
  · try simp only [decide_eq_true_eq, decide_eq_false_iff_not, Bool.not_eq_true', Bool.not_eq_false', Bool.and_eq_true, Bool.or_eq_true, Bool.and_eq_false_iff, Bool.or_eq_false_iff] at c46
    have hcm : ¬ isT (tkA T j) 3 [44] = true := by simp_all
    refine W.exit ?_
    refine W.seq ?_
    refine W.region ?_
    refine WL.c rfl (o_mvh h0 ?_)
    refine WL.cx rfl (ox_call Try.call36 (lc rfl (lc rfl ln)) ((mark_spec B0 p lv T fin j _ h [125]).mono ?_ (fun ch w' hh => by obtain ⟨e, j, h1, h2, h3⟩ := hh; exact ⟨e, j, by rw [hres, rowsT_s, dec64 (x := plE T x), hy2, Pr.bind_ok, hw2, Pr.bind_ok, hM, Pr.bind_ok, if_neg hcm, h1]; rfl, h2, hq.ext h3⟩)))
    rintro v55 w55 ⟨hw3, h', ho55⟩
    replace h := h'
    replace hrow := own_only hrow ho55 (fun k hk he => by obtain rfl := ob hk; exact hg2p he)
    replace hq := hq.trans' ho55 (fun _ h => h) (fun _ _ h => .inl h)
    refine WL.nil ?_
    refine W.seq ?_
    refine W.region ?_
    refine WL.c rfl (o_mvh (by first | exact (show _ = Value.slice _ _ _ from rfl) | exact rfl) ?_)
    refine WL.c rfl (o_ash (by first | exact (show _ = Value.slice _ _ _ from rfl) | exact rfl) ?_)
    refine WL.nil ?_
    refine W.ret ?_
    refine ret1v rfl rfl ?_
    refine ⟨N ++ M, k + 1, j + 1, ?_, hrow, by rw [List.length_append]; omega, by omega, hvbn, h, hq⟩
    rw [hres, rowsT_s, dec64 (x := plE T x), hy2, Pr.bind_ok, hw2, Pr.bind_ok, hM, Pr.bind_ok, if_neg hcm, hw3]; rfl
  · try simp only [decide_eq_true_eq, decide_eq_false_iff_not, Bool.not_eq_true', Bool.not_eq_false', Bool.and_eq_true, Bool.or_eq_true, Bool.and_eq_false_iff, Bool.or_eq_false_iff] at c46
    have hcm : isT (tkA T j) 3 [44] = true := by simp_all
    have hjl2 := isT_lt (by decide) hcm
    refine W.skip ?_
    refine W.region ?_
    refine WL.c rfl (o_mvh h0 ?_)
    refine WL.c rfl (o_nil rfl ?_)
    refine WL.c rfl (o_fa 1 TI77 rfl TI3 rfl rfl ?_)
    refine WL.c rfl (o_ld TI3 rfl rfl (cell_of h.cell rfl) ?_)
    refine WL.c rfl (o_addi rfl rfl (by omega) ?_)
    refine WL.c rfl (o_nil rfl ?_)
    refine WL.c rfl (o_fa 1 TI77 rfl TI3 rfl rfl ?_)
    refine WL.u (o_stB TI3 rfl (show _ = Value.int _ _ from rfl) rfl h.cell (show 1 < 3 by decide) ?_)
    intro w53 hBp hop hsp
    replace h := h.move (a2 := j + 1) hBp hop (by omega)
    replace hrow := own_only hrow hop (fun k hk he => by obtain rfl := ob hk; exact hg2p he)
    replace hc4 := hop.blk hc4 hcp
    replace hq := hq.trans' hop (fun _ h => h) (fun _ _ h => .inl h)
    refine WL.nil ?_
    refine ⟨gg, by omega, j + 1, k + 1, N ++ M, _, h0, rfl, h2, h3, h4, h5, h, hrow, by rw [List.length_append]; omega, by omega, by omega, by omega, by omega, ?_, hvbn, hq, hc4⟩
    rw [hres, rowsT_s, dec64 (x := plE T x), hy2, Pr.bind_ok, hw2, Pr.bind_ok, hM, Pr.bind_ok, if_pos hcm]
    cases rowsT E T u gg (j + 1) (k + 1) <;> simp [Pr.bind]
end Go.Proofs.Ytcljkkfpcomdcaa
