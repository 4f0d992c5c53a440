/-
  Walks and lemmas. Written by program out of specs of mine.
-/
import Derived.WalkKit
import Derived.WalkSpells
import Derived.WalkLawsBesides
import Derived.Deep.Quiet
import Derived.StillTail
import Derived.StringKeys
import Derived.Laws.StructEq
import Derived.Laws.Externs
import Derived.Laws.Tables
import Derived.Scope
import Derived.Test.YtanimeifmicmoaaDoorProg
import Derived.Laws.AppendOwn
import Derived.Maps.AppendAt
import Derived.Recover
import Derived.Lib.Bytealg
import Derived.SizedLaws
import Derived.ChangeArms
import Derived.ChangeSlices
import Derived.Lib.Builder
import Derived.Lib.UnsafeStr
import Derived.Shelf.Strconv.Itoa0
import Derived.Shelf.Strconv.Itoa1
import Derived.Shelf.LaysM
import Derived.Shelf.Strconv.Itoa2
import Derived.Shelf.Strconv.Itoa3
import Derived.Test.YtanimeifmicmoaaDoorRows
import Derived.ProofKit
import Derived.OpenShut
import Derived.ShutString
import Derived.ChangeOld
import Derived.Below
import Derived.JoinedCond
import Derived.SliceStrings
import Derived.Test.YtanimeifmicmoaaDoorCards
import Derived.Test.YtanimeifmicmoaaDoorTie
import Derived.Deep.DeepHandedRow
import Derived.Lib.LaidTab
import Derived.Test.YtanimeifmicmoaaDoorKh5
set_option linter.unusedSimpArgs false
set_option linter.unusedVariables false
set_option maxRecDepth 100000
set_option linter.unusedSimpArgs false
set_option linter.unusedVariables false
set_option maxRecDepth 100000
namespace Go.Proofs.YtanimeifmicmoaaDoor
open Go Go.Vc Go.RowKit Go.Proofs

theorem cutA_one (xs : List UInt8) : ∀ t ∈ (cutA xs).1, ∃ h : t.at_ < xs.length, oneL xs t.at_ h = (0, t) := by
  unfold cutA
  split
  · intro t ht; cases ht
  · split
    · exact (cutL_asc xs 0).2
    · intro t ht; cases ht
theorem numF_lt : ∀ (xs : List UInt8) (n : Nat), (∀ c ∈ xs, digB c = true) → (numF n xs).2 = 0 → (numF n xs).1 < (n + 1) * 10 ^ xs.length
  | [], n, _, _ => by show n < _; simp
  | c :: cs, n, hd, h => by
    unfold numF at h ⊢
    split
    · rename_i hh; rw [if_pos hh] at h; cases h
    · rename_i hh
      rw [if_neg hh] at h
      have h1 := numF_lt cs _ (fun x hx => hd x (List.mem_cons_of_mem _ hx)) h
      have h2 := hd c (List.mem_cons_self ..)
      simp only [digB, Bool.and_eq_true, decide_eq_true_eq] at h2
      refine Nat.lt_of_lt_of_le h1 ?_
      rw [List.length_cons, Nat.pow_succ, Nat.mul_comm (10 ^ cs.length) 10, ← Nat.mul_assoc]
      exact Nat.mul_le_mul_right _ (by omega)
/-- the place at which token i begins, or the text ends -/
structure Wid (T : List Tk) (fin : Nat) : Prop where
  len : ∀ i, i < T.length → (tkA T i).kind ≠ 2 → plc T fin i + (tkA T i).text.length ≤ plc T fin (i + 1)
  num : ∀ i, i < T.length → (tkA T i).kind = 2 → plc T fin i + (digL (tkA T i).n).length ≤ plc T fin (i + 1)
  gap : ∀ i, i + 1 < T.length → (tkA T i).kind = 1 → (tkA T (i + 1)).kind = 1 → plc T fin i + (tkA T i).text.length + 1 ≤ plc T fin (i + 1)
theorem cut_wid (xs : List UInt8) : Wid (cutA xs).1 xs.length := by
  obtain ⟨hasc, htok⟩ := cutA_toks xs
  have hone := cutA_one xs
  have hnx : ∀ i, i < (cutA xs).1.length → (tkA (cutA xs).1 i).fin ≤ plc (cutA xs).1 xs.length (i + 1) := fun i hi => by
    unfold plc
    split
    · rename_i h1; exact (cut_lt (Nat.lt_succ_self i) h1).1
    · exact (htok _ (by rw [tkA_lt hi]; exact List.getElem_mem hi)).le
  have hmem : ∀ i, i < (cutA xs).1.length → tkA (cutA xs).1 i ∈ (cutA xs).1 := fun i hi => by rw [tkA_lt hi]; exact List.getElem_mem hi
  have htx : ∀ i, i < (cutA xs).1.length → (tkA (cutA xs).1 i).kind ≠ 2 → (tkA (cutA xs).1 i).at_ + (tkA (cutA xs).1 i).text.length = (tkA (cutA xs).1 i).fin := fun i hi hk => by
    have h1 := htok _ (hmem i hi)
    rw [h1.text hk, sub_length h1.le]
    have := h1.lt
    omega
  refine ⟨fun i hi hk => ?_, fun i hi hk => ?_, fun i hi hk1 hk2 => ?_⟩
  · rw [plc_lt hi, htx i hi hk]; exact hnx i hi
  · rw [plc_lt hi]
    refine Nat.le_trans ?_ (hnx i hi)
    have h1 := htok _ (hmem i hi)
    obtain ⟨hx, ho⟩ := hone _ (hmem i hi)
    generalize tkA (cutA xs).1 i = tt at hk hx ho h1 ⊢
    obtain ⟨k, tx, n, a, f⟩ := tt
    simp only at hk hx ho ⊢
    have hlt : a < f := h1.lt
    subst hk
    unfold oneL at ho
    split at ho
    · split at ho <;> simp at ho
    · split at ho
      · simp only [Prod.mk.injEq, Tk.mk.injEq] at ho
        obtain ⟨h0, -, -, hn, -, hf⟩ := ho
        have hlen : (sub xs a (runL digB xs a)).length = f - a := by rw [sub_length (by rw [hf]; exact h1.le), hf]
        have hd : ∀ c ∈ sub xs a (runL digB xs a), digB c = true := by rw [sub_run]; exact takeWhile_all _ _
        have h2 : n < 10 ^ (f - a) := by
          unfold numL at h0 hn
          split at h0
          · cases h0
          · rename_i hh
            rw [if_neg hh] at hn
            have := numF_lt _ 0 hd h0
            rw [hlen, hn] at this
            omega
        have := digL_len (f - a) n h2 (by omega)
        omega
      · split at ho <;> simp at ho
  · have hi0 : i < (cutA xs).1.length := by omega
    have e1 := htx i hi0 (by omega)
    have e2 := (cut_lt (Nat.lt_succ_self i) hi).1
    rw [plc_lt hi0, plc_lt hi, e1]
    have hw : ∀ t : Tk, t.kind = 1 → (h : t.at_ < xs.length) → oneL xs t.at_ h = (0, t) → letB xs[t.at_] = true ∧ runL goeB xs t.at_ = t.fin := by
      intro t ht h ho
      obtain ⟨k, tx, n, a, f⟩ := t
      simp only at ht h ho ⊢
      subst ht
      unfold oneL at ho
      split at ho
      · rename_i hl
        split at ho
        · simp at ho
        · simp only [Prod.mk.injEq, Tk.mk.injEq] at ho
          exact ⟨hl, ho.2.2.2.2.2⟩
      · split at ho
        · simp at ho
        · split at ho <;> simp at ho
    obtain ⟨hx1, ho1⟩ := hone _ (hmem i hi0)
    obtain ⟨hx2, ho2⟩ := hone _ (hmem (i + 1) hi)
    obtain ⟨-, hr⟩ := hw _ hk1 hx1 ho1
    obtain ⟨hl, -⟩ := hw _ hk2 hx2 ho2
    rcases Nat.lt_or_ge (tkA (cutA xs).1 i).fin (tkA (cutA xs).1 (i + 1)).at_ with h | h
    · exact h
    · exfalso
      have he : (tkA (cutA xs).1 (i + 1)).at_ = runL goeB xs (tkA (cutA xs).1 i).at_ := by rw [hr]; exact Nat.le_antisymm h e2
      have h3 := runL_stopped (p := goeB) (xs := xs) (tkA (cutA xs).1 i).at_ (by omega) (by rw [← he]; exact hx2)
      have h4 : goeB xs[(tkA (cutA xs).1 (i + 1)).at_] = true := by unfold goeB; rw [hl]; rfl
      simp only [he] at h4
      rw [h3] at h4
      cases h4
theorem Wid.mark {T : List Tk} {fin : Nat} (h : Wid T fin) {i : Nat} {s : List UInt8} (ht : isT (tkA T i) 3 s = true) : plc T fin i + s.length ≤ plc T fin (i + 1) := by
  have hi := isT_lt (by decide) ht
  simp only [isT, Bool.and_eq_true, decide_eq_true_eq] at ht
  rw [← ht.2]
  exact h.len i hi (by omega)
theorem bgnT_kind {t : Tk} (h : bgnT t = true) : t.kind = 1 := by
  unfold bgnT at h
  simp only [Bool.and_eq_true, decide_eq_true_eq] at h
  exact h.1
theorem Wid.word {T : List Tk} {fin : Nat} (h : Wid T fin) {i : Nat} (ht : (tkA T i).kind = 1) : plc T fin i + (tkA T i).text.length ≤ plc T fin (i + 1) :=
  h.len i (tkA_kind (by decide) ht) (by omega)
theorem Wid.head {T : List Tk} {fin : Nat} (h : Wid T fin) {i : Nat} {u : Bool} (hh : hdOk T u i) : plc T fin i + (if !u then (hdE T u i).label else digL (hdE T u i).tag.toNat).length ≤ plc T fin (i + 1) := by
  cases u
  · have h1 : nmT (tkA T i) = true := hh
    unfold nmT at h1
    simp only [Bool.and_eq_true, decide_eq_true_eq] at h1
    exact h.word h1.1
  · have h1 : (tkA T i).kind = 2 := hh
    exact h.num i (tkA_kind (by decide) h1) h1
theorem atE_lt2 (i : Nat) (x : Ex) : (atE i x).label = x.label ∧ (atE i x).tag = x.tag := by unfold atE; split <;> exact ⟨rfl, rfl⟩
theorem shR_more {s : Bool} {t : Tr} {ts : Trs} : ((Trs.cons t ts).shR s false).length = 1 + ((Trs.cons t ts).shR s true).length := by
  simp [Trs.shR]; omega
theorem leaf_len {s : List UInt8} {kn : Int × Int} (h : leafE s = some kn) {y : Ex} (hk : y.kind = kn.1) (hn : y.n = kn.2) (ks : Trs) : ((Tr.node y ks).sh).length ≤ s.length := by
  have d1 := digL_len 1 8 (by decide) (by decide)
  have d2 := digL_len 2 16 (by decide) (by decide)
  have d3 := digL_len 2 32 (by decide) (by decide)
  have d4 := digL_len 2 64 (by decide) (by decide)
  unfold leafE at h
  repeat' split at h
  all_goals first | (cases h; done) | skip
  all_goals
    cases h
    rename_i hs
    simp only at hk hn
    rw [hs]
    unfold Tr.sh
    simp only [hk, hn]
    simp
    try omega


theorem px_sh {T : List Tk} {fin : Nat} (hW : Wid T fin) {o : Option (Bool × Nat)} {deep i : Nat} {x : Ex} {N : List Ex} {n j : Nat} (h : PX T o deep i x N n j) :
    match o with
    | none => ∀ (t : Tr) (a : Int) (d : Nat) (r r0 : List Ex), t.wf a d → N.map bareE ++ r0 = t.flat.map bareE ++ r → r0 = r ∧ plc T fin i + t.sh.length ≤ plc T fin j ∧ t.top.label = x.label ∧ t.top.tag = x.tag
    | some (u, k) => k < n ∧ ∀ (ts : Trs) (a : Int) (d : Nat) (r r0 : List Ex), ts.wf a d → n = k + ts.len → N.map bareE ++ r0 = ts.flat.map bareE ++ r → r0 = r ∧ plc T fin i + (ts.shR (!u) true).length + 1 ≤ plc T fin j := by
  induction h with
  | @leaf deep i x kn hb hd hl =>
    rintro ⟨y, ks⟩ a d r r0 hw he
    simp only [List.map_cons, List.map_nil, List.cons_append, List.nil_append, Tr.flat, List.cons.injEq] at he
    obtain ⟨e1, e2⟩ := he
    obtain ⟨q1, q2, q3, q4, q5, q6⟩ := bareE_parts e1
    obtain ⟨-, -, hr, hk, -⟩ := hw
    obtain ⟨hok, -, -, -⟩ := rightB_iff hr
    have hll := leaf_len hl (y := y) q1.symm q2.symm ks
    have hk1 : kn.1 = 1 ∨ kn.1 = 2 ∨ kn.1 = 3 := by
      unfold leafE at hl
      repeat' split at hl
      all_goals first | (cases hl; done) | (cases hl; simp)
    have hk0 : y.kids = 0 := by
      have q1' : kn.1 = y.kind := q1
      rcases okB_cases hok with g | g | g | g | g <;> omega
    have hnil := trs_nil (ts := ks) (by omega)
    subst hnil
    have := hW.word (bgnT_kind hb)
    refine ⟨by simpa [Trs.flat] using e2, by omega, ?_, ?_⟩
    · exact (q4.symm.trans (atE_lt2 i x).1)
    · exact (q5.symm.trans (atE_lt2 i x).2)
  | @nm deep i x hb hd hl hv ho hu hs =>
    rintro ⟨y, ks⟩ a d r r0 hw he
    simp only [List.map_cons, List.map_nil, List.cons_append, List.nil_append, Tr.flat, List.cons.injEq] at he
    obtain ⟨e1, e2⟩ := he
    obtain ⟨q1, q2, q3, q4, q5, q6⟩ := bareE_parts e1
    obtain ⟨-, -, hr, hk, -⟩ := hw
    obtain ⟨hok, -, -, -⟩ := rightB_iff hr
    have q1' : (9 : Int) = y.kind := q1
    have hk0 : y.kids = 0 := by rcases okB_cases hok with g | g | g | g | g <;> omega
    have hnil := trs_nil (ts := ks) (by omega)
    subst hnil
    have := hW.word (bgnT_kind hb)
    have hsh : (Tr.node y .nil).sh = (tkA T i).text := by
      unfold Tr.sh
      rw [if_neg (by omega), if_neg (by omega), if_neg (by omega), if_pos (by omega)]
      exact q3.symm
    refine ⟨by simpa [Trs.flat] using e2, by rw [hsh]; omega, ?_, ?_⟩
    · exact (q4.symm.trans (atE_lt2 i x).1)
    · exact (q5.symm.trans (atE_lt2 i x).2)
  | @vec deep i x N j hb hd hl hv h1 hN h2 h3 h4 ih =>
    rintro ⟨y, ks⟩ a d r r0 hw he
    simp only [List.map_cons, List.cons_append, Tr.flat, List.cons.injEq] at he
    obtain ⟨e1, e2⟩ := he
    obtain ⟨q1, q2, q3, q4, q5, q6⟩ := bareE_parts e1
    obtain ⟨-, -, hr, hk, hks⟩ := hw
    have q6' : (1 : Int) = y.kids := q6
    obtain ⟨t1, rfl⟩ := trs_one (ts := ks) (by omega)
    simp only [Trs.flat, List.append_nil] at e2
    obtain ⟨g1, g2, -, -⟩ := ih t1 _ _ r r0 hks.1 e2
    have w0 := hW.word (bgnT_kind hb)
    have w1 : plc T fin (i + 1) + _ ≤ plc T fin (i + 2) := hW.mark h1
    have w2 := hW.mark h2
    have w3 : plc T fin (j + 1) + _ ≤ plc T fin (j + 2) := hW.num (j + 1) (tkA_kind (by decide) h3) h3
    have w4 : plc T fin (j + 2) + _ ≤ plc T fin (j + 3) := hW.mark h4
    have q2' : (((tkA T (j + 1)).n : Nat) : Int) = y.n := q2
    have hn : y.n.toNat = (tkA T (j + 1)).n := by omega
    have q1' : (if decide ((tkA T i).text = [108, 105, 115, 116]) = true then (5 : Int) else 4) = y.kind := q1
    have hsh : (Tr.node y (.cons t1 .nil)).sh.length = (tkA T i).text.length + 3 + t1.sh.length + (digL (tkA T (j + 1)).n).length := by
      obtain ⟨m1, hm1⟩ : ∃ m, m = t1.sh.length := ⟨_, rfl⟩
      rw [← hm1]
      by_cases hli : (tkA T i).text = [108, 105, 115, 116]
      · rw [if_pos (decide_eq_true hli)] at q1'
        unfold Tr.sh
        rw [if_neg (by omega), if_neg (by omega), if_neg (by omega), if_neg (by omega), if_pos (by omega), if_neg (by omega), hli, hn]
        simp [Trs.shK]; omega
      · rw [if_neg (by simpa using hli)] at q1'
        have hve := hv.resolve_right hli
        unfold Tr.sh
        rw [if_neg (by omega), if_neg (by omega), if_neg (by omega), if_neg (by omega), if_pos (by omega), if_pos (by omega), hve, hn]
        simp [Trs.shK]; omega
    simp only [List.length_cons, List.length_nil] at w1 w2 w4
    refine ⟨g1, by rw [hsh]; omega, q4.symm.trans (atE_lt2 i x).1, q5.symm.trans (atE_lt2 i x).2⟩
  | @opt deep i x N j hb hd hl ho h1 hN h2 ih =>
    rintro ⟨y, ks⟩ a d r r0 hw he
    simp only [List.map_cons, List.cons_append, Tr.flat, List.cons.injEq] at he
    obtain ⟨e1, e2⟩ := he
    obtain ⟨q1, q2, q3, q4, q5, q6⟩ := bareE_parts e1
    obtain ⟨-, -, hr, hk, hks⟩ := hw
    have q6' : (1 : Int) = y.kids := q6
    have q1' : (6 : Int) = y.kind := q1
    obtain ⟨t1, rfl⟩ := trs_one (ts := ks) (by omega)
    simp only [Trs.flat, List.append_nil] at e2
    obtain ⟨g1, g2, -, -⟩ := ih t1 _ _ r r0 hks.1 e2
    have w0 := hW.word (bgnT_kind hb)
    have w1 : plc T fin (i + 1) + _ ≤ plc T fin (i + 2) := hW.mark h1
    have w2 := hW.mark h2
    have hsh : (Tr.node y (.cons t1 .nil)).sh.length = (tkA T i).text.length + 2 + t1.sh.length := by
      obtain ⟨m1, hm1⟩ : ∃ m, m = t1.sh.length := ⟨_, rfl⟩
      rw [← hm1]
      unfold Tr.sh
      rw [if_neg (by omega), if_neg (by omega), if_neg (by omega), if_neg (by omega), if_neg (by omega), if_pos (by omega), ho]
      simp [Trs.shK]; omega
    simp only [List.length_cons, List.length_nil] at w1 w2
    refine ⟨g1, by rw [hsh]; omega, q4.symm.trans (atE_lt2 i x).1, q5.symm.trans (atE_lt2 i x).2⟩
  | @br deep i x u M n j hb hd hl hw1 h1 hM ih =>
    rintro ⟨y, ks⟩ a d r r0 hw he
    simp only [List.map_cons, List.cons_append, Tr.flat, List.cons.injEq] at he
    obtain ⟨e1, e2⟩ := he
    obtain ⟨q1, q2, q3, q4, q5, q6⟩ := bareE_parts e1
    obtain ⟨-, -, hr, hk, hks⟩ := hw
    have q6' : ((n : Nat) : Int) = y.kids := q6
    have q1' : (if u = true then (7 : Int) else 8) = y.kind := q1
    obtain ⟨g1, g2⟩ := ih.2 ks _ _ r r0 hks (by omega) e2
    have w0 := hW.word (bgnT_kind hb)
    have w1 : plc T fin (i + 1) + _ ≤ plc T fin (i + 2) := hW.mark h1
    have hsh : (Tr.node y ks).sh.length = (tkA T i).text.length + 2 + (ks.shR (!u) true).length := by
      cases u
      · rw [if_neg (by decide)] at q1' hw1
        unfold Tr.sh
        rw [if_neg (by omega), if_neg (by omega), if_neg (by omega), if_neg (by omega), if_neg (by omega), if_neg (by omega), if_pos (by omega), hw1, decide_eq_true (by omega)]
        simp; omega
      · rw [if_pos rfl] at q1' hw1
        unfold Tr.sh
        rw [if_neg (by omega), if_neg (by omega), if_neg (by omega), if_neg (by omega), if_neg (by omega), if_neg (by omega), if_neg (by omega), hw1, decide_eq_false (by omega)]
        simp; omega
    simp only [List.length_cons, List.length_nil] at w1
    refine ⟨g1, by rw [hsh]; omega, q4.symm.trans (atE_lt2 i x).1, q5.symm.trans (atE_lt2 i x).2⟩
  | @last deep i u k N j hk hh hc hN hm hr ih =>
    refine ⟨by omega, fun ts a d r r0 hw hn he => ?_⟩
    obtain ⟨t1, rfl⟩ := trs_one (ts := ts) (by omega)
    simp only [Trs.flat, List.append_nil] at he
    obtain ⟨g1, g2, g3, g4⟩ := ih t1 _ _ r r0 hw.1 he
    have w0 := hW.head hh
    have w1 : plc T fin (i + 1) + _ ≤ plc T fin (i + 2) := hW.mark hc
    have w2 := hW.mark hr
    simp only [List.length_cons, List.length_nil] at w1 w2
    refine ⟨g1, ?_⟩
    have hsh : ((Trs.cons t1 .nil).shR (!u) true).length = (if !u then (hdE T u i).label else digL (hdE T u i).tag.toNat).length + 1 + t1.sh.length := by
      simp only [Trs.shR, g3, g4]; simp; omega
    rw [hsh]; omega
  | @more deep i u k N M j n e hk hh hc hN hm hR ih ihR =>
    refine ⟨by have := ihR.1; omega, fun ts a d r r0 hw hn he => ?_⟩
    have hkn := ihR.1
    match ts, hw, hn, he with
    | .nil, _, hn, _ => simp [Trs.len] at hn; omega
    | .cons t1 .nil, _, hn, _ => simp [Trs.len] at hn; omega
    | .cons t1 (.cons t2 ts2), hw, hn, he =>
      rw [show (Trs.cons t1 (.cons t2 ts2)).flat = t1.flat ++ (Trs.cons t2 ts2).flat from rfl, List.map_append, List.map_append, List.append_assoc, List.append_assoc] at he
      obtain ⟨g1, g2, g3, g4⟩ := ih t1 _ _ _ _ hw.1 he
      obtain ⟨f1, f2⟩ := ihR.2 (.cons t2 ts2) _ _ r r0 hw.2 (by simp only [Trs.len] at hn ⊢; omega) g1
      have w0 := hW.head hh
      have w1 : plc T fin (i + 1) + _ ≤ plc T fin (i + 2) := hW.mark hc
      have w2 := hW.mark hm
      simp only [List.length_cons, List.length_nil] at w1 w2
      refine ⟨f1, ?_⟩
      have hsh : ((Trs.cons t1 (.cons t2 ts2)).shR (!u) true).length = (if !u then (hdE T u i).label else digL (hdE T u i).tag.toNat).length + 1 + t1.sh.length + ((Trs.cons t2 ts2).shR (!u) false).length := by
        rw [Trs.shR, g3, g4]; simp; omega
      rw [hsh, shR_more]; omega
theorem pd_sh {T : List Tk} {fin : Nat} (hW : Wid T fin) {i k : Nat} {D : List Df} (h : PD T i k D) : ∀ l : List DefT, (∀ q ∈ l, DefW q) → D.map bareD = l.map (fun p => (⟨p.1, 0, p.2.flat.map bareE⟩ : Df)) → plc T fin i + (shDefs l).length ≤ fin := by
  induction h with
  | @nil i k h hk =>
    intro l _ he
    cases l with
    | nil => unfold plc; rw [if_neg (by omega)]; exact Nat.le_refl _
    | cons q m => simp at he
  | @cons i k j N D hk h0 h1 h2 hN h3 hD ih =>
    intro l hws he
    cases l with
    | nil => simp at he
    | cons q m =>
      simp only [List.map_cons, List.cons.injEq, bareD, Df.mk.injEq, true_and] at he
      obtain ⟨⟨e1, e2⟩, e3⟩ := he
      have hq := hws q (List.mem_cons_self ..)
      obtain ⟨-, g2, -, -⟩ := px_sh hW hN q.2 0 0 [] [] hq.2 (by rw [List.append_nil, List.append_nil]; exact e2)
      have g3 := ih m (fun x hx => hws x (List.mem_cons_of_mem _ hx)) e3
      have hn := h1
      unfold nmT at hn
      simp only [Bool.and_eq_true, decide_eq_true_eq] at hn
      have h0' := h0
      simp only [isT, Bool.and_eq_true, decide_eq_true_eq] at h0'
      have w0 := hW.gap i (tkA_kind (by decide) hn.1) h0'.1 hn.1
      have w1 : plc T fin (i + 1) + _ ≤ plc T fin (i + 2) := hW.word hn.1
      have w2 : plc T fin (i + 2) + _ ≤ plc T fin (i + 3) := hW.mark h2
      have w3 := hW.mark h3
      rw [h0'.2] at w0
      rw [e1] at w1
      simp only [List.length_cons, List.length_nil] at w0 w2 w3
      have hsh : (shDefs (q :: m)).length = q.1.length + q.2.sh.length + 7 + (shDefs m).length := by simp [shDefs, shDef]; omega
      rw [hsh]; omega
theorem short_len (xs : List UInt8) (h : (cutA xs).2 = (0, 0)) {D : List Df} (hp : PD (cutA xs).1 0 0 D) (l : List DefT) (hws : ∀ q ∈ l, DefW q) (hb : (D.map (plD (cutA xs).1)).map bareD = l.map (fun p => (⟨p.1, 0, p.2.flat.map bareE⟩ : Df))) : (shDefs l).length ≤ xs.length := by
  have h1 : D.map bareD = l.map (fun p => (⟨p.1, 0, p.2.flat.map bareE⟩ : Df)) := by
    rw [← hb, List.map_map]
    exact List.map_congr_left fun d _ => bareD_pl.symm
  have := pd_sh (cut_wid xs) hp l hws h1
  omega

end Go.Proofs.YtanimeifmicmoaaDoor

set_option linter.unusedSimpArgs false
set_option linter.unusedVariables false
set_option maxRecDepth 100000
namespace Go.Proofs.YtanimeifmicmoaaDoor
open Go Go.Vc Go.RowKit Go.Proofs

/-- a byte that is no blank, no remark -/
def plnB (c : UInt8) : Bool := goeB c || markB c
theorem pln_ne {c : UInt8} (h : plnB c = true) : c ≠ 35 ∧ c ≠ 10 ∧ c ≠ 9 ∧ c ≠ 32 :=
  ⟨fun e => by subst e; revert h; decide, fun e => by subst e; revert h; decide, fun e => by subst e; revert h; decide, fun e => by subst e; revert h; decide⟩
theorem pln_name {s : List UInt8} (h : nameB s = true) : s.all plnB = true := by
  simp only [nameB, Bool.and_eq_true] at h
  refine List.all_eq_true.2 fun c hc => ?_
  have := List.all_eq_true.1 h.1.2 c hc
  unfold plnB; rw [this]; rfl
theorem pln_dig (n : Nat) : (digL n).all plnB = true := by
  refine List.all_eq_true.2 fun c hc => ?_
  have := List.all_eq_true.1 (digL_dig n) c hc
  unfold plnB goeB; rw [this]; simp
mutual
theorem tr_pln : ∀ (t : Tr) (a : Int) (d : Nat), t.wf a d → t.sh.all plnB = true
  | .node y ks, a, d, hw => by
    obtain ⟨-, -, hr, -, hks⟩ := hw
    obtain ⟨-, hnm, -, -⟩ := rightB_iff hr
    have h1 := trs_pln ks _ _ hks
    have h2 := trsR_pln ks (decide (y.kind = 8)) true _ _ hks (fun h => of_decide_eq_true h)
    unfold Tr.sh
    split
    · rw [List.all_append, pln_dig]; decide
    · split
      · decide
      · split
        · decide
        · split
          · rename_i h9
            unfold namB at hnm
            rw [if_pos h9] at hnm
            exact pln_name hnm
          · split
            · simp only [List.all_append, h1, pln_dig]; split <;> decide
            · split
              · simp only [List.all_append, h1]; decide
              · simp only [List.all_append, h2]; split <;> decide
theorem trs_pln : ∀ (ts : Trs) (a : Int) (d : Nat), ts.wf a d → ts.shK.all plnB = true
  | .nil, _, _, _ => rfl
  | .cons t ts, a, d, hw => by
    unfold Trs.shK
    rw [List.all_append, tr_pln t _ _ hw.1, trs_pln ts _ _ hw.2]
    rfl
theorem trsR_pln : ∀ (ts : Trs) (s f : Bool) (a : Int) (d : Nat), ts.wf a d → (s = true → a = 8) → (ts.shR s f).all plnB = true
  | .nil, _, _, _, _, _, _ => rfl
  | .cons t ts, s, f, a, d, hw, hs => by
    have h1 := tr_pln t _ _ hw.1
    have h2 := trsR_pln ts s false _ _ hw.2 hs
    have h3 : (if s then t.top.label else digL t.top.tag.toNat).all plnB = true := by
      split
      · rename_i hh
        obtain ⟨-, -, hl, -⟩ := rightB_iff (wf_top hw.1)
        unfold labB at hl
        rw [if_pos (hs hh)] at hl
        exact pln_name hl
      · exact pln_dig _
    unfold Trs.shR
    rw [List.all_append, List.all_append, List.all_append, List.all_append, h1, h2, h3]
    split <;> decide
end
/-- what stands behind the blank of a definition -/
def shBody (q : DefT) : List UInt8 := q.1 ++ (61 :: (q.2.sh ++ [59]))
theorem shDef_eq (q : DefT) : shDef q = [116, 121, 112, 101] ++ (32 :: shBody q) := by simp [shDef, shBody]
theorem body_pln {q : DefT} (h : DefW q) : (shBody q).all plnB = true := by
  unfold shBody
  rw [List.all_append, List.all_cons, List.all_append, pln_name h.1, tr_pln q.2 0 0 h.2]
  decide
/-- byte i is right -/
def Good (txt : List UInt8) (i : Nat) : Prop := ∀ c, txt[i]? = some c → plnB c = true ∨ (c = 32 ∧ 4 ≤ i ∧ (txt.take i).drop (i - 4) = [116, 121, 112, 101])
theorem defs_good : ∀ (l : List DefT) (pre : List UInt8), (∀ q ∈ l, DefW q) → ∀ i, pre.length ≤ i → Good (pre ++ shDefs l) i
  | [], pre, _, i, hi => by
    intro c hc
    rw [show shDefs [] = [] from rfl, List.append_nil, List.getElem?_eq_none hi] at hc
    cases hc
  | q :: l, pre, hw, i, hi => by
    have hq := body_pln (hw q (List.mem_cons_self ..))
    rw [show pre ++ shDefs (q :: l) = (pre ++ shDef q) ++ shDefs l by simp [shDefs]]
    rcases Nat.lt_or_ge i (pre ++ shDef q).length with h | h
    · intro c hc
      rw [List.getElem?_append_left h, List.getElem?_append_right hi] at hc
      obtain ⟨j, rfl⟩ : ∃ j, i = pre.length + j := ⟨i - pre.length, by omega⟩
      rw [Nat.add_sub_cancel_left, shDef_eq] at hc
      rcases Nat.lt_or_ge j 4 with h4 | h4
      · left
        have : ∀ j, j < 4 → ∀ c, ([116, 121, 112, 101] ++ (32 :: shBody q))[j]? = some c → plnB c = true := by
          intro j hj c hc
          match j, hj with
          | 0, _ => cases hc; decide
          | 1, _ => cases hc; decide
          | 2, _ => cases hc; decide
          | 3, _ => cases hc; decide
        exact this j h4 c hc
      · obtain ⟨m, rfl⟩ : ∃ m, j = 4 + m := ⟨j - 4, by omega⟩
        rw [List.getElem?_append_right (by show 4 ≤ 4 + m; omega)] at hc
        rw [show 4 + m - ([116, 121, 112, 101] : List UInt8).length = m by show 4 + m - 4 = m; omega] at hc
        cases m with
        | zero =>
          right
          cases hc
          refine ⟨rfl, by omega, ?_⟩
          rw [shDef_eq, Nat.add_zero, show pre.length + 4 - 4 = pre.length by omega, List.append_assoc, List.append_assoc, List.take_length_add_append, List.drop_left]
          rfl
        | succ m =>
          left
          rw [List.getElem?_cons_succ] at hc
          exact List.all_eq_true.1 hq c (List.mem_of_getElem? hc)
    · exact defs_good l (pre ++ shDef q) (fun x hx => hw x (List.mem_cons_of_mem _ hx)) i h
def cnt (xs : List UInt8) : Nat := xs.countP (fun c => decide (c = 32))
theorem cnt_pln {xs : List UInt8} (h : xs.all plnB = true) : cnt xs = 0 := by
  unfold cnt
  rw [List.countP_eq_zero]
  intro c hc
  have := (pln_ne (List.all_eq_true.1 h c hc)).2.2.2
  simpa using this
theorem defs_cnt : ∀ (l : List DefT), (∀ q ∈ l, DefW q) → cnt (shDefs l) = l.length
  | [], _ => rfl
  | q :: l, hw => by
    have h1 := cnt_pln (body_pln (hw q (List.mem_cons_self ..)))
    have h2 := defs_cnt l (fun x hx => hw x (List.mem_cons_of_mem _ hx))
    unfold cnt at h1 h2 ⊢
    rw [show shDefs (q :: l) = shDef q ++ shDefs l from rfl, shDef_eq, List.countP_append, List.countP_append, h2, List.length_cons]
    simp only [List.countP_cons, List.countP_nil, h1]
    simp
    omega
theorem cnt_take {xs : List UInt8} {i : Nat} (hi : i < xs.length) : cnt (xs.take (i + 1)) = cnt (xs.take i) + (if xs[i] = 32 then 1 else 0) := by
  unfold cnt
  rw [List.take_succ_eq_append_getElem hi, List.countP_append]
  simp [List.countP_cons]
theorem cnt_le (xs : List UInt8) : cnt xs ≤ xs.length := List.countP_le_length

end Go.Proofs.YtanimeifmicmoaaDoor

set_option linter.unusedSimpArgs false
set_option linter.unusedVariables false
set_option maxRecDepth 100000
namespace Go.Proofs.YtanimeifmicmoaaDoor
open Go Go.Vc Go.RowKit Go.Proofs
set_option maxHeartbeats 2000000 in
theorem short_walk0 (w0 : World) (xs : List UInt8) (hlx : xs.length ≤ 9223372036854775807) (hT : Tab w0) (h1H : 1 < w0.heap.size) : Ca Tryd.prog 6 #[st xs] w0 (fun v w' => v = .bool true ∧ Ext w0 w') := by
  have hx : Ext w0 w0 := Only.refl _ _
  have hPok := parse_ok xs
  refine Ca.of Tryd.func6 Tryd.ntmps6 rfl rfl ?_
  refine W.seq ?_
  refine W.region ?_
  refine WL.c rfl (o_ash (show _ = Value.bool _ from rfl) ?_)
  refine WL.nil ?_
  refine W.seq ?_
  refine W.seq ?_
  refine W.region ?_
  refine WL.c rfl (o_call Tryd.call7 ln ((awake_spec _ hT (by have := hx.size; omega)).mono ?_))
  rintro v9 w9 ⟨rfl, hx9⟩
  replace hx := hx.tr hx9
  replace hT := hT.ext hx9
  refine WL.c rfl (o_not' rfl ?_)
  refine WL.nil ?_
  refine W.condF' rfl (rfl) ?_
  refine W.skip ?_
  refine W.seq ?_
  refine W.region ?_
  refine WL.c rfl (o_mvh (show _ = Value.string _ from rfl) ?_)
  refine WL.c rfl (o_call Tryd.call14 (lc rfl ln) ((parse_spec xs _ hlx).mono ?_))
  rintro v13 w13 ⟨dv13, V13, rfl, hD13, hxp13⟩
  replace hx := hx.tr hxp13
  replace hT := hT.ext hxp13
  refine WL.c rfl (o_mvh (by first | exact (show _ = Value.tuple _ from rfl) | exact rfl) ?_)
  refine WL.c rfl (o_ext rfl rfl ?_)
  refine WL.c rfl (o_ext rfl rfl ?_)
  refine WL.c rfl (o_alB TI24 ?_)
  intro wa hCs hxs hss
  refine WL.c rfl (o_alB TI39 ?_)
  intro wb hCf hxf hsf
  replace hCs := hxf.blk hCs (fun h => h)
  refine WL.u (o_stA TI24 rfl (show _ = Value.agg #[dv13] from rfl) rfl (by simp [own_one hD13.row]) hCs rfl ?_)
  intro wc hB3 hos hsz
  replace hCf := hos.blk hCf (by omega)
  refine WL.u (o_stA TI39 rfl (show _ = Value.agg (faultV (parseA xs).2.1 (parseA xs).2.2) from rfl) rfl rfl hCf rfl ?_)
  intro w4z hB4 hof hsz2
  replace hB3 := hof.blk hB3 (by omega)
  have hxn : Ext w13 w4z := ((hxs.tr hxf).trans' hos (fun _ h => h) (fun k hk he => by omega)).trans' hof (fun _ h => h) (fun k hk he => by omega)
  obtain ⟨b3, hb3⟩ : ∃ b, b = w13.heap.size := ⟨_, rfl⟩
  obtain ⟨b4, hb4⟩ : ∃ b, b = wa.heap.size := ⟨_, rfl⟩
  rw [← hb3] at hB3 ⊢
  rw [← hb4] at hB4 ⊢
  clear hCs hCf hos hof
  replace hx := hx.tr hxn
  replace hT := hT.ext hxn
  replace hD13 := hD13.ext hxn
  clear hxn
  refine WL.nil ?_
  refine W.seq ?_
  refine W.seq ?_
  rcases parse_cases xs with ⟨hf, hn⟩ | ⟨hc, E, hp, hpe⟩
  · skip
    skip
    refine W.region ?_
    refine WL.c rfl (o_fa 0 TI39 rfl TI28 rfl rfl ?_)
    refine WL.c rfl (o_ld TI28 rfl rfl (cell_of hB4 rfl) ?_)
    refine WL.c rfl (o_ne rfl rfl ?_)
    refine WL.nil ?_
    refine W.condT' rfl (by simp [hf]) ?_
    refine W.seq ?_
    refine W.region ?_
    refine WL.c rfl (o_fa 0 TI24 rfl TI22 rfl rfl ?_)
    refine WL.c rfl (o_ld TI22 rfl rfl (cell_of hB3 rfl) ?_)
    refine WL.c rfl (o_lenR TI22 rfl (Sl.own hD13.row) ?_)
    refine WL.c rfl (o_eq rfl rfl ?_)
    refine WL.c rfl (o_ash (show _ = Value.bool _ from rfl) ?_)
    refine WL.nil ?_
    refine W.ret ?_
    refine ret1v rfl (show _ = Value.bool _ from rfl) ?_
    exact ⟨congrArg Value.bool (by simp [hn]), hx⟩
  · skip
    have hPck : (chkS (parseA xs).1).2.2 = 0 := by rw [hpe]; show (chkS (E.map (plD (cutA xs).1))).2.2 = 0; rw [pd_chkS (cut_small _) hp]
    obtain ⟨h256, l, hws, hmap⟩ := chkS_trees hPck
    have hbr := trees_bare hmap
    have hlen := short_len xs hc hp l hws (by rw [hpe] at hbr; exact hbr)
    have h65 : xs.length ≤ 65536 := by
      unfold cutA at hc
      split at hc
      · cases hc
      · omega
    have hf : (parseA xs).2 = (0, 0) := by rw [hpe]
    rw [hf] at hB4
    replace hB4 : w4z.heap[b4]? = some (.cells #[.int .i64 0, .int .i64 0] 39 (0, 0)) := hB4
    have hcnt : cnt (shDefs l) = (parseA xs).1.length := by rw [defs_cnt l hws]; have h1 := congrArg List.length hmap; simp only [List.length_map] at h1; exact h1.symm
    have hgd := defs_good l [] hws
    rw [List.nil_append] at hgd
    clear hpe hf hbr
    generalize (parseA xs).1 = PP at *
    refine W.region ?_
    refine WL.c rfl (o_fa 0 TI39 rfl TI28 rfl rfl ?_)
    refine WL.c rfl (o_ld TI28 rfl rfl (cell_of hB4 rfl) ?_)
    refine WL.c rfl (o_ne rfl rfl ?_)
    refine WL.nil ?_
    refine W.condF' rfl (by decide) ?_
    refine W.skip ?_
    refine W.seq ?_
    refine W.region ?_
    refine WL.c rfl (o_ldA TI24 rfl rfl (show Cells _ b3 0 [dv13] from Cells.of hB3 0 _ (by simp)) rfl ?_)
    refine WL.c rfl (o_call Tryd.call9 (lc rfl ln) ((print_spec PP dv13 V13 _ hD13.rd hPok.lim hT (by have := hx.size; omega) hPck l hws hmap (by omega)).mono ?_))
    rintro v25 w25 ⟨rfl, hx25⟩
    rw [if_neg (by omega)]
    replace hx := hx.tr hx25
    replace hT := hT.ext hx25
    replace hB3 := hx25.blk hB3 (fun h => h)
    replace hB4 := hx25.blk hB4 (fun h => h)
    replace hD13 := hD13.ext hx25
    obtain ⟨tx, htx⟩ : ∃ tx, tx = shDefs l := ⟨_, rfl⟩
    rw [← htx] at hcnt hgd hlen ⊢
    have hcl := cnt_le tx
    refine WL.c rfl (o_mvh (by first | exact (show _ = Value.tuple _ from rfl) | exact rfl) ?_)
    refine WL.c rfl (o_ext rfl rfl ?_)
    refine WL.c rfl (o_ext rfl rfl ?_)
    refine WL.c rfl (o_ash (show _ = Value.string _ from rfl) ?_)
    refine WL.c rfl (o_ash (show _ = Value.int _ _ from rfl) ?_)
    refine WL.nil ?_
    refine W.seq ?_
    refine W.seq ?_
    refine W.region ?_
    refine WL.c rfl (o_mvh (show _ = Value.int _ _ from rfl) ?_)
    refine WL.c rfl (o_ne rfl rfl ?_)
    refine WL.c rfl (o_mvh (show _ = Value.bool _ from rfl) ?_)
    refine WL.g rfl (by decide) rfl (o_mvh (show _ = Value.string _ from rfl) ?_)
    refine WL.g rfl (by decide) rfl (o_lenT TI9 rfl ?_)
    refine WL.g rfl (by decide) rfl (o_mvh (show _ = Value.string _ from rfl) ?_)
    refine WL.g rfl (by decide) rfl (o_lenT TI9 rfl ?_)
    refine WL.g rfl (by decide) rfl (o_gt rfl rfl ?_)
    refine WL.c rfl (o_pickO rfl rfl ?_)
    refine WL.nil ?_
    refine W.condF' rfl (by simp; omega) ?_
    refine W.skip ?_
    refine W.seq ?_
    refine W.region ?_
    refine WL.c rfl (o_ash (show _ = Value.int _ _ from rfl) ?_)
    refine WL.nil ?_
    refine W.seq ?_
    refine W.seq ?_
    refine W.region ?_
    refine WL.c rfl (o_ash (show _ = Value.int _ _ from rfl) ?_)
    refine WL.nil ?_
    refine W.block ?_
    refine W.loop (fun e w => ∃ i : Nat, i ≤ tx.length ∧ e 3 = .pointer (some ⟨b3, 0, none⟩) ∧ e 5 = st tx ∧ e 7 = .int .i64 (cnt (tx.take i) : Int) ∧ e 8 = .int .i64 (i : Int) ∧ w.heap[b3]? = some (.cells #[dv13] 24 (0, 0)) ∧ Sl w 3 dv13 PP.length (drows PP V13) ∧ Ext w0 w) (fun e w => tx.length - (intOf (e 8)).toNat) ?_ ?_
    · exact ⟨0, Nat.zero_le _, rfl, rfl, rfl, rfl, hB3, Sl.own hD13.row, hx⟩
    rintro e w ⟨i, hi, h3, h5, h7, h8, hB3, hrw, hx⟩
    have hm8 := h8
    refine W.seq ?_
    refine W.seq ?_
    refine W.region ?_
    refine WL.c rfl (o_mvh h8 ?_)
    refine WL.c rfl (o_mvh h5 ?_)
    refine WL.c rfl (o_lenT TI9 rfl ?_)
    refine WL.c rfl (o_lt rfl rfl ?_)
    refine WL.nil ?_
    refine W.cond rfl (fun c40 => ?_) (fun c40 => ?_)
    · try simp only [decide_eq_true_eq, decide_eq_false_iff_not, Bool.not_eq_true', Bool.not_eq_false', Bool.and_eq_true, Bool.or_eq_true, Bool.and_eq_false_iff, Bool.or_eq_false_iff] at c40
      have hi1 : i < tx.length := by omega
      have hgi := hgd i (Nat.zero_le _) tx[i] (List.getElem?_eq_getElem hi1)
      have hct0 := cnt_take hi1
      have hci : cnt (tx.take i) ≤ i := Nat.le_trans (cnt_le _) (by rw [List.length_take]; omega)
      have hne : tx[i].toNat ≠ 35 ∧ tx[i].toNat ≠ 10 ∧ tx[i].toNat ≠ 9 := by
        rcases hgi with h | ⟨h, -⟩
        · obtain ⟨p1, p2, p3, -⟩ := pln_ne h
          exact ⟨fun e => p1 (UInt8.toNat_inj.1 e), fun e => p2 (UInt8.toNat_inj.1 e), fun e => p3 (UInt8.toNat_inj.1 e)⟩
        · rw [h]; decide
      obtain ⟨ne1, ne2, ne3⟩ := hne
      refine W.skip ?_
      refine W.seq ?_
      refine W.block ?_
      refine W.seq ?_
      refine W.seq ?_
      refine W.region ?_
      refine WL.c rfl (o_mvh h5 ?_)
      refine WL.c rfl (o_mvh h8 ?_)
      refine WL.c rfl (o_idT TI9 rfl rfl (by omega) ?_)
      refine WL.c rfl (o_eq rfl rfl ?_)
      refine WL.c rfl (o_mvh (show _ = Value.bool _ from rfl) ?_)
      refine WL.g rfl (by simp [bv]; omega) rfl (o_mvh h5 ?_)
      refine WL.g rfl (by simp [bv]; omega) rfl (o_mvh h8 ?_)
      refine WL.g rfl (by simp [bv]; omega) rfl (o_idT TI9 rfl rfl (by omega) ?_)
      refine WL.g rfl (by simp [bv]; omega) rfl (o_eq rfl rfl ?_)
      refine WL.c rfl (o_pickO rfl rfl ?_)
      refine WL.c rfl (o_mvh (show _ = Value.bool _ from rfl) ?_)
      refine WL.g rfl (by simp [bv]; omega) rfl (o_mvh h5 ?_)
      refine WL.g rfl (by simp [bv]; omega) rfl (o_mvh h8 ?_)
      refine WL.g rfl (by simp [bv]; omega) rfl (o_idT TI9 rfl rfl (by omega) ?_)
      refine WL.g rfl (by simp [bv]; omega) rfl (o_eq rfl rfl ?_)
      refine WL.c rfl (o_pickO rfl rfl ?_)
      refine WL.nil ?_
      refine W.condF' rfl (by simp [bv]; omega) ?_
      refine W.skip ?_
      refine W.seq ?_
      by_cases h32 : tx[i] = 32
      · skip
        have hgi2 := hgi.resolve_left (fun h => (pln_ne h).2.2.2 h32)
        obtain ⟨-, h4, htp⟩ := hgi2
        have hct : cnt (tx.take (i + 1)) = cnt (tx.take i) + 1 := by rw [hct0, if_pos h32]
        have h32n : tx[i].toNat = 32 := by rw [h32]; rfl
        refine W.region ?_
        refine WL.c rfl (o_mvh h5 ?_)
        refine WL.c rfl (o_mvh h8 ?_)
        refine WL.c rfl (o_idT TI9 rfl rfl (by omega) ?_)
        refine WL.c rfl (o_eq rfl rfl ?_)
        refine WL.nil ?_
        refine W.condT' rfl (by simp [bv, h32n]) ?_
        refine W.seq ?_
        refine W.region ?_
        refine WL.c rfl (o_mvh h7 ?_)
        refine WL.c rfl (o_addi rfl rfl (by omega) ?_)
        refine WL.c rfl (o_ash (show _ = Value.int _ _ from rfl) ?_)
        refine WL.nil ?_
        refine W.seq ?_
        refine W.region ?_
        refine WL.c rfl (o_mvh h8 ?_)
        refine WL.c rfl (o_lt rfl rfl ?_)
        refine WL.c rfl (o_mvh (show _ = Value.bool _ from rfl) ?_)
        refine WL.g rfl (by simp; omega) rfl (o_mvh h5 ?_)
        refine WL.g rfl (by simp; omega) rfl (o_mvh h8 ?_)
        refine WL.g rfl (by simp; omega) rfl (o_subi rfl rfl (by omega) ?_)
        refine WL.g rfl (by simp; omega) rfl (o_mvh h8 ?_)
        refine WL.g rfl (by simp; omega) rfl (o_ssT TI9 rfl (Lo.s (l := i - 4) (show Value.int .i64 ((i : Int) - 4) = _ by congr 1; omega)) (Hi.s (h := i) rfl) (by omega) (by omega) ?_)
        refine WL.g rfl (by simp; omega) rfl (o_neT rfl rfl ?_)
        refine WL.c rfl (o_pickO rfl rfl ?_)
        refine WL.nil ?_
        refine W.condF' rfl (by simp [htp]; omega) ?_
        refine W.skip ?_
        refine W.region ?_
        refine WL.c rfl (o_mvh h8 ?_)
        refine WL.c rfl (o_addi rfl rfl (by omega) ?_)
        refine WL.c rfl (o_ash (show _ = Value.int _ _ from rfl) ?_)
        refine WL.nil ?_
        refine ⟨⟨i + 1, by omega, h3, h5, ?_, rfl, hB3, hrw, hx⟩, ?_⟩
        · rw [hct]; first | exact h7 | exact congrArg (Value.int .i64) (by omega)
        · show tx.length - ((i : Int) + 1).toNat < _
          rw [hm8]; simp [intOf]; omega
      · skip
        have hct : cnt (tx.take (i + 1)) = cnt (tx.take i) := by rw [hct0, if_neg h32, Nat.add_zero]
        have h32n : ¬ tx[i].toNat = 32 := fun e => h32 (UInt8.toNat_inj.1 e)
        refine W.region ?_
        refine WL.c rfl (o_mvh h5 ?_)
        refine WL.c rfl (o_mvh h8 ?_)
        refine WL.c rfl (o_idT TI9 rfl rfl (by omega) ?_)
        refine WL.c rfl (o_eq rfl rfl ?_)
        refine WL.nil ?_
        refine W.condF' rfl (by simp [bv]; omega) ?_
        refine W.skip ?_
        refine W.region ?_
        refine WL.c rfl (o_mvh h8 ?_)
        refine WL.c rfl (o_addi rfl rfl (by omega) ?_)
        refine WL.c rfl (o_ash (show _ = Value.int _ _ from rfl) ?_)
        refine WL.nil ?_
        refine ⟨⟨i + 1, by omega, h3, h5, ?_, rfl, hB3, hrw, hx⟩, ?_⟩
        · rw [hct]; first | exact h7 | exact congrArg (Value.int .i64) (by omega)
        · show tx.length - ((i : Int) + 1).toNat < _
          rw [hm8]; simp [intOf]; omega
    · try simp only [decide_eq_true_eq, decide_eq_false_iff_not, Bool.not_eq_true', Bool.not_eq_false', Bool.and_eq_true, Bool.or_eq_true, Bool.and_eq_false_iff, Bool.or_eq_false_iff] at c40
      have hi1 : i = tx.length := by omega
      rw [hi1, List.take_length, hcnt] at h7
      refine W.exit ?_
      refine W.seq ?_
      refine W.region ?_
      refine WL.c rfl (o_mvh h7 ?_)
      refine WL.c rfl (o_fa 0 TI24 rfl TI22 rfl h3 ?_)
      refine WL.c rfl (o_ld TI22 rfl rfl (cell_of hB3 rfl) ?_)
      refine WL.c rfl (o_lenR TI22 rfl hrw ?_)
      refine WL.c rfl (o_eq rfl rfl ?_)
      refine WL.c rfl (o_ash (show _ = Value.bool _ from rfl) ?_)
      refine WL.nil ?_
      refine W.ret ?_
      refine ret1v rfl (show _ = Value.bool _ from rfl) ?_
      exact ⟨congrArg Value.bool (by simp), hx⟩

theorem short_walk (w0 : World) (s : ByteArray) (hs : s.size ≤ maxLen) (hT : Tab w0) (h1H : 1 < w0.heap.size) : Ca Tryd.prog 6 #[.string s] w0 (fun v w' => v = .bool true ∧ Ext w0 w') := by
  obtain ⟨⟨xs⟩⟩ := s
  exact short_walk0 w0 xs hs hT h1H

end Go.Proofs.YtanimeifmicmoaaDoor
