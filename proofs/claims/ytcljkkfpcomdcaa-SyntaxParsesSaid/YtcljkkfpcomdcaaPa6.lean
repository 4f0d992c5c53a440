/-
  Walks and lemmas. Written by program out of specs of mine.
-/
import Derived.WalkKit
import Derived.WalkSpells
import Derived.WalkLawsBesides
import Derived.Deep.Quiet
import Derived.StillTail
import Derived.StringKeys
import Derived.Laws.StructEq
import Derived.Laws.Externs
import Derived.Laws.Tables
import Derived.Scope
import Derived.Test.YtcljkkfpcomdcaaProg
import Derived.Laws.AppendOwn
import Derived.Maps.AppendAt
import Derived.Recover
import Derived.Lib.Bytealg
import Derived.SizedLaws
import Derived.ChangeArms
import Derived.ChangeSlices
import Derived.Test.YtcljkkfpcomdcaaRows
import Derived.ProofKit
import Derived.OpenShut
import Derived.ShutString
import Derived.ChangeOld
import Derived.Below
import Derived.Test.YtcljkkfpcomdcaaPa5
set_option linter.unusedSimpArgs false
set_option linter.unusedVariables false
set_option maxRecDepth 100000
set_option linter.unusedSimpArgs false
set_option linter.unusedVariables false
set_option maxRecDepth 100000
namespace Go.Proofs.Ytcljkkfpcomdcaa
open Go Go.Vc Go.RowKit Go.Proofs

theorem tokc {w : World} {b o c : Nat} {T : List Tk} (h : Sl w 5 (.slice (some ⟨b, o, none⟩) T.length c) T.length (flat T)) {k : Nat} (hk : k < T.length) : Cells w b (o + k * 5) (tokV (tkA T k)).toList := by
  obtain ⟨_, _, _, hv, hc⟩ := Sl.tok h hk
  cases hv; exact hc
theorem nm_words {s : List UInt8} (hl : leafE s = none) (hv : ¬ (s = [118, 101, 99, 116, 111, 114] ∨ s = [108, 105, 115, 116])) (ho : ¬ s = [111, 112, 116, 105, 111, 110]) (hu : ¬ s = [117, 110, 105, 111, 110]) (hs : ¬ s = [115, 116, 114, 117, 99, 116]) : ∀ x ∈ [[117, 56], [117, 49, 54], [117, 51, 50], [117, 54, 52], [98, 111, 111, 108], [118, 97, 114, 105, 110, 116], [118, 101, 99, 116, 111, 114], [108, 105, 115, 116], [111, 112, 116, 105, 111, 110], [117, 110, 105, 111, 110], [115, 116, 114, 117, 99, 116]], ¬ s = x := by
  intro x hx he
  subst he
  rw [not_or] at hv
  simp only [List.mem_cons, List.not_mem_nil, or_false] at hx
  rcases hx with e | e | e | e | e | e | e | e | e | e | e
  · rw [e] at hl; cases hl
  · rw [e] at hl; cases hl
  · rw [e] at hl; cases hl
  · rw [e] at hl; cases hl
  · rw [e] at hl; cases hl
  · rw [e] at hl; cases hl
  · exact hv.1 e
  · exact hv.2 e
  · exact ho e
  · exact hu e
  · exact hs e
theorem leafE_text {s : List UInt8} {kn : Int × Int} (h : leafE s = some kn) : (s = [117, 56] ∧ kn = (1, 1)) ∨ (s = [117, 49, 54] ∧ kn = (1, 2)) ∨ (s = [117, 51, 50] ∧ kn = (1, 4)) ∨ (s = [117, 54, 52] ∧ kn = (1, 8)) ∨ (s = [98, 111, 111, 108] ∧ kn = (2, 0)) ∨ (s = [118, 97, 114, 105, 110, 116] ∧ kn = (3, 0)) := by
  unfold leafE at h
  repeat' split at h
  all_goals first | cases h; done | skip
  all_goals (rename_i he; cases h; simp [he])
theorem px_rows_inv {T : List Tk} {u : Bool} {q deep i n e : Nat} {x : Ex} {M : List Ex} (h : PX T (some (u, q)) deep i x M n e) : ∃ N jj, q < 64 ∧ hdOk T u i ∧ isT (tkA T (i + 1)) 3 [58] = true ∧ PX T none (deep + 1) (i + 2) (hdE T u i) N 0 jj ∧ ((∃ M2, isT (tkA T jj) 3 [44] = true ∧ PX T (some (u, q + 1)) deep (jj + 1) ex0 M2 n e ∧ M = N ++ M2) ∨ (isT (tkA T jj) 3 [125] = true ∧ M = N ∧ n = q + 1 ∧ e = jj + 1)) := by
  cases h with
  | last hk hh hc hN hm hr => exact ⟨_, _, hk, hh, hc, hN, .inr ⟨hr, rfl, rfl, rfl⟩⟩
  | more hk hh hc hN hm hR => exact ⟨_, _, hk, hh, hc, hN, .inl ⟨_, hm, hR, rfl⟩⟩
theorem isT_text {t : Tk} {k : Nat} {s : List UInt8} (h : isT t k s = true) : t.text = s := by
  simp only [isT, Bool.and_eq_true, decide_eq_true_eq] at h; exact h.2
/-- the label or the tag, asx the document reads it -/
def rF (T : List Tk) (q : Nat) : Ex := ⟨0, 0, [], (tkA T q).text, ((tkA T q).n : Int), 1, ((tkA T q).at_ : Int)⟩
def fstE (T : List Tk) (i : Nat) (F : Ex) : Ex := { (if F.label = [] ∧ F.kids = 0 then { F with at_ := ((tkA T i).at_ : Int) } else F) with kids := 0 }
theorem fst_0 {T : List Tk} {i : Nat} : plE T (atE i exM) = fstE T i ex0 := by
  rw [plE_atE, plE_exM, if_pos (by decide)]; rfl
theorem fst_h {T : List Tk} (hTz : ∀ i, ((tkA T i).kind = 2 → (tkA T i).text = []) ∧ ((tkA T i).kind ≠ 2 → (tkA T i).n = 0)) {u : Bool} {q i : Nat} (hh : hdOk T u q) : plE T (atE i (hdE T u q)) = fstE T i (rF T q) := by
  have h0 : ¬ ((rF T q).label = [] ∧ (rF T q).kids = 0) := fun h => absurd h.2 (by show ¬ (1 : Int) = 0; decide)
  unfold fstE
  rw [if_neg h0]
  cases u
  · have hk : (tkA T q).kind = 1 := by
      have : nmT (tkA T q) = true := hh
      simp only [nmT, Bool.and_eq_true, decide_eq_true_eq] at this; exact this.1
    have hz := (hTz q).2 (by omega)
    have ha : ¬ ((q : Int)) < 0 := by omega
    simp only [atE, plE, hdE, rF, ex0, ha, hz, if_false, Bool.false_eq_true, Int.toNat_natCast]
    rfl
  · have hk : (tkA T q).kind = 2 := hh
    have hz := (hTz q).1 hk
    have ha : ¬ ((q : Int)) < 0 := by omega
    simp only [atE, plE, hdE, rF, ex0, ha, hz, if_false, if_true, Int.toNat_natCast]
/-- where the loop over rows stands -/
def RowSt (T : List Tk) (u : Bool) (deep i n j : Nat) (M : List Ex) (q a : Nat) (Ka : List Ex) : Prop :=
  (∃ M', PX T (some (u, q)) deep (a + 1) ex0 M' n j ∧ M = Ka ++ M' ∧ ¬ (tkA T a).text = [125] ∧ i + 1 ≤ a) ∨ (M = Ka ∧ q = n ∧ (tkA T a).text = [125] ∧ a + 1 = j)
def InvV (T : List Tk) (deep i : Nat) (x : Ex) (N : List Ex) (j : Nat) (b : Bool) : Prop := (tkA T i).text = (if b then [108, 105, 115, 116] else [118, 101, 99, 116, 111, 114]) ∧ ∃ N' jj, PX T none (deep + 1) (i + 2) exM N' 0 jj ∧ (tkA T (jj + 1)).kind = 2 ∧ N = (atE i x).vec b (tkA T (jj + 1)).n :: N' ∧ j = jj + 3
def InvB (T : List Tk) (deep i : Nat) (x : Ex) (N : List Ex) (j : Nat) (u : Bool) : Prop := (tkA T i).text = (if u then [117, 110, 105, 111, 110] else [115, 116, 114, 117, 99, 116]) ∧ ∃ M n, isT (tkA T (i + 1)) 3 [123] = true ∧ PX T (some (u, 0)) deep (i + 2) ex0 M n j ∧ N = (atE i x).br u (n : Nat) :: M
theorem px_inv {T : List Tk} {deep i n j : Nat} {x : Ex} {N : List Ex} (h : PX T none deep i x N n j) :
    ((tkA T i).text = [117, 56] ∧ N = [(atE i x).lf 1 1] ∧ j = i + 1) ∨ ((tkA T i).text = [117, 49, 54] ∧ N = [(atE i x).lf 1 2] ∧ j = i + 1) ∨ ((tkA T i).text = [117, 51, 50] ∧ N = [(atE i x).lf 1 4] ∧ j = i + 1) ∨ ((tkA T i).text = [117, 54, 52] ∧ N = [(atE i x).lf 1 8] ∧ j = i + 1) ∨
    ((tkA T i).text = [98, 111, 111, 108] ∧ N = [(atE i x).lf 2 0] ∧ j = i + 1) ∨ ((tkA T i).text = [118, 97, 114, 105, 110, 116] ∧ N = [(atE i x).lf 3 0] ∧ j = i + 1) ∨
    ((∀ s ∈ [[117, 56], [117, 49, 54], [117, 51, 50], [117, 54, 52], [98, 111, 111, 108], [118, 97, 114, 105, 110, 116], [118, 101, 99, 116, 111, 114], [108, 105, 115, 116], [111, 112, 116, 105, 111, 110], [117, 110, 105, 111, 110], [115, 116, 114, 117, 99, 116]], ¬ (tkA T i).text = s) ∧ N = [(atE i x).nm (tkA T i).text] ∧ j = i + 1) ∨
    InvV T deep i x N j false ∨ InvV T deep i x N j true ∨
    ((tkA T i).text = [111, 112, 116, 105, 111, 110] ∧ ∃ N' jj, PX T none (deep + 1) (i + 2) exM N' 0 jj ∧ N = (atE i x).opt :: N' ∧ j = jj + 1) ∨
    InvB T deep i x N j true ∨ InvB T deep i x N j false := by
  cases h with
  | leaf hb hd hl =>
    rcases leafE_text hl with ⟨h1, rfl⟩ | ⟨h1, rfl⟩ | ⟨h1, rfl⟩ | ⟨h1, rfl⟩ | ⟨h1, rfl⟩ | ⟨h1, rfl⟩
    · exact .inl ⟨h1, rfl, rfl⟩
    · exact .inr (.inl ⟨h1, rfl, rfl⟩)
    · exact .inr (.inr (.inl ⟨h1, rfl, rfl⟩))
    · exact .inr (.inr (.inr (.inl ⟨h1, rfl, rfl⟩)))
    · exact .inr (.inr (.inr (.inr (.inl ⟨h1, rfl, rfl⟩))))
    · exact .inr (.inr (.inr (.inr (.inr (.inl ⟨h1, rfl, rfl⟩)))))
  | nm hb hd hl hv ho hu hs => exact .inr (.inr (.inr (.inr (.inr (.inr (.inl ⟨nm_words hl hv ho hu hs, rfl, rfl⟩))))))
  | vec hb hd hl hv h1 hN h2 h3 h4 =>
    rcases hv with hv | hv
    · refine .inr (.inr (.inr (.inr (.inr (.inr (.inr (.inl ⟨hv, _, _, hN, h3, ?_, rfl⟩)))))))
      rw [hv]; rfl
    · refine .inr (.inr (.inr (.inr (.inr (.inr (.inr (.inr (.inl ⟨hv, _, _, hN, h3, ?_, rfl⟩))))))))
      rw [hv]; rfl
  | opt hb hd hl ho h1 hN h2 => exact .inr (.inr (.inr (.inr (.inr (.inr (.inr (.inr (.inr (.inl ⟨ho, _, _, hN, rfl, rfl⟩)))))))))
  | br u hb hd hl hw h1 hM =>
    cases u
    · exact .inr (.inr (.inr (.inr (.inr (.inr (.inr (.inr (.inr (.inr (.inr ⟨hw, _, _, h1, hM, rfl⟩))))))))))
    · exact .inr (.inr (.inr (.inr (.inr (.inr (.inr (.inr (.inr (.inr (.inl ⟨hw, _, _, h1, hM, rfl⟩))))))))))
theorem plat_n {T : List Tk} {i : Nat} {x : Ex} (h : x.n = 0) : (plE T (atE i x)).n = 0 := by
  unfold plE atE
  repeat' split
  all_goals exact h


theorem px_len {T : List Tk} {r : Option (Bool × Nat)} {deep i : Nat} {x : Ex} {N : List Ex} {n j : Nat} (h : PX T r deep i x N n j) : N.length + i ≤ j := by
  induction h with
  | leaf => simp; omega
  | nm => simp; omega
  | vec hb hd hl hv h1 hN h2 h3 h4 ih => rw [List.length_cons]; omega
  | opt hb hd hl ho h1 hN h2 ih => rw [List.length_cons]; omega
  | br u hb hd hl hw h1 hM ih => rw [List.length_cons]; omega
  | last hk hh hc hN hm hr ih => omega
  | more hk hh hc hN hm hR ih1 ih2 => rw [List.length_append]; omega
theorem hdE_n {T : List Tk} {u : Bool} {q : Nat} (_ : hdOk T u q) : (hdE T u q).n = 0 ∧ (hdE T u q).kids = 0 := by cases u <;> exact ⟨rfl, rfl⟩
theorem plat_kids {T : List Tk} {i : Nat} {x : Ex} (h : x.kids = 0) : (plE T (atE i x)).kids = 0 := by
  unfold plE atE
  repeat' split
  all_goals exact h

def RExpr (T : List Tk) (tb to_ tc m : Nat) : Prop := ∀ (deep i : Nat) (x : Ex) (N : List Ex) (j : Nat) (F : Ex) (w0 : World), PX T none deep i x N 0 j → j ≤ i + m → (x.n = 0 ∧ x.kids = 0) → plE T (atE i x) = fstE T i F → Sl w0 5 (.slice (some ⟨tb, to_, none⟩) T.length tc) T.length (flat T) → Ca Try.prog 72 #[.slice (some ⟨tb, to_, none⟩) T.length tc, .int .i64 (i : Int), .agg (exV F).toArray] w0 (fun v w' => ∃ nv, v = .tuple #[nv, .int .i64 (j : Int)] ∧ w'.ownsRow w0.heap.size 30 7 nv N.length (exs (N.map (plE T))) ∧ Ext w0 w')

set_option maxHeartbeats 4000000 in
theorem rexpr_step (T : List Tk) (hTl : T.length ≤ 65536) (hTz : ∀ i, ((tkA T i).kind = 2 → (tkA T i).text = []) ∧ ((tkA T i).kind ≠ 2 → (tkA T i).n = 0)) (tb to_ tc m : Nat) (IH : RExpr T tb to_ tc m) (deep i : Nat) (x : Ex) (N : List Ex) (j : Nat) (F : Ex) (w0 : World) (hP : PX T none deep i x N 0 j) (hjm : j ≤ i + (m + 1)) (hxnk : x.n = 0 ∧ x.kids = 0) (hF : plE T (atE i x) = fstE T i F) (hS : Sl w0 5 (.slice (some ⟨tb, to_, none⟩) T.length tc) T.length (flat T)) : Ca Try.prog 72 #[.slice (some ⟨tb, to_, none⟩) T.length tc, .int .i64 (i : Int), .agg (exV F).toArray] w0 (fun v w' => ∃ nv, v = .tuple #[nv, .int .i64 (j : Int)] ∧ w'.ownsRow w0.heap.size 30 7 nv N.length (exs (N.map (plE T))) ∧ Ext w0 w') := by
  have hij := (px_rise hP).1
  have hjl := (px_rise hP).2.1
  have hil : i < T.length := by omega
  have htb : tb < w0.heap.size := by
    have h := tokc hS hil 0 _ rfl
    rcases Nat.lt_or_ge tb w0.heap.size with h2 | h2
    · exact h2
    · exfalso
      have : w0.heap[tb]? = none := by simp [h2]
      unfold World.cell? at h
      simp [this] at h
  have hSlen := hS.len
  have hxn := hxnk.1
  have hxk := hxnk.2
  refine Ca.of Try.func72 Try.ntmps72 rfl rfl ?_
  refine W.seq ?_
  refine W.region ?_
  refine WL.c rfl (o_boxB rfl ?_)
  intro w5 hB5 hx5 hs5
  have hx := hx5
  replace hS := hS.ext hx5
  replace hB5 : w5.heap[w0.heap.size]? = some (.cells (exV F).toArray 30 (0, 0)) := hB5
  refine WL.c rfl (o_ash (by first | exact (show _ = Value.slice _ _ _ from rfl) | exact rfl) ?_)
  refine WL.c rfl (o_ash (show _ = Value.int _ _ from rfl) ?_)
  refine WL.nil ?_
  refine W.seq ?_
  refine W.region ?_
  refine WL.c rfl (o_ldA TI30 rfl rfl (show Cells _ w0.heap.size 0 (exV F) from Cells.of hB5 0 _ (by simp)) rfl ?_)
  refine WL.c rfl (o_alB TI30 ?_)
  intro wa hCa hxa hsa
  refine WL.u (o_stA TI30 rfl (show _ = Value.agg (exV F).toArray from rfl) rfl rfl hCa rfl ?_)
  intro wb hB8 hob hsb
  have hxb := Ext.own hxa (Nat.le_refl _) hob
  replace hx := hx.tr hxb
  replace hS := hS.ext hxb
  obtain ⟨b8, hb8⟩ : ∃ b, b = w5.heap.size := ⟨_, rfl⟩
  obtain ⟨Bk, hBkd⟩ : ∃ b, b = wb.heap.size := ⟨_, rfl⟩
  rw [← hb8] at hB8 ⊢
  have hb8k : b8 < Bk := by omega
  have hb80 : w0.heap.size ≤ b8 := by omega
  have htb8 : tb < b8 := by omega
  have hBk : Bk ≤ wb.heap.size := by omega
  clear hCa hxa hsa hob hsb hxb
  refine WL.nil ?_
  refine W.seq ?_
  refine W.seq ?_
  refine W.region ?_
  refine WL.cut (fun e1 w1 => e1 20 = .bool (decide (F.label = [] ∧ F.kids = 0)) ∧ e1 0 = .slice (some ⟨tb, to_, none⟩) T.length tc ∧ e1 1 = .int .i64 (i : Int) ∧ e1 8 = .pointer (some ⟨b8, 0, none⟩) ∧ w1 = wb) ?_ ?_
  · -- region 2
    refine WL.c rfl (o_fa 3 TI30 rfl TI9 rfl rfl ?_)
    refine WL.c rfl (o_ld TI9 rfl rfl (cell_of hB8 rfl) ?_)
    refine WL.c rfl (o_eqT rfl rfl ?_)
    refine WL.c rfl (o_mvh (show _ = Value.bool _ from rfl) ?_)
    refine WL.sp 3 rfl (fun g16 => ?_) (fun g16 => ?_)
    · skip
      refine WL.g rfl (g16) rfl (o_fa 5 TI30 rfl TI3 rfl rfl ?_)
      refine WL.g rfl (g16) rfl (o_ld TI3 rfl rfl (cell_of hB8 rfl) ?_)
      refine WL.g rfl (g16) rfl (o_eq rfl rfl ?_)
      refine WL.c rfl (o_pickA rfl rfl ?_)
      exact WL.nil (⟨congrArg Value.bool (by rw [Bool.eq_iff_iff]; simp_all), rfl, rfl, rfl, rfl⟩)
    · skip
      refine WL.s rfl (g16) rfl ?_
      refine WL.s rfl (g16) rfl ?_
      refine WL.s rfl (g16) rfl ?_
      refine WL.c rfl (o_pickF rfl (g16) ?_)
      exact WL.nil (⟨congrArg Value.bool (by rw [Bool.eq_iff_iff]; simp_all), rfl, rfl, rfl, rfl⟩)
  rintro e w ⟨h20, h0, h1, h8, rfl⟩
  refine W.cut (fun e1 w1 => e1 0 = .slice (some ⟨tb, to_, none⟩) T.length tc ∧ e1 1 = .int .i64 (i : Int) ∧ e1 8 = .pointer (some ⟨b8, 0, none⟩) ∧ w1.heap[b8]? = some (.cells (exV (if F.label = [] ∧ F.kids = 0 then { F with at_ := ((tkA T i).at_ : Int) } else F)).toArray 30 (0, 0)) ∧ Sl w1 5 (.slice (some ⟨tb, to_, none⟩) T.length tc) T.length (flat T) ∧ Bk ≤ w1.heap.size ∧ Ext w0 w1) ?_ ?_
  · -- both ways
    refine W.cond h20 (fun c20 => ?_) (fun c20 => ?_)
    · try simp only [decide_eq_true_eq, decide_eq_false_iff_not, Bool.not_eq_true', Bool.not_eq_false', Bool.and_eq_true, Bool.or_eq_true, Bool.and_eq_false_iff, Bool.or_eq_false_iff] at c20
      have hfl : F.label = [] ∧ F.kids = 0 := c20
      refine W.region ?_
      refine WL.c rfl (o_mvh h0 ?_)
      refine WL.c rfl (o_mvh h1 ?_)
      refine WL.c rfl (o_ixB (i := i) TI54 TI58 rfl rfl hil ?_)
      refine WL.c rfl (o_fa 3 TI58 rfl TI3 rfl rfl ?_)
      refine WL.c rfl (o_ld TI3 rfl rfl (tokc hS hil 3 _ rfl) ?_)
      refine WL.c rfl (o_fa 6 TI30 rfl TI3 rfl h8 ?_)
      refine WL.u (o_stB TI3 rfl (show _ = Value.int .i64 ((tkA T i).at_ : Int) from rfl) rfl hB8 (show 6 < 7 by decide) ?_)
      intro wn hBn hon hsn
      replace hB8 : wn.heap[b8]? = some (.cells (exV { F with at_ := ((tkA T i).at_ : Int) }).toArray 30 (0, 0)) := hBn
      replace hx := hx.trans' hon (fun _ h => h) (fun k hk he => by omega)
      replace hS := hS.only hon (fun b hb he => by simp [Value.ownBlock] at hb; omega)
      replace hBk : Bk ≤ wn.heap.size := by omega
      refine WL.nil ?_
      first | exact ⟨h0, h1, h8, by rw [if_pos hfl]; exact hB8, hS, hBk, hx⟩ | exact ⟨h0, h1, h8, by rw [if_neg hfl]; exact hB8, hS, hBk, hx⟩
    · try simp only [decide_eq_true_eq, decide_eq_false_iff_not, Bool.not_eq_true', Bool.not_eq_false', Bool.and_eq_true, Bool.or_eq_true, Bool.and_eq_false_iff, Bool.or_eq_false_iff] at c20
      have hfl : ¬ (F.label = [] ∧ F.kids = 0) := c20
      refine W.skip ?_
      first | exact ⟨h0, h1, h8, by rw [if_pos hfl]; exact hB8, hS, hBk, hx⟩ | exact ⟨h0, h1, h8, by rw [if_neg hfl]; exact hB8, hS, hBk, hx⟩
  rintro e w ⟨h0, h1, h8, hB8, hS, hBk, hx⟩
  refine W.seq ?_
  refine W.region ?_
  refine WL.c rfl (o_fa 5 TI30 rfl TI3 rfl h8 ?_)
  refine WL.u (o_stB TI3 rfl (show _ = Value.int .i64 0 from rfl) rfl hB8 (show 5 < 7 by decide) ?_)
  intro wn hBn hon hsn
  obtain ⟨Y, hY⟩ : ∃ Y, Y = plE T (atE i x) := ⟨_, rfl⟩
  replace hB8 : wn.heap[b8]? = some (.cells (exV (fstE T i F)).toArray 30 (0, 0)) := hBn
  rw [← hF, ← hY] at hB8
  replace hx := hx.trans' hon (fun _ h => h) (fun k hk he => by omega)
  replace hS := hS.only hon (fun b hb he => by simp [Value.ownBlock] at hb; omega)
  replace hBk : Bk ≤ wn.heap.size := by omega
  have hK : wn.ownsRow Bk 30 7 (.slice none 0 0) ([] : List Ex).length (exs (([] : List Ex).map (plE T))) := World.ownsRow_nil _ _ _ _
  clear hBn hon hsn
  refine WL.nil ?_
  refine W.seq ?_
  refine W.region ?_
  refine WL.c rfl (o_ash (by first | exact (show _ = Value.slice _ _ _ from rfl) | exact rfl) ?_)
  refine WL.nil ?_
  refine W.seq ?_
  refine W.seq ?_
  refine W.region ?_
  refine WL.c rfl (o_mvh h0 ?_)
  refine WL.c rfl (o_mvh h1 ?_)
  refine WL.c rfl (o_ixB (i := i) TI54 TI58 rfl rfl hil ?_)
  refine WL.c rfl (o_fa 1 TI58 rfl TI9 rfl rfl ?_)
  refine WL.c rfl (o_ld TI9 rfl rfl (tokc hS hil 1 _ rfl) ?_)
  refine WL.nil ?_
  refine W.block ?_
  refine W.seq ?_
  refine W.seq ?_
  rcases px_inv hP with ⟨htx, rfl, rfl⟩ | ⟨htx, rfl, rfl⟩ | ⟨htx, rfl, rfl⟩ | ⟨htx, rfl, rfl⟩ | ⟨htx, rfl, rfl⟩ | ⟨htx, rfl, rfl⟩ | ⟨hnw, rfl, rfl⟩ | ⟨htx, N', jj, hN, h3, rfl, rfl⟩ | ⟨htx, N', jj, hN, h3, rfl, rfl⟩ | ⟨htx, N', jj, hN, rfl, rfl⟩ | ⟨htx, M, n, h1b, hM, rfl⟩ | ⟨htx, M, n, h1b, hM, rfl⟩
  · skip
    skip
    refine W.region ?_
    refine WL.c rfl (o_eqT rfl rfl ?_)
    refine WL.c rfl (o_ash (show _ = Value.bool _ from rfl) ?_)
    refine WL.nil ?_
    refine W.condT' rfl (by rw [htx]; decide) ?_
    refine W.skip ?_
    refine W.condT' rfl (by rw [htx]; decide) ?_
    refine W.seq ?_
    refine W.region ?_
    refine WL.c rfl (o_fa 0 TI30 rfl TI3 rfl h8 ?_)
    refine WL.u (o_stB TI3 rfl (show _ = Value.int .i64 (1) from rfl) rfl hB8 (show 0 < 7 by decide) ?_)
    intro wn hBn hon hsn
    replace hB8 : wn.heap[b8]? = some (.cells (exV { Y with kind := 1 }).toArray 30 (0, 0)) := hBn
    replace hx := hx.trans' hon (fun _ h => h) (fun k hk he => by omega)
    replace hS := hS.only hon (fun b hb he => by simp [Value.ownBlock] at hb; omega)
    replace hK := own_only hK hon (fun b hb he => by have := (hK.lt b hb).1; omega)
    have hzn := hsn
    clear hBn hon
    replace hBk : Bk ≤ wn.heap.size := by omega
    clear hzn hsn
    refine WL.nil ?_
    refine W.seq ?_
    refine W.region ?_
    refine WL.c rfl (o_mvh h0 ?_)
    refine WL.c rfl (o_mvh h1 ?_)
    refine WL.c rfl (o_ixB (i := i) TI54 TI58 rfl rfl (hil) ?_)
    refine WL.c rfl (o_fa 1 TI58 rfl TI9 rfl rfl ?_)
    refine WL.c rfl (o_ld TI9 rfl rfl (tokc hS hil 1 _ rfl) ?_)
    refine WL.c rfl (o_call Try.call77 (lc rfl ln) ((map1_spec (tkA T i).text _).mono ?_))
    rw [htx]
    rintro v53 w53 ⟨rfl, rfl⟩
    refine WL.c rfl (o_fa 1 TI30 rfl TI3 rfl h8 ?_)
    refine WL.u (o_stB TI3 rfl (show _ = Value.int .i64 1 from rfl) rfl hB8 (show 1 < 7 by decide) ?_)
    intro wn hBn hon hsn
    replace hB8 : wn.heap[b8]? = some (.cells (exV (Y.lf 1 1)).toArray 30 (0, 0)) := hBn
    replace hx := hx.trans' hon (fun _ h => h) (fun k hk he => by omega)
    replace hS := hS.only hon (fun b hb he => by simp [Value.ownBlock] at hb; omega)
    replace hK := own_only hK hon (fun b hb he => by have := (hK.lt b hb).1; omega)
    have hzn := hsn
    clear hBn hon
    replace hBk : Bk ≤ wn.heap.size := by omega
    clear hzn hsn
    refine WL.nil ?_
    refine W.region ?_
    refine WL.c rfl (o_mvh h1 ?_)
    refine WL.c rfl (o_addi rfl rfl (by omega) ?_)
    refine WL.c rfl (o_ash (show _ = Value.int _ _ from rfl) ?_)
    refine WL.nil ?_
    refine W.seq ?_
    obtain ⟨Z, hZd⟩ : ∃ Z, Z = Y.lf 1 1 := ⟨_, rfl⟩
    rw [← hZd] at hB8
    have hNm : List.map (plE T) [(atE i x).lf 1 1] = Z :: [] := by rw [hZd, hY]; simp [plE_lf, plE_vec, plE_opt, plE_br, plE_nm]
    have hKl : ([] : List Ex).length ≤ 65536 := by decide
    refine W.region ?_
    refine WL.c rfl (o_ldA TI30 rfl h8 (show Cells _ b8 0 (exV Z) from Cells.of hB8 0 _ (by simp)) rfl ?_)
    obtain ⟨w50, hw50⟩ : ∃ w : World, w.heap[b8]? = some (.cells (exV Z).toArray 30 (0, 0)) := ⟨_, hB8⟩
    refine WL.c rfl (o_bs1 TI38 TI30 (show _ = Value.agg (exV Z).toArray from rfl) (by decide) (by decide) rfl ?_)
    have h166 := own_new1 (w := wn) (v := Value.agg (exV Z).toArray) (el := 30) (s := 7) rfl
    have hx166 := Only.alloc wn (.cells (Value.agg (exV Z).toArray).cells 30)
    have hgz : w0.heap.size ≤ wn.heap.size := hx.size
    generalize wn.alloc (.cells (Value.agg (exV Z).toArray).cells 30) = w166 at h166 hx166 ⊢
    replace hK := own_ext hK hx166
    replace hx := hx.tr hx166
    refine WL.c rfl (o_mvh (by first | exact (show _ = Value.slice _ _ _ from rfl) | exact rfl) ?_)
    refine WL.c rfl (o_apO (w0.heap.size) TI38 TI30 (show _ = Value.slice _ _ _ from rfl) rfl (own_mono h166 hgz) (Sl.own hK) rfl (by decide) (one_exs _) (by rw [maxLen_eq]; omega) (by omega) (hx.size) ?_)
    intro v168 w168 hown hoA hbA _
    replace hx := hx.trans' hoA (fun _ h => h) (fun k hk he => by have := (h166.lt k he).1; omega)
    refine WL.c rfl (o_mvh (show _ = Value.int _ _ from rfl) ?_)
    refine WL.c rfl (o_ash (by first | exact (show _ = Value.slice _ _ _ from rfl) | exact rfl) ?_)
    refine WL.c rfl (o_ash (show _ = Value.int _ _ from rfl) ?_)
    refine WL.nil ?_
    refine W.ret ?_
    refine ret2v rfl rfl (show _ = Value.int _ _ from rfl) ?_
    exact ⟨v168, rfl, by rw [hNm]; simp only [List.length_cons]; rw [Nat.add_comm]; exact hown, hx⟩
  · skip
    skip
    refine W.region ?_
    refine WL.c rfl (o_eqT rfl rfl ?_)
    refine WL.c rfl (o_ash (show _ = Value.bool _ from rfl) ?_)
    refine WL.nil ?_
    refine W.condF' rfl (by rw [htx]; decide) ?_
    refine W.seq ?_
    refine W.region ?_
    refine WL.c rfl (o_eqT rfl rfl ?_)
    refine WL.c rfl (o_ash (show _ = Value.bool _ from rfl) ?_)
    refine WL.nil ?_
    refine W.condT' rfl (by rw [htx]; decide) ?_
    refine W.skip ?_
    refine W.condT' rfl (by rw [htx]; decide) ?_
    refine W.seq ?_
    refine W.region ?_
    refine WL.c rfl (o_fa 0 TI30 rfl TI3 rfl h8 ?_)
    refine WL.u (o_stB TI3 rfl (show _ = Value.int .i64 (1) from rfl) rfl hB8 (show 0 < 7 by decide) ?_)
    intro wn hBn hon hsn
    replace hB8 : wn.heap[b8]? = some (.cells (exV { Y with kind := 1 }).toArray 30 (0, 0)) := hBn
    replace hx := hx.trans' hon (fun _ h => h) (fun k hk he => by omega)
    replace hS := hS.only hon (fun b hb he => by simp [Value.ownBlock] at hb; omega)
    replace hK := own_only hK hon (fun b hb he => by have := (hK.lt b hb).1; omega)
    have hzn := hsn
    clear hBn hon
    replace hBk : Bk ≤ wn.heap.size := by omega
    clear hzn hsn
    refine WL.nil ?_
    refine W.seq ?_
    refine W.region ?_
    refine WL.c rfl (o_mvh h0 ?_)
    refine WL.c rfl (o_mvh h1 ?_)
    refine WL.c rfl (o_ixB (i := i) TI54 TI58 rfl rfl (hil) ?_)
    refine WL.c rfl (o_fa 1 TI58 rfl TI9 rfl rfl ?_)
    refine WL.c rfl (o_ld TI9 rfl rfl (tokc hS hil 1 _ rfl) ?_)
    refine WL.c rfl (o_call Try.call77 (lc rfl ln) ((map1_spec (tkA T i).text _).mono ?_))
    rw [htx]
    rintro v53 w53 ⟨rfl, rfl⟩
    refine WL.c rfl (o_fa 1 TI30 rfl TI3 rfl h8 ?_)
    refine WL.u (o_stB TI3 rfl (show _ = Value.int .i64 2 from rfl) rfl hB8 (show 1 < 7 by decide) ?_)
    intro wn hBn hon hsn
    replace hB8 : wn.heap[b8]? = some (.cells (exV (Y.lf 1 2)).toArray 30 (0, 0)) := hBn
    replace hx := hx.trans' hon (fun _ h => h) (fun k hk he => by omega)
    replace hS := hS.only hon (fun b hb he => by simp [Value.ownBlock] at hb; omega)
    replace hK := own_only hK hon (fun b hb he => by have := (hK.lt b hb).1; omega)
    have hzn := hsn
    clear hBn hon
    replace hBk : Bk ≤ wn.heap.size := by omega
    clear hzn hsn
    refine WL.nil ?_
    refine W.region ?_
    refine WL.c rfl (o_mvh h1 ?_)
    refine WL.c rfl (o_addi rfl rfl (by omega) ?_)
    refine WL.c rfl (o_ash (show _ = Value.int _ _ from rfl) ?_)
    refine WL.nil ?_
    refine W.seq ?_
    obtain ⟨Z, hZd⟩ : ∃ Z, Z = Y.lf 1 2 := ⟨_, rfl⟩
    rw [← hZd] at hB8
    have hNm : List.map (plE T) [(atE i x).lf 1 2] = Z :: [] := by rw [hZd, hY]; simp [plE_lf, plE_vec, plE_opt, plE_br, plE_nm]
    have hKl : ([] : List Ex).length ≤ 65536 := by decide
    refine W.region ?_
    refine WL.c rfl (o_ldA TI30 rfl h8 (show Cells _ b8 0 (exV Z) from Cells.of hB8 0 _ (by simp)) rfl ?_)
    obtain ⟨w50, hw50⟩ : ∃ w : World, w.heap[b8]? = some (.cells (exV Z).toArray 30 (0, 0)) := ⟨_, hB8⟩
    refine WL.c rfl (o_bs1 TI38 TI30 (show _ = Value.agg (exV Z).toArray from rfl) (by decide) (by decide) rfl ?_)
    have h166 := own_new1 (w := wn) (v := Value.agg (exV Z).toArray) (el := 30) (s := 7) rfl
    have hx166 := Only.alloc wn (.cells (Value.agg (exV Z).toArray).cells 30)
    have hgz : w0.heap.size ≤ wn.heap.size := hx.size
    generalize wn.alloc (.cells (Value.agg (exV Z).toArray).cells 30) = w166 at h166 hx166 ⊢
    replace hK := own_ext hK hx166
    replace hx := hx.tr hx166
    refine WL.c rfl (o_mvh (by first | exact (show _ = Value.slice _ _ _ from rfl) | exact rfl) ?_)
    refine WL.c rfl (o_apO (w0.heap.size) TI38 TI30 (show _ = Value.slice _ _ _ from rfl) rfl (own_mono h166 hgz) (Sl.own hK) rfl (by decide) (one_exs _) (by rw [maxLen_eq]; omega) (by omega) (hx.size) ?_)
    intro v168 w168 hown hoA hbA _
    replace hx := hx.trans' hoA (fun _ h => h) (fun k hk he => by have := (h166.lt k he).1; omega)
    refine WL.c rfl (o_mvh (show _ = Value.int _ _ from rfl) ?_)
    refine WL.c rfl (o_ash (by first | exact (show _ = Value.slice _ _ _ from rfl) | exact rfl) ?_)
    refine WL.c rfl (o_ash (show _ = Value.int _ _ from rfl) ?_)
    refine WL.nil ?_
    refine W.ret ?_
    refine ret2v rfl rfl (show _ = Value.int _ _ from rfl) ?_
    exact ⟨v168, rfl, by rw [hNm]; simp only [List.length_cons]; rw [Nat.add_comm]; exact hown, hx⟩
  · skip
    skip
    refine W.region ?_
    refine WL.c rfl (o_eqT rfl rfl ?_)
    refine WL.c rfl (o_ash (show _ = Value.bool _ from rfl) ?_)
    refine WL.nil ?_
    refine W.condF' rfl (by rw [htx]; decide) ?_
    refine W.seq ?_
    refine W.region ?_
    refine WL.c rfl (o_eqT rfl rfl ?_)
    refine WL.c rfl (o_ash (show _ = Value.bool _ from rfl) ?_)
    refine WL.nil ?_
    refine W.condF' rfl (by rw [htx]; decide) ?_
    refine W.seq ?_
    refine W.region ?_
    refine WL.c rfl (o_eqT rfl rfl ?_)
    refine WL.c rfl (o_ash (show _ = Value.bool _ from rfl) ?_)
    refine WL.nil ?_
    refine W.condT' rfl (by rw [htx]; decide) ?_
    refine W.skip ?_
    refine W.condT' rfl (by rw [htx]; decide) ?_
    refine W.seq ?_
    refine W.region ?_
    refine WL.c rfl (o_fa 0 TI30 rfl TI3 rfl h8 ?_)
    refine WL.u (o_stB TI3 rfl (show _ = Value.int .i64 (1) from rfl) rfl hB8 (show 0 < 7 by decide) ?_)
    intro wn hBn hon hsn
    replace hB8 : wn.heap[b8]? = some (.cells (exV { Y with kind := 1 }).toArray 30 (0, 0)) := hBn
    replace hx := hx.trans' hon (fun _ h => h) (fun k hk he => by omega)
    replace hS := hS.only hon (fun b hb he => by simp [Value.ownBlock] at hb; omega)
    replace hK := own_only hK hon (fun b hb he => by have := (hK.lt b hb).1; omega)
    have hzn := hsn
    clear hBn hon
    replace hBk : Bk ≤ wn.heap.size := by omega
    clear hzn hsn
    refine WL.nil ?_
    refine W.seq ?_
    refine W.region ?_
    refine WL.c rfl (o_mvh h0 ?_)
    refine WL.c rfl (o_mvh h1 ?_)
    refine WL.c rfl (o_ixB (i := i) TI54 TI58 rfl rfl (hil) ?_)
    refine WL.c rfl (o_fa 1 TI58 rfl TI9 rfl rfl ?_)
    refine WL.c rfl (o_ld TI9 rfl rfl (tokc hS hil 1 _ rfl) ?_)
    refine WL.c rfl (o_call Try.call77 (lc rfl ln) ((map1_spec (tkA T i).text _).mono ?_))
    rw [htx]
    rintro v53 w53 ⟨rfl, rfl⟩
    refine WL.c rfl (o_fa 1 TI30 rfl TI3 rfl h8 ?_)
    refine WL.u (o_stB TI3 rfl (show _ = Value.int .i64 4 from rfl) rfl hB8 (show 1 < 7 by decide) ?_)
    intro wn hBn hon hsn
    replace hB8 : wn.heap[b8]? = some (.cells (exV (Y.lf 1 4)).toArray 30 (0, 0)) := hBn
    replace hx := hx.trans' hon (fun _ h => h) (fun k hk he => by omega)
    replace hS := hS.only hon (fun b hb he => by simp [Value.ownBlock] at hb; omega)
    replace hK := own_only hK hon (fun b hb he => by have := (hK.lt b hb).1; omega)
    have hzn := hsn
    clear hBn hon
    replace hBk : Bk ≤ wn.heap.size := by omega
    clear hzn hsn
    refine WL.nil ?_
    refine W.region ?_
    refine WL.c rfl (o_mvh h1 ?_)
    refine WL.c rfl (o_addi rfl rfl (by omega) ?_)
    refine WL.c rfl (o_ash (show _ = Value.int _ _ from rfl) ?_)
    refine WL.nil ?_
    refine W.seq ?_
    obtain ⟨Z, hZd⟩ : ∃ Z, Z = Y.lf 1 4 := ⟨_, rfl⟩
    rw [← hZd] at hB8
    have hNm : List.map (plE T) [(atE i x).lf 1 4] = Z :: [] := by rw [hZd, hY]; simp [plE_lf, plE_vec, plE_opt, plE_br, plE_nm]
    have hKl : ([] : List Ex).length ≤ 65536 := by decide
    refine W.region ?_
    refine WL.c rfl (o_ldA TI30 rfl h8 (show Cells _ b8 0 (exV Z) from Cells.of hB8 0 _ (by simp)) rfl ?_)
    obtain ⟨w50, hw50⟩ : ∃ w : World, w.heap[b8]? = some (.cells (exV Z).toArray 30 (0, 0)) := ⟨_, hB8⟩
    refine WL.c rfl (o_bs1 TI38 TI30 (show _ = Value.agg (exV Z).toArray from rfl) (by decide) (by decide) rfl ?_)
    have h166 := own_new1 (w := wn) (v := Value.agg (exV Z).toArray) (el := 30) (s := 7) rfl
    have hx166 := Only.alloc wn (.cells (Value.agg (exV Z).toArray).cells 30)
    have hgz : w0.heap.size ≤ wn.heap.size := hx.size
    generalize wn.alloc (.cells (Value.agg (exV Z).toArray).cells 30) = w166 at h166 hx166 ⊢
    replace hK := own_ext hK hx166
    replace hx := hx.tr hx166
    refine WL.c rfl (o_mvh (by first | exact (show _ = Value.slice _ _ _ from rfl) | exact rfl) ?_)
    refine WL.c rfl (o_apO (w0.heap.size) TI38 TI30 (show _ = Value.slice _ _ _ from rfl) rfl (own_mono h166 hgz) (Sl.own hK) rfl (by decide) (one_exs _) (by rw [maxLen_eq]; omega) (by omega) (hx.size) ?_)
    intro v168 w168 hown hoA hbA _
    replace hx := hx.trans' hoA (fun _ h => h) (fun k hk he => by have := (h166.lt k he).1; omega)
    refine WL.c rfl (o_mvh (show _ = Value.int _ _ from rfl) ?_)
    refine WL.c rfl (o_ash (by first | exact (show _ = Value.slice _ _ _ from rfl) | exact rfl) ?_)
    refine WL.c rfl (o_ash (show _ = Value.int _ _ from rfl) ?_)
    refine WL.nil ?_
    refine W.ret ?_
    refine ret2v rfl rfl (show _ = Value.int _ _ from rfl) ?_
    exact ⟨v168, rfl, by rw [hNm]; simp only [List.length_cons]; rw [Nat.add_comm]; exact hown, hx⟩
  · skip
    skip
    refine W.region ?_
    refine WL.c rfl (o_eqT rfl rfl ?_)
    refine WL.c rfl (o_ash (show _ = Value.bool _ from rfl) ?_)
    refine WL.nil ?_
    refine W.condF' rfl (by rw [htx]; decide) ?_
    refine W.seq ?_
    refine W.region ?_
    refine WL.c rfl (o_eqT rfl rfl ?_)
    refine WL.c rfl (o_ash (show _ = Value.bool _ from rfl) ?_)
    refine WL.nil ?_
    refine W.condF' rfl (by rw [htx]; decide) ?_
    refine W.seq ?_
    refine W.region ?_
    refine WL.c rfl (o_eqT rfl rfl ?_)
    refine WL.c rfl (o_ash (show _ = Value.bool _ from rfl) ?_)
    refine WL.nil ?_
    refine W.condF' rfl (by rw [htx]; decide) ?_
    refine W.region ?_
    refine WL.c rfl (o_eqT rfl rfl ?_)
    refine WL.c rfl (o_ash (show _ = Value.bool _ from rfl) ?_)
    refine WL.nil ?_
    refine W.condT' rfl (by rw [htx]; decide) ?_
    refine W.seq ?_
    refine W.region ?_
    refine WL.c rfl (o_fa 0 TI30 rfl TI3 rfl h8 ?_)
    refine WL.u (o_stB TI3 rfl (show _ = Value.int .i64 (1) from rfl) rfl hB8 (show 0 < 7 by decide) ?_)
    intro wn hBn hon hsn
    replace hB8 : wn.heap[b8]? = some (.cells (exV { Y with kind := 1 }).toArray 30 (0, 0)) := hBn
    replace hx := hx.trans' hon (fun _ h => h) (fun k hk he => by omega)
    replace hS := hS.only hon (fun b hb he => by simp [Value.ownBlock] at hb; omega)
    replace hK := own_only hK hon (fun b hb he => by have := (hK.lt b hb).1; omega)
    have hzn := hsn
    clear hBn hon
    replace hBk : Bk ≤ wn.heap.size := by omega
    clear hzn hsn
    refine WL.nil ?_
    refine W.seq ?_
    refine W.region ?_
    refine WL.c rfl (o_mvh h0 ?_)
    refine WL.c rfl (o_mvh h1 ?_)
    refine WL.c rfl (o_ixB (i := i) TI54 TI58 rfl rfl (hil) ?_)
    refine WL.c rfl (o_fa 1 TI58 rfl TI9 rfl rfl ?_)
    refine WL.c rfl (o_ld TI9 rfl rfl (tokc hS hil 1 _ rfl) ?_)
    refine WL.c rfl (o_call Try.call77 (lc rfl ln) ((map1_spec (tkA T i).text _).mono ?_))
    rw [htx]
    rintro v53 w53 ⟨rfl, rfl⟩
    refine WL.c rfl (o_fa 1 TI30 rfl TI3 rfl h8 ?_)
    refine WL.u (o_stB TI3 rfl (show _ = Value.int .i64 8 from rfl) rfl hB8 (show 1 < 7 by decide) ?_)
    intro wn hBn hon hsn
    replace hB8 : wn.heap[b8]? = some (.cells (exV (Y.lf 1 8)).toArray 30 (0, 0)) := hBn
    replace hx := hx.trans' hon (fun _ h => h) (fun k hk he => by omega)
    replace hS := hS.only hon (fun b hb he => by simp [Value.ownBlock] at hb; omega)
    replace hK := own_only hK hon (fun b hb he => by have := (hK.lt b hb).1; omega)
    have hzn := hsn
    clear hBn hon
    replace hBk : Bk ≤ wn.heap.size := by omega
    clear hzn hsn
    refine WL.nil ?_
    refine W.region ?_
    refine WL.c rfl (o_mvh h1 ?_)
    refine WL.c rfl (o_addi rfl rfl (by omega) ?_)
    refine WL.c rfl (o_ash (show _ = Value.int _ _ from rfl) ?_)
    refine WL.nil ?_
    refine W.seq ?_
    obtain ⟨Z, hZd⟩ : ∃ Z, Z = Y.lf 1 8 := ⟨_, rfl⟩
    rw [← hZd] at hB8
    have hNm : List.map (plE T) [(atE i x).lf 1 8] = Z :: [] := by rw [hZd, hY]; simp [plE_lf, plE_vec, plE_opt, plE_br, plE_nm]
    have hKl : ([] : List Ex).length ≤ 65536 := by decide
    refine W.region ?_
    refine WL.c rfl (o_ldA TI30 rfl h8 (show Cells _ b8 0 (exV Z) from Cells.of hB8 0 _ (by simp)) rfl ?_)
    obtain ⟨w50, hw50⟩ : ∃ w : World, w.heap[b8]? = some (.cells (exV Z).toArray 30 (0, 0)) := ⟨_, hB8⟩
    refine WL.c rfl (o_bs1 TI38 TI30 (show _ = Value.agg (exV Z).toArray from rfl) (by decide) (by decide) rfl ?_)
    have h166 := own_new1 (w := wn) (v := Value.agg (exV Z).toArray) (el := 30) (s := 7) rfl
    have hx166 := Only.alloc wn (.cells (Value.agg (exV Z).toArray).cells 30)
    have hgz : w0.heap.size ≤ wn.heap.size := hx.size
    generalize wn.alloc (.cells (Value.agg (exV Z).toArray).cells 30) = w166 at h166 hx166 ⊢
    replace hK := own_ext hK hx166
    replace hx := hx.tr hx166
    refine WL.c rfl (o_mvh (by first | exact (show _ = Value.slice _ _ _ from rfl) | exact rfl) ?_)
    refine WL.c rfl (o_apO (w0.heap.size) TI38 TI30 (show _ = Value.slice _ _ _ from rfl) rfl (own_mono h166 hgz) (Sl.own hK) rfl (by decide) (one_exs _) (by rw [maxLen_eq]; omega) (by omega) (hx.size) ?_)
    intro v168 w168 hown hoA hbA _
    replace hx := hx.trans' hoA (fun _ h => h) (fun k hk he => by have := (h166.lt k he).1; omega)
    refine WL.c rfl (o_mvh (show _ = Value.int _ _ from rfl) ?_)
    refine WL.c rfl (o_ash (by first | exact (show _ = Value.slice _ _ _ from rfl) | exact rfl) ?_)
    refine WL.c rfl (o_ash (show _ = Value.int _ _ from rfl) ?_)
    refine WL.nil ?_
    refine W.ret ?_
    refine ret2v rfl rfl (show _ = Value.int _ _ from rfl) ?_
    exact ⟨v168, rfl, by rw [hNm]; simp only [List.length_cons]; rw [Nat.add_comm]; exact hown, hx⟩
  · skip
    skip
    refine W.region ?_
    refine WL.c rfl (o_eqT rfl rfl ?_)
    refine WL.c rfl (o_ash (show _ = Value.bool _ from rfl) ?_)
    refine WL.nil ?_
    refine W.condF' rfl (by rw [htx]; decide) ?_
    refine W.seq ?_
    refine W.region ?_
    refine WL.c rfl (o_eqT rfl rfl ?_)
    refine WL.c rfl (o_ash (show _ = Value.bool _ from rfl) ?_)
    refine WL.nil ?_
    refine W.condF' rfl (by rw [htx]; decide) ?_
    refine W.seq ?_
    refine W.region ?_
    refine WL.c rfl (o_eqT rfl rfl ?_)
    refine WL.c rfl (o_ash (show _ = Value.bool _ from rfl) ?_)
    refine WL.nil ?_
    refine W.condF' rfl (by rw [htx]; decide) ?_
    refine W.region ?_
    refine WL.c rfl (o_eqT rfl rfl ?_)
    refine WL.c rfl (o_ash (show _ = Value.bool _ from rfl) ?_)
    refine WL.nil ?_
    refine W.condF' rfl (by rw [htx]; decide) ?_
    refine W.seq ?_
    refine W.region ?_
    refine WL.c rfl (o_eqT rfl rfl ?_)
    refine WL.c rfl (o_ash (show _ = Value.bool _ from rfl) ?_)
    refine WL.nil ?_
    refine W.condT' rfl (by rw [htx]; decide) ?_
    refine W.seq ?_
    refine W.region ?_
    refine WL.c rfl (o_fa 0 TI30 rfl TI3 rfl h8 ?_)
    refine WL.u (o_stB TI3 rfl (show _ = Value.int .i64 (2) from rfl) rfl hB8 (show 0 < 7 by decide) ?_)
    intro wn hBn hon hsn
    replace hB8 : wn.heap[b8]? = some (.cells (exV { Y with kind := 2 }).toArray 30 (0, 0)) := hBn
    replace hx := hx.trans' hon (fun _ h => h) (fun k hk he => by omega)
    replace hS := hS.only hon (fun b hb he => by simp [Value.ownBlock] at hb; omega)
    replace hK := own_only hK hon (fun b hb he => by have := (hK.lt b hb).1; omega)
    have hzn := hsn
    clear hBn hon
    replace hBk : Bk ≤ wn.heap.size := by omega
    clear hzn hsn
    rw [show ({ Y with kind := 2 } : Ex) = Y.lf 2 0 by rw [Ex.lf, ← (show Y.n = 0 from hY ▸ plat_n hxn)]] at hB8
    refine WL.nil ?_
    refine W.region ?_
    refine WL.c rfl (o_mvh h1 ?_)
    refine WL.c rfl (o_addi rfl rfl (by omega) ?_)
    refine WL.c rfl (o_ash (show _ = Value.int _ _ from rfl) ?_)
    refine WL.nil ?_
    refine W.seq ?_
    obtain ⟨Z, hZd⟩ : ∃ Z, Z = Y.lf 2 0 := ⟨_, rfl⟩
    rw [← hZd] at hB8
    have hNm : List.map (plE T) [(atE i x).lf 2 0] = Z :: [] := by rw [hZd, hY]; simp [plE_lf, plE_vec, plE_opt, plE_br, plE_nm]
    have hKl : ([] : List Ex).length ≤ 65536 := by decide
    refine W.region ?_
    refine WL.c rfl (o_ldA TI30 rfl h8 (show Cells _ b8 0 (exV Z) from Cells.of hB8 0 _ (by simp)) rfl ?_)
    obtain ⟨w50, hw50⟩ : ∃ w : World, w.heap[b8]? = some (.cells (exV Z).toArray 30 (0, 0)) := ⟨_, hB8⟩
    refine WL.c rfl (o_bs1 TI38 TI30 (show _ = Value.agg (exV Z).toArray from rfl) (by decide) (by decide) rfl ?_)
    have h166 := own_new1 (w := wn) (v := Value.agg (exV Z).toArray) (el := 30) (s := 7) rfl
    have hx166 := Only.alloc wn (.cells (Value.agg (exV Z).toArray).cells 30)
    have hgz : w0.heap.size ≤ wn.heap.size := hx.size
    generalize wn.alloc (.cells (Value.agg (exV Z).toArray).cells 30) = w166 at h166 hx166 ⊢
    replace hK := own_ext hK hx166
    replace hx := hx.tr hx166
    refine WL.c rfl (o_mvh (by first | exact (show _ = Value.slice _ _ _ from rfl) | exact rfl) ?_)
    refine WL.c rfl (o_apO (w0.heap.size) TI38 TI30 (show _ = Value.slice _ _ _ from rfl) rfl (own_mono h166 hgz) (Sl.own hK) rfl (by decide) (one_exs _) (by rw [maxLen_eq]; omega) (by omega) (hx.size) ?_)
    intro v168 w168 hown hoA hbA _
    replace hx := hx.trans' hoA (fun _ h => h) (fun k hk he => by have := (h166.lt k he).1; omega)
    refine WL.c rfl (o_mvh (show _ = Value.int _ _ from rfl) ?_)
    refine WL.c rfl (o_ash (by first | exact (show _ = Value.slice _ _ _ from rfl) | exact rfl) ?_)
    refine WL.c rfl (o_ash (show _ = Value.int _ _ from rfl) ?_)
    refine WL.nil ?_
    refine W.ret ?_
    refine ret2v rfl rfl (show _ = Value.int _ _ from rfl) ?_
    exact ⟨v168, rfl, by rw [hNm]; simp only [List.length_cons]; rw [Nat.add_comm]; exact hown, hx⟩
  · skip
    skip
    refine W.region ?_
    refine WL.c rfl (o_eqT rfl rfl ?_)
    refine WL.c rfl (o_ash (show _ = Value.bool _ from rfl) ?_)
    refine WL.nil ?_
    refine W.condF' rfl (by rw [htx]; decide) ?_
    refine W.seq ?_
    refine W.region ?_
    refine WL.c rfl (o_eqT rfl rfl ?_)
    refine WL.c rfl (o_ash (show _ = Value.bool _ from rfl) ?_)
    refine WL.nil ?_
    refine W.condF' rfl (by rw [htx]; decide) ?_
    refine W.seq ?_
    refine W.region ?_
    refine WL.c rfl (o_eqT rfl rfl ?_)
    refine WL.c rfl (o_ash (show _ = Value.bool _ from rfl) ?_)
    refine WL.nil ?_
    refine W.condF' rfl (by rw [htx]; decide) ?_
    refine W.region ?_
    refine WL.c rfl (o_eqT rfl rfl ?_)
    refine WL.c rfl (o_ash (show _ = Value.bool _ from rfl) ?_)
    refine WL.nil ?_
    refine W.condF' rfl (by rw [htx]; decide) ?_
    refine W.seq ?_
    refine W.region ?_
    refine WL.c rfl (o_eqT rfl rfl ?_)
    refine WL.c rfl (o_ash (show _ = Value.bool _ from rfl) ?_)
    refine WL.nil ?_
    refine W.condF' rfl (by rw [htx]; decide) ?_
    refine W.seq ?_
    refine W.region ?_
    refine WL.c rfl (o_eqT rfl rfl ?_)
    refine WL.c rfl (o_ash (show _ = Value.bool _ from rfl) ?_)
    refine WL.nil ?_
    refine W.condT' rfl (by rw [htx]; decide) ?_
    refine W.seq ?_
    refine W.region ?_
    refine WL.c rfl (o_fa 0 TI30 rfl TI3 rfl h8 ?_)
    refine WL.u (o_stB TI3 rfl (show _ = Value.int .i64 (3) from rfl) rfl hB8 (show 0 < 7 by decide) ?_)
    intro wn hBn hon hsn
    replace hB8 : wn.heap[b8]? = some (.cells (exV { Y with kind := 3 }).toArray 30 (0, 0)) := hBn
    replace hx := hx.trans' hon (fun _ h => h) (fun k hk he => by omega)
    replace hS := hS.only hon (fun b hb he => by simp [Value.ownBlock] at hb; omega)
    replace hK := own_only hK hon (fun b hb he => by have := (hK.lt b hb).1; omega)
    have hzn := hsn
    clear hBn hon
    replace hBk : Bk ≤ wn.heap.size := by omega
    clear hzn hsn
    rw [show ({ Y with kind := 3 } : Ex) = Y.lf 3 0 by rw [Ex.lf, ← (show Y.n = 0 from hY ▸ plat_n hxn)]] at hB8
    refine WL.nil ?_
    refine W.region ?_
    refine WL.c rfl (o_mvh h1 ?_)
    refine WL.c rfl (o_addi rfl rfl (by omega) ?_)
    refine WL.c rfl (o_ash (show _ = Value.int _ _ from rfl) ?_)
    refine WL.nil ?_
    refine W.seq ?_
    obtain ⟨Z, hZd⟩ : ∃ Z, Z = Y.lf 3 0 := ⟨_, rfl⟩
    rw [← hZd] at hB8
    have hNm : List.map (plE T) [(atE i x).lf 3 0] = Z :: [] := by rw [hZd, hY]; simp [plE_lf, plE_vec, plE_opt, plE_br, plE_nm]
    have hKl : ([] : List Ex).length ≤ 65536 := by decide
    refine W.region ?_
    refine WL.c rfl (o_ldA TI30 rfl h8 (show Cells _ b8 0 (exV Z) from Cells.of hB8 0 _ (by simp)) rfl ?_)
    obtain ⟨w50, hw50⟩ : ∃ w : World, w.heap[b8]? = some (.cells (exV Z).toArray 30 (0, 0)) := ⟨_, hB8⟩
    refine WL.c rfl (o_bs1 TI38 TI30 (show _ = Value.agg (exV Z).toArray from rfl) (by decide) (by decide) rfl ?_)
    have h166 := own_new1 (w := wn) (v := Value.agg (exV Z).toArray) (el := 30) (s := 7) rfl
    have hx166 := Only.alloc wn (.cells (Value.agg (exV Z).toArray).cells 30)
    have hgz : w0.heap.size ≤ wn.heap.size := hx.size
    generalize wn.alloc (.cells (Value.agg (exV Z).toArray).cells 30) = w166 at h166 hx166 ⊢
    replace hK := own_ext hK hx166
    replace hx := hx.tr hx166
    refine WL.c rfl (o_mvh (by first | exact (show _ = Value.slice _ _ _ from rfl) | exact rfl) ?_)
    refine WL.c rfl (o_apO (w0.heap.size) TI38 TI30 (show _ = Value.slice _ _ _ from rfl) rfl (own_mono h166 hgz) (Sl.own hK) rfl (by decide) (one_exs _) (by rw [maxLen_eq]; omega) (by omega) (hx.size) ?_)
    intro v168 w168 hown hoA hbA _
    replace hx := hx.trans' hoA (fun _ h => h) (fun k hk he => by have := (h166.lt k he).1; omega)
    refine WL.c rfl (o_mvh (show _ = Value.int _ _ from rfl) ?_)
    refine WL.c rfl (o_ash (by first | exact (show _ = Value.slice _ _ _ from rfl) | exact rfl) ?_)
    refine WL.c rfl (o_ash (show _ = Value.int _ _ from rfl) ?_)
    refine WL.nil ?_
    refine W.ret ?_
    refine ret2v rfl rfl (show _ = Value.int _ _ from rfl) ?_
    exact ⟨v168, rfl, by rw [hNm]; simp only [List.length_cons]; rw [Nat.add_comm]; exact hown, hx⟩
  · skip
    skip
    refine W.region ?_
    refine WL.c rfl (o_eqT rfl rfl ?_)
    refine WL.c rfl (o_ash (show _ = Value.bool _ from rfl) ?_)
    refine WL.nil ?_
    refine W.condF' rfl (decide_eq_false (hnw _ (by decide))) ?_
    refine W.seq ?_
    refine W.region ?_
    refine WL.c rfl (o_eqT rfl rfl ?_)
    refine WL.c rfl (o_ash (show _ = Value.bool _ from rfl) ?_)
    refine WL.nil ?_
    refine W.condF' rfl (decide_eq_false (hnw _ (by decide))) ?_
    refine W.seq ?_
    refine W.region ?_
    refine WL.c rfl (o_eqT rfl rfl ?_)
    refine WL.c rfl (o_ash (show _ = Value.bool _ from rfl) ?_)
    refine WL.nil ?_
    refine W.condF' rfl (decide_eq_false (hnw _ (by decide))) ?_
    refine W.region ?_
    refine WL.c rfl (o_eqT rfl rfl ?_)
    refine WL.c rfl (o_ash (show _ = Value.bool _ from rfl) ?_)
    refine WL.nil ?_
    refine W.condF' rfl (decide_eq_false (hnw _ (by decide))) ?_
    refine W.seq ?_
    refine W.region ?_
    refine WL.c rfl (o_eqT rfl rfl ?_)
    refine WL.c rfl (o_ash (show _ = Value.bool _ from rfl) ?_)
    refine WL.nil ?_
    refine W.condF' rfl (decide_eq_false (hnw _ (by decide))) ?_
    refine W.seq ?_
    refine W.region ?_
    refine WL.c rfl (o_eqT rfl rfl ?_)
    refine WL.c rfl (o_ash (show _ = Value.bool _ from rfl) ?_)
    refine WL.nil ?_
    refine W.condF' rfl (decide_eq_false (hnw _ (by decide))) ?_
    refine W.seq ?_
    refine W.seq ?_
    refine W.region ?_
    refine WL.c rfl (o_eqT rfl rfl ?_)
    refine WL.c rfl (o_ash (show _ = Value.bool _ from rfl) ?_)
    refine WL.nil ?_
    refine W.condF' rfl (decide_eq_false (hnw _ (by decide))) ?_
    refine W.region ?_
    refine WL.c rfl (o_eqT rfl rfl ?_)
    refine WL.c rfl (o_ash (show _ = Value.bool _ from rfl) ?_)
    refine WL.nil ?_
    refine W.condF' rfl (decide_eq_false (hnw _ (by decide))) ?_
    refine W.seq ?_
    refine W.region ?_
    refine WL.c rfl (o_eqT rfl rfl ?_)
    refine WL.c rfl (o_ash (show _ = Value.bool _ from rfl) ?_)
    refine WL.nil ?_
    refine W.condF' rfl (decide_eq_false (hnw _ (by decide))) ?_
    refine W.seq ?_
    refine W.seq ?_
    refine W.region ?_
    refine WL.c rfl (o_eqT rfl rfl ?_)
    refine WL.c rfl (o_ash (show _ = Value.bool _ from rfl) ?_)
    refine WL.nil ?_
    refine W.condF' rfl (decide_eq_false (hnw _ (by decide))) ?_
    refine W.region ?_
    refine WL.c rfl (o_eqT rfl rfl ?_)
    refine WL.c rfl (o_ash (show _ = Value.bool _ from rfl) ?_)
    refine WL.nil ?_
    refine W.condF' rfl (decide_eq_false (hnw _ (by decide))) ?_
    refine W.seq ?_
    refine W.region ?_
    refine WL.c rfl (o_fa 0 TI30 rfl TI3 rfl h8 ?_)
    refine WL.u (o_stB TI3 rfl (show _ = Value.int .i64 (9) from rfl) rfl hB8 (show 0 < 7 by decide) ?_)
    intro wn hBn hon hsn
    replace hB8 : wn.heap[b8]? = some (.cells (exV { Y with kind := 9 }).toArray 30 (0, 0)) := hBn
    replace hx := hx.trans' hon (fun _ h => h) (fun k hk he => by omega)
    replace hS := hS.only hon (fun b hb he => by simp [Value.ownBlock] at hb; omega)
    replace hK := own_only hK hon (fun b hb he => by have := (hK.lt b hb).1; omega)
    have hzn := hsn
    clear hBn hon
    replace hBk : Bk ≤ wn.heap.size := by omega
    clear hzn hsn
    refine WL.nil ?_
    refine W.seq ?_
    refine W.region ?_
    refine WL.c rfl (o_mvh h0 ?_)
    refine WL.c rfl (o_mvh h1 ?_)
    refine WL.c rfl (o_ixB (i := i) TI54 TI58 rfl rfl (hil) ?_)
    refine WL.c rfl (o_fa 1 TI58 rfl TI9 rfl rfl ?_)
    refine WL.c rfl (o_ld TI9 rfl rfl (tokc hS hil 1 _ rfl) ?_)
    refine WL.c rfl (o_fa 2 TI30 rfl TI9 rfl h8 ?_)
    refine WL.u (o_stB TI9 rfl (show _ = st (tkA T i).text from rfl) rfl hB8 (show 2 < 7 by decide) ?_)
    intro wn hBn hon hsn
    replace hB8 : wn.heap[b8]? = some (.cells (exV (Y.nm (tkA T i).text)).toArray 30 (0, 0)) := hBn
    replace hx := hx.trans' hon (fun _ h => h) (fun k hk he => by omega)
    replace hS := hS.only hon (fun b hb he => by simp [Value.ownBlock] at hb; omega)
    replace hK := own_only hK hon (fun b hb he => by have := (hK.lt b hb).1; omega)
    have hzn := hsn
    clear hBn hon
    replace hBk : Bk ≤ wn.heap.size := by omega
    clear hzn hsn
    refine WL.nil ?_
    refine W.region ?_
    refine WL.c rfl (o_mvh h1 ?_)
    refine WL.c rfl (o_addi rfl rfl (by omega) ?_)
    refine WL.c rfl (o_ash (show _ = Value.int _ _ from rfl) ?_)
    refine WL.nil ?_
    refine W.seq ?_
    obtain ⟨Z, hZd⟩ : ∃ Z, Z = Y.nm (tkA T i).text := ⟨_, rfl⟩
    rw [← hZd] at hB8
    have hNm : List.map (plE T) [(atE i x).nm (tkA T i).text] = Z :: [] := by rw [hZd, hY]; simp [plE_lf, plE_vec, plE_opt, plE_br, plE_nm]
    have hKl : ([] : List Ex).length ≤ 65536 := by decide
    refine W.region ?_
    refine WL.c rfl (o_ldA TI30 rfl h8 (show Cells _ b8 0 (exV Z) from Cells.of hB8 0 _ (by simp)) rfl ?_)
    obtain ⟨w50, hw50⟩ : ∃ w : World, w.heap[b8]? = some (.cells (exV Z).toArray 30 (0, 0)) := ⟨_, hB8⟩
    refine WL.c rfl (o_bs1 TI38 TI30 (show _ = Value.agg (exV Z).toArray from rfl) (by decide) (by decide) rfl ?_)
    have h166 := own_new1 (w := wn) (v := Value.agg (exV Z).toArray) (el := 30) (s := 7) rfl
    have hx166 := Only.alloc wn (.cells (Value.agg (exV Z).toArray).cells 30)
    have hgz : w0.heap.size ≤ wn.heap.size := hx.size
    generalize wn.alloc (.cells (Value.agg (exV Z).toArray).cells 30) = w166 at h166 hx166 ⊢
    replace hK := own_ext hK hx166
    replace hx := hx.tr hx166
    refine WL.c rfl (o_mvh (by first | exact (show _ = Value.slice _ _ _ from rfl) | exact rfl) ?_)
    refine WL.c rfl (o_apO (w0.heap.size) TI38 TI30 (show _ = Value.slice _ _ _ from rfl) rfl (own_mono h166 hgz) (Sl.own hK) rfl (by decide) (one_exs _) (by rw [maxLen_eq]; omega) (by omega) (hx.size) ?_)
    intro v168 w168 hown hoA hbA _
    replace hx := hx.trans' hoA (fun _ h => h) (fun k hk he => by have := (h166.lt k he).1; omega)
    refine WL.c rfl (o_mvh (show _ = Value.int _ _ from rfl) ?_)
    refine WL.c rfl (o_ash (by first | exact (show _ = Value.slice _ _ _ from rfl) | exact rfl) ?_)
    refine WL.c rfl (o_ash (show _ = Value.int _ _ from rfl) ?_)
    refine WL.nil ?_
    refine W.ret ?_
    refine ret2v rfl rfl (show _ = Value.int _ _ from rfl) ?_
    exact ⟨v168, rfl, by rw [hNm]; simp only [List.length_cons]; rw [Nat.add_comm]; exact hown, hx⟩
  · skip
    have hr := px_rise hN
    have hjT := tkA_kind (by decide) h3
    obtain ⟨hr1, hr2, -⟩ := hr
    have hNl : N'.length ≤ 65536 := by have := px_len hN; omega
    refine W.region ?_
    refine WL.c rfl (o_eqT rfl rfl ?_)
    refine WL.c rfl (o_ash (show _ = Value.bool _ from rfl) ?_)
    refine WL.nil ?_
    refine W.condF' rfl (by rw [htx]; decide) ?_
    refine W.seq ?_
    refine W.region ?_
    refine WL.c rfl (o_eqT rfl rfl ?_)
    refine WL.c rfl (o_ash (show _ = Value.bool _ from rfl) ?_)
    refine WL.nil ?_
    refine W.condF' rfl (by rw [htx]; decide) ?_
    refine W.seq ?_
    refine W.region ?_
    refine WL.c rfl (o_eqT rfl rfl ?_)
    refine WL.c rfl (o_ash (show _ = Value.bool _ from rfl) ?_)
    refine WL.nil ?_
    refine W.condF' rfl (by rw [htx]; decide) ?_
    refine W.region ?_
    refine WL.c rfl (o_eqT rfl rfl ?_)
    refine WL.c rfl (o_ash (show _ = Value.bool _ from rfl) ?_)
    refine WL.nil ?_
    refine W.condF' rfl (by rw [htx]; decide) ?_
    refine W.seq ?_
    refine W.region ?_
    refine WL.c rfl (o_eqT rfl rfl ?_)
    refine WL.c rfl (o_ash (show _ = Value.bool _ from rfl) ?_)
    refine WL.nil ?_
    refine W.condF' rfl (by rw [htx]; decide) ?_
    refine W.seq ?_
    refine W.region ?_
    refine WL.c rfl (o_eqT rfl rfl ?_)
    refine WL.c rfl (o_ash (show _ = Value.bool _ from rfl) ?_)
    refine WL.nil ?_
    refine W.condF' rfl (by rw [htx]; decide) ?_
    refine W.seq ?_
    refine W.seq ?_
    refine W.region ?_
    refine WL.c rfl (o_eqT rfl rfl ?_)
    refine WL.c rfl (o_ash (show _ = Value.bool _ from rfl) ?_)
    refine WL.nil ?_
    refine W.condT' rfl (by rw [htx]; decide) ?_
    refine W.skip ?_
    refine W.condT' rfl (by rw [htx]; decide) ?_
    refine W.seq ?_
    refine W.region ?_
    refine WL.c rfl (o_fa 0 TI30 rfl TI3 rfl h8 ?_)
    refine WL.u (o_stB TI3 rfl (show _ = Value.int .i64 (4) from rfl) rfl hB8 (show 0 < 7 by decide) ?_)
    intro wn hBn hon hsn
    replace hB8 : wn.heap[b8]? = some (.cells (exV { Y with kind := 4 }).toArray 30 (0, 0)) := hBn
    replace hx := hx.trans' hon (fun _ h => h) (fun k hk he => by omega)
    replace hS := hS.only hon (fun b hb he => by simp [Value.ownBlock] at hb; omega)
    replace hK := own_only hK hon (fun b hb he => by have := (hK.lt b hb).1; omega)
    have hzn := hsn
    clear hBn hon
    replace hBk : Bk ≤ wn.heap.size := by omega
    clear hzn hsn
    refine WL.nil ?_
    refine W.seq ?_
    refine W.seq ?_
    refine W.region ?_
    refine WL.c rfl (o_mvh h0 ?_)
    refine WL.c rfl (o_mvh h1 ?_)
    refine WL.c rfl (o_ixB (i := i) TI54 TI58 rfl rfl (hil) ?_)
    refine WL.c rfl (o_fa 1 TI58 rfl TI9 rfl rfl ?_)
    refine WL.c rfl (o_ld TI9 rfl rfl (tokc hS hil 1 _ rfl) ?_)
    refine WL.c rfl (o_eqT rfl rfl ?_)
    refine WL.nil ?_
    refine W.condF' rfl (by rw [htx]; decide) ?_
    refine W.skip ?_
    refine W.seq ?_
    refine W.region ?_
    refine WL.c rfl (o_fa 5 TI30 rfl TI3 rfl h8 ?_)
    refine WL.u (o_stB TI3 rfl (show _ = Value.int .i64 (1) from rfl) rfl hB8 (show 5 < 7 by decide) ?_)
    intro wn hBn hon hsn
    replace hB8 : wn.heap[b8]? = some (.cells (exV { Y with kind := 4, kids := 1 }).toArray 30 (0, 0)) := hBn
    replace hx := hx.trans' hon (fun _ h => h) (fun k hk he => by omega)
    replace hS := hS.only hon (fun b hb he => by simp [Value.ownBlock] at hb; omega)
    replace hK := own_only hK hon (fun b hb he => by have := (hK.lt b hb).1; omega)
    have hzn := hsn
    clear hBn hon
    replace hBk : Bk ≤ wn.heap.size := by omega
    clear hzn hsn
    refine WL.nil ?_
    refine W.seq ?_
    refine W.region ?_
    refine WL.c rfl (o_mvh h0 ?_)
    refine WL.c rfl (o_mvh h1 ?_)
    refine WL.c rfl (o_addi rfl rfl (by omega) ?_)
    refine WL.c rfl (o_bldC (cs := [(.int .i64 0), (.int .i64 0), (.string ⟨#[]⟩), (.string ⟨#[]⟩), (.int .i64 0), (.int .i64 0), (.int .i64 0)]) TI30 (Sizes.cons TI3 (Sizes.cons TI3 (Sizes.cons TI9 (Sizes.cons TI9 (Sizes.cons TI3 (Sizes.cons TI3 (Sizes.cons TI3 Sizes.nil))))))) rfl lnp rfl rfl ?_)
    obtain ⟨wc, hwc⟩ : ∃ wc : World, Bk ≤ wc.heap.size := ⟨_, hBk⟩
    refine WL.c rfl (o_call Try.call72 (lc rfl (lc rfl (lc rfl ln))) ((IH _ _ _ _ _ ex0 _ hN (by omega) ⟨rfl, rfl⟩ fst_0 hS).mono ?_))
    rintro v84 w84 ⟨kv, rfl, hK2, hx84⟩
    replace hx := hx.tr hx84
    replace hS := hS.ext hx84
    replace hB8 := hx84.blk hB8 (fun h => h)
    replace hK := own_mono hK2 hBk
    clear hK2
    replace hBk : Bk ≤ w84.heap.size := Nat.le_trans hBk hx84.size
    refine WL.c rfl (o_mvh (by first | exact (show _ = Value.tuple _ from rfl) | exact rfl) ?_)
    refine WL.c rfl (o_ext rfl rfl ?_)
    refine WL.c rfl (o_ext rfl rfl ?_)
    refine WL.c rfl (o_ash (by first | exact (show _ = Value.slice _ _ _ from rfl) | exact rfl) ?_)
    refine WL.c rfl (o_ash (show _ = Value.int _ _ from rfl) ?_)
    refine WL.nil ?_
    refine W.seq ?_
    refine W.region ?_
    refine WL.c rfl (o_mvh h0 ?_)
    refine WL.c rfl (o_mvh (show _ = Value.int _ _ from rfl) ?_)
    refine WL.c rfl (o_addi rfl rfl (by omega) ?_)
    refine WL.c rfl (o_ixB (i := jj + 1) TI54 TI58 rfl rfl (by omega) ?_)
    refine WL.c rfl (o_fa 2 TI58 rfl TI3 rfl rfl ?_)
    refine WL.c rfl (o_ld TI3 rfl rfl (tokc hS (by omega) 2 _ rfl) ?_)
    refine WL.c rfl (o_fa 1 TI30 rfl TI3 rfl h8 ?_)
    refine WL.u (o_stB TI3 rfl (show _ = Value.int .i64 ((tkA T (jj + 1)).n : Int) from rfl) rfl hB8 (show 1 < 7 by decide) ?_)
    intro wn hBn hon hsn
    replace hB8 : wn.heap[b8]? = some (.cells (exV (Y.vec false (tkA T (jj + 1)).n)).toArray 30 (0, 0)) := hBn
    replace hx := hx.trans' hon (fun _ h => h) (fun k hk he => by omega)
    replace hS := hS.only hon (fun b hb he => by simp [Value.ownBlock] at hb; omega)
    replace hK := own_only hK hon (fun b hb he => by have := (hK.lt b hb).1; omega)
    have hzn := hsn
    clear hBn hon
    replace hBk : Bk ≤ wn.heap.size := by omega
    clear hzn hsn
    refine WL.nil ?_
    refine W.region ?_
    refine WL.c rfl (o_mvh (show _ = Value.int _ _ from rfl) ?_)
    refine WL.c rfl (o_addi rfl rfl (by omega) ?_)
    refine WL.c rfl (o_ash (show _ = Value.int _ _ from rfl) ?_)
    refine WL.nil ?_
    refine W.seq ?_
    obtain ⟨Z, hZd⟩ : ∃ Z, Z = Y.vec false (tkA T (jj + 1)).n := ⟨_, rfl⟩
    rw [← hZd] at hB8
    have hNm : List.map (plE T) ((atE i x).vec false (tkA T (jj + 1)).n :: N') = Z :: N'.map (plE T) := by rw [hZd, hY]; simp [plE_lf, plE_vec, plE_opt, plE_br, plE_nm]
    have hKl : N'.length ≤ 65536 := hNl
    refine W.region ?_
    refine WL.c rfl (o_ldA TI30 rfl h8 (show Cells _ b8 0 (exV Z) from Cells.of hB8 0 _ (by simp)) rfl ?_)
    obtain ⟨w50, hw50⟩ : ∃ w : World, w.heap[b8]? = some (.cells (exV Z).toArray 30 (0, 0)) := ⟨_, hB8⟩
    refine WL.c rfl (o_bs1 TI38 TI30 (show _ = Value.agg (exV Z).toArray from rfl) (by decide) (by decide) rfl ?_)
    have h166 := own_new1 (w := wn) (v := Value.agg (exV Z).toArray) (el := 30) (s := 7) rfl
    have hx166 := Only.alloc wn (.cells (Value.agg (exV Z).toArray).cells 30)
    have hgz : w0.heap.size ≤ wn.heap.size := hx.size
    generalize wn.alloc (.cells (Value.agg (exV Z).toArray).cells 30) = w166 at h166 hx166 ⊢
    replace hK := own_ext hK hx166
    replace hx := hx.tr hx166
    refine WL.c rfl (o_mvh (by first | exact (show _ = Value.slice _ _ _ from rfl) | exact rfl) ?_)
    refine WL.c rfl (o_apO (w0.heap.size) TI38 TI30 (show _ = Value.slice _ _ _ from rfl) rfl (own_mono h166 hgz) (Sl.own hK) rfl (by decide) (one_exs _) (by rw [maxLen_eq]; omega) (by omega) (hx.size) ?_)
    intro v168 w168 hown hoA hbA _
    replace hx := hx.trans' hoA (fun _ h => h) (fun k hk he => by have := (h166.lt k he).1; omega)
    refine WL.c rfl (o_mvh (show _ = Value.int _ _ from rfl) ?_)
    refine WL.c rfl (o_ash (by first | exact (show _ = Value.slice _ _ _ from rfl) | exact rfl) ?_)
    refine WL.c rfl (o_ash (show _ = Value.int _ _ from rfl) ?_)
    refine WL.nil ?_
    refine W.ret ?_
    refine ret2v rfl rfl (show _ = Value.int _ _ from rfl) ?_
    exact ⟨v168, rfl, by rw [hNm]; simp only [List.length_cons]; rw [Nat.add_comm]; exact hown, hx⟩
  · skip
    have hr := px_rise hN
    have hjT := tkA_kind (by decide) h3
    obtain ⟨hr1, hr2, -⟩ := hr
    have hNl : N'.length ≤ 65536 := by have := px_len hN; omega
    refine W.region ?_
    refine WL.c rfl (o_eqT rfl rfl ?_)
    refine WL.c rfl (o_ash (show _ = Value.bool _ from rfl) ?_)
    refine WL.nil ?_
    refine W.condF' rfl (by rw [htx]; decide) ?_
    refine W.seq ?_
    refine W.region ?_
    refine WL.c rfl (o_eqT rfl rfl ?_)
    refine WL.c rfl (o_ash (show _ = Value.bool _ from rfl) ?_)
    refine WL.nil ?_
    refine W.condF' rfl (by rw [htx]; decide) ?_
    refine W.seq ?_
    refine W.region ?_
    refine WL.c rfl (o_eqT rfl rfl ?_)
    refine WL.c rfl (o_ash (show _ = Value.bool _ from rfl) ?_)
    refine WL.nil ?_
    refine W.condF' rfl (by rw [htx]; decide) ?_
    refine W.region ?_
    refine WL.c rfl (o_eqT rfl rfl ?_)
    refine WL.c rfl (o_ash (show _ = Value.bool _ from rfl) ?_)
    refine WL.nil ?_
    refine W.condF' rfl (by rw [htx]; decide) ?_
    refine W.seq ?_
    refine W.region ?_
    refine WL.c rfl (o_eqT rfl rfl ?_)
    refine WL.c rfl (o_ash (show _ = Value.bool _ from rfl) ?_)
    refine WL.nil ?_
    refine W.condF' rfl (by rw [htx]; decide) ?_
    refine W.seq ?_
    refine W.region ?_
    refine WL.c rfl (o_eqT rfl rfl ?_)
    refine WL.c rfl (o_ash (show _ = Value.bool _ from rfl) ?_)
    refine WL.nil ?_
    refine W.condF' rfl (by rw [htx]; decide) ?_
    refine W.seq ?_
    refine W.seq ?_
    refine W.region ?_
    refine WL.c rfl (o_eqT rfl rfl ?_)
    refine WL.c rfl (o_ash (show _ = Value.bool _ from rfl) ?_)
    refine WL.nil ?_
    refine W.condF' rfl (by rw [htx]; decide) ?_
    refine W.region ?_
    refine WL.c rfl (o_eqT rfl rfl ?_)
    refine WL.c rfl (o_ash (show _ = Value.bool _ from rfl) ?_)
    refine WL.nil ?_
    refine W.condT' rfl (by rw [htx]; decide) ?_
    refine W.seq ?_
    refine W.region ?_
    refine WL.c rfl (o_fa 0 TI30 rfl TI3 rfl h8 ?_)
    refine WL.u (o_stB TI3 rfl (show _ = Value.int .i64 (4) from rfl) rfl hB8 (show 0 < 7 by decide) ?_)
    intro wn hBn hon hsn
    replace hB8 : wn.heap[b8]? = some (.cells (exV { Y with kind := 4 }).toArray 30 (0, 0)) := hBn
    replace hx := hx.trans' hon (fun _ h => h) (fun k hk he => by omega)
    replace hS := hS.only hon (fun b hb he => by simp [Value.ownBlock] at hb; omega)
    replace hK := own_only hK hon (fun b hb he => by have := (hK.lt b hb).1; omega)
    have hzn := hsn
    clear hBn hon
    replace hBk : Bk ≤ wn.heap.size := by omega
    clear hzn hsn
    refine WL.nil ?_
    refine W.seq ?_
    refine W.seq ?_
    refine W.region ?_
    refine WL.c rfl (o_mvh h0 ?_)
    refine WL.c rfl (o_mvh h1 ?_)
    refine WL.c rfl (o_ixB (i := i) TI54 TI58 rfl rfl (hil) ?_)
    refine WL.c rfl (o_fa 1 TI58 rfl TI9 rfl rfl ?_)
    refine WL.c rfl (o_ld TI9 rfl rfl (tokc hS hil 1 _ rfl) ?_)
    refine WL.c rfl (o_eqT rfl rfl ?_)
    refine WL.nil ?_
    refine W.condT' rfl (by rw [htx]; decide) ?_
    refine W.region ?_
    refine WL.c rfl (o_fa 0 TI30 rfl TI3 rfl h8 ?_)
    refine WL.u (o_stB TI3 rfl (show _ = Value.int .i64 (5) from rfl) rfl hB8 (show 0 < 7 by decide) ?_)
    intro wn hBn hon hsn
    replace hB8 : wn.heap[b8]? = some (.cells (exV { Y with kind := 5 }).toArray 30 (0, 0)) := hBn
    replace hx := hx.trans' hon (fun _ h => h) (fun k hk he => by omega)
    replace hS := hS.only hon (fun b hb he => by simp [Value.ownBlock] at hb; omega)
    replace hK := own_only hK hon (fun b hb he => by have := (hK.lt b hb).1; omega)
    have hzn := hsn
    clear hBn hon
    replace hBk : Bk ≤ wn.heap.size := by omega
    clear hzn hsn
    refine WL.nil ?_
    refine W.seq ?_
    refine W.region ?_
    refine WL.c rfl (o_fa 5 TI30 rfl TI3 rfl h8 ?_)
    refine WL.u (o_stB TI3 rfl (show _ = Value.int .i64 (1) from rfl) rfl hB8 (show 5 < 7 by decide) ?_)
    intro wn hBn hon hsn
    replace hB8 : wn.heap[b8]? = some (.cells (exV { Y with kind := 5, kids := 1 }).toArray 30 (0, 0)) := hBn
    replace hx := hx.trans' hon (fun _ h => h) (fun k hk he => by omega)
    replace hS := hS.only hon (fun b hb he => by simp [Value.ownBlock] at hb; omega)
    replace hK := own_only hK hon (fun b hb he => by have := (hK.lt b hb).1; omega)
    have hzn := hsn
    clear hBn hon
    replace hBk : Bk ≤ wn.heap.size := by omega
    clear hzn hsn
    refine WL.nil ?_
    refine W.seq ?_
    refine W.region ?_
    refine WL.c rfl (o_mvh h0 ?_)
    refine WL.c rfl (o_mvh h1 ?_)
    refine WL.c rfl (o_addi rfl rfl (by omega) ?_)
    refine WL.c rfl (o_bldC (cs := [(.int .i64 0), (.int .i64 0), (.string ⟨#[]⟩), (.string ⟨#[]⟩), (.int .i64 0), (.int .i64 0), (.int .i64 0)]) TI30 (Sizes.cons TI3 (Sizes.cons TI3 (Sizes.cons TI9 (Sizes.cons TI9 (Sizes.cons TI3 (Sizes.cons TI3 (Sizes.cons TI3 Sizes.nil))))))) rfl lnp rfl rfl ?_)
    obtain ⟨wc, hwc⟩ : ∃ wc : World, Bk ≤ wc.heap.size := ⟨_, hBk⟩
    refine WL.c rfl (o_call Try.call72 (lc rfl (lc rfl (lc rfl ln))) ((IH _ _ _ _ _ ex0 _ hN (by omega) ⟨rfl, rfl⟩ fst_0 hS).mono ?_))
    rintro v84 w84 ⟨kv, rfl, hK2, hx84⟩
    replace hx := hx.tr hx84
    replace hS := hS.ext hx84
    replace hB8 := hx84.blk hB8 (fun h => h)
    replace hK := own_mono hK2 hBk
    clear hK2
    replace hBk : Bk ≤ w84.heap.size := Nat.le_trans hBk hx84.size
    refine WL.c rfl (o_mvh (by first | exact (show _ = Value.tuple _ from rfl) | exact rfl) ?_)
    refine WL.c rfl (o_ext rfl rfl ?_)
    refine WL.c rfl (o_ext rfl rfl ?_)
    refine WL.c rfl (o_ash (by first | exact (show _ = Value.slice _ _ _ from rfl) | exact rfl) ?_)
    refine WL.c rfl (o_ash (show _ = Value.int _ _ from rfl) ?_)
    refine WL.nil ?_
    refine W.seq ?_
    refine W.region ?_
    refine WL.c rfl (o_mvh h0 ?_)
    refine WL.c rfl (o_mvh (show _ = Value.int _ _ from rfl) ?_)
    refine WL.c rfl (o_addi rfl rfl (by omega) ?_)
    refine WL.c rfl (o_ixB (i := jj + 1) TI54 TI58 rfl rfl (by omega) ?_)
    refine WL.c rfl (o_fa 2 TI58 rfl TI3 rfl rfl ?_)
    refine WL.c rfl (o_ld TI3 rfl rfl (tokc hS (by omega) 2 _ rfl) ?_)
    refine WL.c rfl (o_fa 1 TI30 rfl TI3 rfl h8 ?_)
    refine WL.u (o_stB TI3 rfl (show _ = Value.int .i64 ((tkA T (jj + 1)).n : Int) from rfl) rfl hB8 (show 1 < 7 by decide) ?_)
    intro wn hBn hon hsn
    replace hB8 : wn.heap[b8]? = some (.cells (exV (Y.vec true (tkA T (jj + 1)).n)).toArray 30 (0, 0)) := hBn
    replace hx := hx.trans' hon (fun _ h => h) (fun k hk he => by omega)
    replace hS := hS.only hon (fun b hb he => by simp [Value.ownBlock] at hb; omega)
    replace hK := own_only hK hon (fun b hb he => by have := (hK.lt b hb).1; omega)
    have hzn := hsn
    clear hBn hon
    replace hBk : Bk ≤ wn.heap.size := by omega
    clear hzn hsn
    refine WL.nil ?_
    refine W.region ?_
    refine WL.c rfl (o_mvh (show _ = Value.int _ _ from rfl) ?_)
    refine WL.c rfl (o_addi rfl rfl (by omega) ?_)
    refine WL.c rfl (o_ash (show _ = Value.int _ _ from rfl) ?_)
    refine WL.nil ?_
    refine W.seq ?_
    obtain ⟨Z, hZd⟩ : ∃ Z, Z = Y.vec true (tkA T (jj + 1)).n := ⟨_, rfl⟩
    rw [← hZd] at hB8
    have hNm : List.map (plE T) ((atE i x).vec true (tkA T (jj + 1)).n :: N') = Z :: N'.map (plE T) := by rw [hZd, hY]; simp [plE_lf, plE_vec, plE_opt, plE_br, plE_nm]
    have hKl : N'.length ≤ 65536 := hNl
    refine W.region ?_
    refine WL.c rfl (o_ldA TI30 rfl h8 (show Cells _ b8 0 (exV Z) from Cells.of hB8 0 _ (by simp)) rfl ?_)
    obtain ⟨w50, hw50⟩ : ∃ w : World, w.heap[b8]? = some (.cells (exV Z).toArray 30 (0, 0)) := ⟨_, hB8⟩
    refine WL.c rfl (o_bs1 TI38 TI30 (show _ = Value.agg (exV Z).toArray from rfl) (by decide) (by decide) rfl ?_)
    have h166 := own_new1 (w := wn) (v := Value.agg (exV Z).toArray) (el := 30) (s := 7) rfl
    have hx166 := Only.alloc wn (.cells (Value.agg (exV Z).toArray).cells 30)
    have hgz : w0.heap.size ≤ wn.heap.size := hx.size
    generalize wn.alloc (.cells (Value.agg (exV Z).toArray).cells 30) = w166 at h166 hx166 ⊢
    replace hK := own_ext hK hx166
    replace hx := hx.tr hx166
    refine WL.c rfl (o_mvh (by first | exact (show _ = Value.slice _ _ _ from rfl) | exact rfl) ?_)
    refine WL.c rfl (o_apO (w0.heap.size) TI38 TI30 (show _ = Value.slice _ _ _ from rfl) rfl (own_mono h166 hgz) (Sl.own hK) rfl (by decide) (one_exs _) (by rw [maxLen_eq]; omega) (by omega) (hx.size) ?_)
    intro v168 w168 hown hoA hbA _
    replace hx := hx.trans' hoA (fun _ h => h) (fun k hk he => by have := (h166.lt k he).1; omega)
    refine WL.c rfl (o_mvh (show _ = Value.int _ _ from rfl) ?_)
    refine WL.c rfl (o_ash (by first | exact (show _ = Value.slice _ _ _ from rfl) | exact rfl) ?_)
    refine WL.c rfl (o_ash (show _ = Value.int _ _ from rfl) ?_)
    refine WL.nil ?_
    refine W.ret ?_
    refine ret2v rfl rfl (show _ = Value.int _ _ from rfl) ?_
    exact ⟨v168, rfl, by rw [hNm]; simp only [List.length_cons]; rw [Nat.add_comm]; exact hown, hx⟩
  · skip
    obtain ⟨hr1, hr2, -⟩ := px_rise hN
    have hNl : N'.length ≤ 65536 := by have := px_len hN; omega
    refine W.region ?_
    refine WL.c rfl (o_eqT rfl rfl ?_)
    refine WL.c rfl (o_ash (show _ = Value.bool _ from rfl) ?_)
    refine WL.nil ?_
    refine W.condF' rfl (by rw [htx]; decide) ?_
    refine W.seq ?_
    refine W.region ?_
    refine WL.c rfl (o_eqT rfl rfl ?_)
    refine WL.c rfl (o_ash (show _ = Value.bool _ from rfl) ?_)
    refine WL.nil ?_
    refine W.condF' rfl (by rw [htx]; decide) ?_
    refine W.seq ?_
    refine W.region ?_
    refine WL.c rfl (o_eqT rfl rfl ?_)
    refine WL.c rfl (o_ash (show _ = Value.bool _ from rfl) ?_)
    refine WL.nil ?_
    refine W.condF' rfl (by rw [htx]; decide) ?_
    refine W.region ?_
    refine WL.c rfl (o_eqT rfl rfl ?_)
    refine WL.c rfl (o_ash (show _ = Value.bool _ from rfl) ?_)
    refine WL.nil ?_
    refine W.condF' rfl (by rw [htx]; decide) ?_
    refine W.seq ?_
    refine W.region ?_
    refine WL.c rfl (o_eqT rfl rfl ?_)
    refine WL.c rfl (o_ash (show _ = Value.bool _ from rfl) ?_)
    refine WL.nil ?_
    refine W.condF' rfl (by rw [htx]; decide) ?_
    refine W.seq ?_
    refine W.region ?_
    refine WL.c rfl (o_eqT rfl rfl ?_)
    refine WL.c rfl (o_ash (show _ = Value.bool _ from rfl) ?_)
    refine WL.nil ?_
    refine W.condF' rfl (by rw [htx]; decide) ?_
    refine W.seq ?_
    refine W.seq ?_
    refine W.region ?_
    refine WL.c rfl (o_eqT rfl rfl ?_)
    refine WL.c rfl (o_ash (show _ = Value.bool _ from rfl) ?_)
    refine WL.nil ?_
    refine W.condF' rfl (by rw [htx]; decide) ?_
    refine W.region ?_
    refine WL.c rfl (o_eqT rfl rfl ?_)
    refine WL.c rfl (o_ash (show _ = Value.bool _ from rfl) ?_)
    refine WL.nil ?_
    refine W.condF' rfl (by rw [htx]; decide) ?_
    refine W.seq ?_
    refine W.region ?_
    refine WL.c rfl (o_eqT rfl rfl ?_)
    refine WL.c rfl (o_ash (show _ = Value.bool _ from rfl) ?_)
    refine WL.nil ?_
    refine W.condT' rfl (by rw [htx]; decide) ?_
    refine W.seq ?_
    refine W.region ?_
    refine WL.c rfl (o_fa 0 TI30 rfl TI3 rfl h8 ?_)
    refine WL.u (o_stB TI3 rfl (show _ = Value.int .i64 (6) from rfl) rfl hB8 (show 0 < 7 by decide) ?_)
    intro wn hBn hon hsn
    replace hB8 : wn.heap[b8]? = some (.cells (exV { Y with kind := 6 }).toArray 30 (0, 0)) := hBn
    replace hx := hx.trans' hon (fun _ h => h) (fun k hk he => by omega)
    replace hS := hS.only hon (fun b hb he => by simp [Value.ownBlock] at hb; omega)
    replace hK := own_only hK hon (fun b hb he => by have := (hK.lt b hb).1; omega)
    have hzn := hsn
    clear hBn hon
    replace hBk : Bk ≤ wn.heap.size := by omega
    clear hzn hsn
    refine WL.nil ?_
    refine W.seq ?_
    refine W.region ?_
    refine WL.c rfl (o_fa 5 TI30 rfl TI3 rfl h8 ?_)
    refine WL.u (o_stB TI3 rfl (show _ = Value.int .i64 (1) from rfl) rfl hB8 (show 5 < 7 by decide) ?_)
    intro wn hBn hon hsn
    replace hB8 : wn.heap[b8]? = some (.cells (exV Y.opt).toArray 30 (0, 0)) := hBn
    replace hx := hx.trans' hon (fun _ h => h) (fun k hk he => by omega)
    replace hS := hS.only hon (fun b hb he => by simp [Value.ownBlock] at hb; omega)
    replace hK := own_only hK hon (fun b hb he => by have := (hK.lt b hb).1; omega)
    have hzn := hsn
    clear hBn hon
    replace hBk : Bk ≤ wn.heap.size := by omega
    clear hzn hsn
    refine WL.nil ?_
    refine W.seq ?_
    refine W.region ?_
    refine WL.c rfl (o_mvh h0 ?_)
    refine WL.c rfl (o_mvh h1 ?_)
    refine WL.c rfl (o_addi rfl rfl (by omega) ?_)
    refine WL.c rfl (o_bldC (cs := [(.int .i64 0), (.int .i64 0), (.string ⟨#[]⟩), (.string ⟨#[]⟩), (.int .i64 0), (.int .i64 0), (.int .i64 0)]) TI30 (Sizes.cons TI3 (Sizes.cons TI3 (Sizes.cons TI9 (Sizes.cons TI9 (Sizes.cons TI3 (Sizes.cons TI3 (Sizes.cons TI3 Sizes.nil))))))) rfl lnp rfl rfl ?_)
    obtain ⟨wc, hwc⟩ : ∃ wc : World, Bk ≤ wc.heap.size := ⟨_, hBk⟩
    refine WL.c rfl (o_call Try.call72 (lc rfl (lc rfl (lc rfl ln))) ((IH _ _ _ _ _ ex0 _ hN (by omega) ⟨rfl, rfl⟩ fst_0 hS).mono ?_))
    rintro v105 w105 ⟨kv, rfl, hK2, hx105⟩
    replace hx := hx.tr hx105
    replace hS := hS.ext hx105
    replace hB8 := hx105.blk hB8 (fun h => h)
    replace hK := own_mono hK2 hBk
    clear hK2
    replace hBk : Bk ≤ w105.heap.size := Nat.le_trans hBk hx105.size
    refine WL.c rfl (o_mvh (by first | exact (show _ = Value.tuple _ from rfl) | exact rfl) ?_)
    refine WL.c rfl (o_ext rfl rfl ?_)
    refine WL.c rfl (o_ext rfl rfl ?_)
    refine WL.c rfl (o_ash (by first | exact (show _ = Value.slice _ _ _ from rfl) | exact rfl) ?_)
    refine WL.c rfl (o_ash (show _ = Value.int _ _ from rfl) ?_)
    refine WL.nil ?_
    refine W.region ?_
    refine WL.c rfl (o_mvh (show _ = Value.int _ _ from rfl) ?_)
    refine WL.c rfl (o_addi rfl rfl (by omega) ?_)
    refine WL.c rfl (o_ash (show _ = Value.int _ _ from rfl) ?_)
    refine WL.nil ?_
    refine W.seq ?_
    obtain ⟨Z, hZd⟩ : ∃ Z, Z = Y.opt := ⟨_, rfl⟩
    rw [← hZd] at hB8
    have hNm : List.map (plE T) ((atE i x).opt :: N') = Z :: N'.map (plE T) := by rw [hZd, hY]; simp [plE_lf, plE_vec, plE_opt, plE_br, plE_nm]
    have hKl : N'.length ≤ 65536 := hNl
    refine W.region ?_
    refine WL.c rfl (o_ldA TI30 rfl h8 (show Cells _ b8 0 (exV Z) from Cells.of hB8 0 _ (by simp)) rfl ?_)
    obtain ⟨w50, hw50⟩ : ∃ w : World, w.heap[b8]? = some (.cells (exV Z).toArray 30 (0, 0)) := ⟨_, hB8⟩
    refine WL.c rfl (o_bs1 TI38 TI30 (show _ = Value.agg (exV Z).toArray from rfl) (by decide) (by decide) rfl ?_)
    have h166 := own_new1 (w := w105) (v := Value.agg (exV Z).toArray) (el := 30) (s := 7) rfl
    have hx166 := Only.alloc w105 (.cells (Value.agg (exV Z).toArray).cells 30)
    have hgz : w0.heap.size ≤ w105.heap.size := hx.size
    generalize w105.alloc (.cells (Value.agg (exV Z).toArray).cells 30) = w166 at h166 hx166 ⊢
    replace hK := own_ext hK hx166
    replace hx := hx.tr hx166
    refine WL.c rfl (o_mvh (by first | exact (show _ = Value.slice _ _ _ from rfl) | exact rfl) ?_)
    refine WL.c rfl (o_apO (w0.heap.size) TI38 TI30 (show _ = Value.slice _ _ _ from rfl) rfl (own_mono h166 hgz) (Sl.own hK) rfl (by decide) (one_exs _) (by rw [maxLen_eq]; omega) (by omega) (hx.size) ?_)
    intro v168 w168 hown hoA hbA _
    replace hx := hx.trans' hoA (fun _ h => h) (fun k hk he => by have := (h166.lt k he).1; omega)
    refine WL.c rfl (o_mvh (show _ = Value.int _ _ from rfl) ?_)
    refine WL.c rfl (o_ash (by first | exact (show _ = Value.slice _ _ _ from rfl) | exact rfl) ?_)
    refine WL.c rfl (o_ash (show _ = Value.int _ _ from rfl) ?_)
    refine WL.nil ?_
    refine W.ret ?_
    refine ret2v rfl rfl (show _ = Value.int _ _ from rfl) ?_
    exact ⟨v168, rfl, by rw [hNm]; simp only [List.length_cons]; rw [Nat.add_comm]; exact hown, hx⟩
  · skip
    obtain ⟨hr1, hr2, -⟩ := px_rise hM
    have hMl : M.length ≤ 65536 := by have := px_len hM; omega
    have hbr := isT_text h1b
    refine W.region ?_
    refine WL.c rfl (o_eqT rfl rfl ?_)
    refine WL.c rfl (o_ash (show _ = Value.bool _ from rfl) ?_)
    refine WL.nil ?_
    refine W.condF' rfl (by rw [htx]; decide) ?_
    refine W.seq ?_
    refine W.region ?_
    refine WL.c rfl (o_eqT rfl rfl ?_)
    refine WL.c rfl (o_ash (show _ = Value.bool _ from rfl) ?_)
    refine WL.nil ?_
    refine W.condF' rfl (by rw [htx]; decide) ?_
    refine W.seq ?_
    refine W.region ?_
    refine WL.c rfl (o_eqT rfl rfl ?_)
    refine WL.c rfl (o_ash (show _ = Value.bool _ from rfl) ?_)
    refine WL.nil ?_
    refine W.condF' rfl (by rw [htx]; decide) ?_
    refine W.region ?_
    refine WL.c rfl (o_eqT rfl rfl ?_)
    refine WL.c rfl (o_ash (show _ = Value.bool _ from rfl) ?_)
    refine WL.nil ?_
    refine W.condF' rfl (by rw [htx]; decide) ?_
    refine W.seq ?_
    refine W.region ?_
    refine WL.c rfl (o_eqT rfl rfl ?_)
    refine WL.c rfl (o_ash (show _ = Value.bool _ from rfl) ?_)
    refine WL.nil ?_
    refine W.condF' rfl (by rw [htx]; decide) ?_
    refine W.seq ?_
    refine W.region ?_
    refine WL.c rfl (o_eqT rfl rfl ?_)
    refine WL.c rfl (o_ash (show _ = Value.bool _ from rfl) ?_)
    refine WL.nil ?_
    refine W.condF' rfl (by rw [htx]; decide) ?_
    refine W.seq ?_
    refine W.seq ?_
    refine W.region ?_
    refine WL.c rfl (o_eqT rfl rfl ?_)
    refine WL.c rfl (o_ash (show _ = Value.bool _ from rfl) ?_)
    refine WL.nil ?_
    refine W.condF' rfl (by rw [htx]; decide) ?_
    refine W.region ?_
    refine WL.c rfl (o_eqT rfl rfl ?_)
    refine WL.c rfl (o_ash (show _ = Value.bool _ from rfl) ?_)
    refine WL.nil ?_
    refine W.condF' rfl (by rw [htx]; decide) ?_
    refine W.seq ?_
    refine W.region ?_
    refine WL.c rfl (o_eqT rfl rfl ?_)
    refine WL.c rfl (o_ash (show _ = Value.bool _ from rfl) ?_)
    refine WL.nil ?_
    refine W.condF' rfl (by rw [htx]; decide) ?_
    refine W.seq ?_
    refine W.seq ?_
    refine W.region ?_
    refine WL.c rfl (o_eqT rfl rfl ?_)
    refine WL.c rfl (o_ash (show _ = Value.bool _ from rfl) ?_)
    refine WL.nil ?_
    refine W.condT' rfl (by rw [htx]; decide) ?_
    refine W.skip ?_
    refine W.condT' rfl (by rw [htx]; decide) ?_
    refine W.seq ?_
    refine W.region ?_
    refine WL.c rfl (o_fa 0 TI30 rfl TI3 rfl h8 ?_)
    refine WL.u (o_stB TI3 rfl (show _ = Value.int .i64 (7) from rfl) rfl hB8 (show 0 < 7 by decide) ?_)
    intro wn hBn hon hsn
    replace hB8 : wn.heap[b8]? = some (.cells (exV { Y with kind := 7 }).toArray 30 (0, 0)) := hBn
    replace hx := hx.trans' hon (fun _ h => h) (fun k hk he => by omega)
    replace hS := hS.only hon (fun b hb he => by simp [Value.ownBlock] at hb; omega)
    replace hK := own_only hK hon (fun b hb he => by have := (hK.lt b hb).1; omega)
    have hzn := hsn
    clear hBn hon
    replace hBk : Bk ≤ wn.heap.size := by omega
    clear hzn hsn
    refine WL.nil ?_
    refine W.seq ?_
    refine W.seq ?_
    refine W.region ?_
    refine WL.c rfl (o_mvh h0 ?_)
    refine WL.c rfl (o_mvh h1 ?_)
    refine WL.c rfl (o_ixB (i := i) TI54 TI58 rfl rfl (hil) ?_)
    refine WL.c rfl (o_fa 1 TI58 rfl TI9 rfl rfl ?_)
    refine WL.c rfl (o_ld TI9 rfl rfl (tokc hS hil 1 _ rfl) ?_)
    refine WL.c rfl (o_eqT rfl rfl ?_)
    refine WL.nil ?_
    refine W.condF' rfl (by rw [htx]; decide) ?_
    refine W.skip ?_
    refine W.seq ?_
    refine W.region ?_
    refine WL.c rfl (o_mvh h1 ?_)
    refine WL.c rfl (o_addi rfl rfl (by omega) ?_)
    refine WL.c rfl (o_ash (show _ = Value.int _ _ from rfl) ?_)
    refine WL.nil ?_
    refine W.seq ?_
    refine W.block ?_
    refine W.loop (fun e w => ∃ (q a : Nat) (kv : Value) (Ka : List Ex), RowSt T true deep i n j M q a Ka ∧ a < T.length ∧ q ≤ 64 ∧ e 0 = .slice (some ⟨tb, to_, none⟩) T.length tc ∧ e 1 = .int .i64 (a : Int) ∧ e 8 = .pointer (some ⟨b8, 0, none⟩) ∧ e 9 = kv ∧ w.heap[b8]? = some (.cells (exV (Y.br true (q : Nat))).toArray 30 (0, 0)) ∧ Sl w 5 (.slice (some ⟨tb, to_, none⟩) T.length tc) T.length (flat T) ∧ w.ownsRow Bk 30 7 kv Ka.length (exs (Ka.map (plE T))) ∧ Bk ≤ w.heap.size ∧ Ext w0 w) (fun e w => T.length - (intOf (e 1)).toNat) ?_ ?_
    · refine ⟨0, i + 1, _, [], .inl ⟨M, hM, rfl, by rw [hbr]; decide, Nat.le_refl _⟩, by omega, by decide, h0, rfl, h8, rfl, ?_, hS, hK, hBk, hx⟩
      rw [show Y.br true ((0 : Nat) : Int) = { Y with kind := 7 } by rw [Ex.br, show Y.kids = 0 from hY ▸ plat_kids hxk]; rfl]
      exact hB8
    rintro e w ⟨q, a, kv, Ka, hst, hal, hq, h0, h1, h8, h9, hB8, hS, hK, hBk, hx⟩
    have hm1 := h1
    refine W.seq ?_
    refine W.seq ?_
    rcases hst with ⟨M', hp, hMe, hne, hia⟩ | ⟨hMe, hqn, hcb, haj⟩
    · skip
      obtain ⟨N2, jj, hq2, hh, hc, hN, hnx⟩ := px_rows_inv hp
      obtain ⟨hs1, hs2, -⟩ := px_rise hN
      have hNl2 := px_len hN
      have hst2 : RowSt T true deep i n j M (q + 1) jj (Ka ++ N2) ∧ jj < T.length ∧ (Ka ++ N2).length ≤ 65536 := by
        rcases hnx with ⟨M2, hcm, hR, hM2⟩ | ⟨hcb, hM2, hn2, hj2⟩
        · exact ⟨.inl ⟨M2, hR, by rw [hMe, hM2, List.append_assoc], by rw [isT_text hcm]; decide, by omega⟩, isT_lt (by decide) hcm, by rw [hMe, hM2, ← List.append_assoc, List.length_append] at hMl; omega⟩
        · exact ⟨.inr ⟨by rw [hMe, hM2], by omega, isT_text hcb, by omega⟩, isT_lt (by decide) hcb, by rw [hMe, hM2] at hMl; exact hMl⟩
      obtain ⟨hst2, hjl2, hKl2⟩ := hst2
      have hjj : jj < j := by
        rcases hnx with ⟨M2, hcm, hR, hM2⟩ | ⟨hcb, hM2, hn2, hj2⟩
        · have := (px_rise hR).1; omega
        · omega
      have hKl3 : Ka.length + N2.length ≤ 65536 := by rw [List.length_append] at hKl2; exact hKl2
      refine W.region ?_
      refine WL.c rfl (o_mvh h0 ?_)
      refine WL.c rfl (o_mvh h1 ?_)
      refine WL.c rfl (o_ixB (i := a) TI54 TI58 rfl rfl (hal) ?_)
      refine WL.c rfl (o_fa 1 TI58 rfl TI9 rfl rfl ?_)
      refine WL.c rfl (o_ld TI9 rfl rfl (tokc hS hal 1 _ rfl) ?_)
      refine WL.c rfl (o_neT rfl rfl ?_)
      refine WL.nil ?_
      refine W.condT' rfl (by simpa using hne) ?_
      refine W.skip ?_
      refine W.block ?_
      refine W.seq ?_
      obtain ⟨wd, hwd⟩ : ∃ wd, wd = w.drew := ⟨_, rfl⟩
      have hxd : Ext w wd := hwd ▸ Only.drew w
      replace hx := hx.tr hxd
      replace hS := hS.ext hxd
      replace hB8 := hxd.blk hB8 (fun h => h)
      replace hK := own_ext hK hxd
      replace hBk : Bk ≤ wd.heap.size := Nat.le_trans hBk hxd.size
      have hBk0 := hBk
      have ha1 : a + 1 < T.length := by omega
      refine W.drawT 20 (Ext) [(0, fun v _ => v = _), (1, fun v _ => v = _), (8, fun v _ => v = _), (9, fun v _ => v = _)] rfl (by kernel_rfl) (Only.refl No) (fun _ _ _ h k => h.trans k) ⟨Mono.eq, Mono.eq, Mono.eq, Mono.eq, trivial⟩ ⟨h0, h1, h8, h9, trivial⟩ ?_
      refine WD.p rfl (fun e w hR hh => by obtain ⟨h0, -⟩ := hh; exact SG.n (o_mvh h0 ⟨rfl, Only.refl No _⟩)) ?_
      refine WD.p rfl (fun e w hR hh => by obtain ⟨h1, -⟩ := hh; exact SG.n (o_mvh h1 ⟨rfl, Only.refl No _⟩)) ?_
      refine WD.p rfl (fun e w hR hh => by obtain ⟨h130, -⟩ := hh; exact SG.n (o_addi h130 rfl (by omega) ⟨rfl, Only.refl No _⟩)) ?_
      refine WD.p rfl (fun e w hR hh => by obtain ⟨h131, h129, -⟩ := hh; exact SG.n (o_ixB (i := a + 1) TI54 TI58 h129 h131 ha1 ⟨rfl, Only.refl No _⟩)) ?_
      refine WD.p rfl (fun e w hR hh => by obtain ⟨h132, -⟩ := hh; exact SG.n (o_fa 1 TI58 rfl TI9 rfl h132 ⟨rfl, Only.refl No _⟩)) ?_
      refine WD.p rfl (fun e w hR hh => by obtain ⟨h133, -⟩ := hh; rw [← hwd] at hR; exact SG.n (o_ld TI9 rfl h133 (tokc (hS.ext hR) ha1 1 _ rfl) ⟨rfl, Only.refl No _⟩)) ?_
      refine WD.p rfl (fun e w hR hh => by obtain ⟨h0, -⟩ := hh; exact SG.n (o_mvh h0 ⟨rfl, Only.refl No _⟩)) ?_
      refine WD.p rfl (fun e w hR hh => by obtain ⟨h1, -⟩ := hh; exact SG.n (o_mvh h1 ⟨rfl, Only.refl No _⟩)) ?_
      refine WD.p rfl (fun e w hR hh => by obtain ⟨h136, -⟩ := hh; exact SG.n (o_addi h136 rfl (by omega) ⟨rfl, Only.refl No _⟩)) ?_
      refine WD.p rfl (fun e w hR hh => by obtain ⟨h137, h135, -⟩ := hh; exact SG.n (o_ixB (i := a + 1) TI54 TI58 h135 h137 ha1 ⟨rfl, Only.refl No _⟩)) ?_
      refine WD.p rfl (fun e w hR hh => by obtain ⟨h138, -⟩ := hh; exact SG.n (o_fa 2 TI58 rfl TI3 rfl h138 ⟨rfl, Only.refl No _⟩)) ?_
      refine WD.p rfl (fun e w hR hh => by obtain ⟨h139, -⟩ := hh; rw [← hwd] at hR; exact SG.n (o_ld TI3 rfl h139 (tokc (hS.ext hR) ha1 2 _ rfl) ⟨rfl, Only.refl No _⟩)) ?_
      refine WD.p rfl (fun e w hR hh => by obtain ⟨h0, -⟩ := hh; exact SG.n (o_mvh h0 ⟨rfl, Only.refl No _⟩)) ?_
      refine WD.p rfl (fun e w hR hh => by obtain ⟨h1, -⟩ := hh; exact SG.n (o_mvh h1 ⟨rfl, Only.refl No _⟩)) ?_
      refine WD.p rfl (fun e w hR hh => by obtain ⟨h142, -⟩ := hh; exact SG.n (o_addi h142 rfl (by omega) ⟨rfl, Only.refl No _⟩)) ?_
      refine WD.p rfl (fun e w hR hh => by obtain ⟨h143, h141, -⟩ := hh; exact SG.n (o_ixB (i := a + 1) TI54 TI58 h141 h143 ha1 ⟨rfl, Only.refl No _⟩)) ?_
      refine WD.p rfl (fun e w hR hh => by obtain ⟨h144, -⟩ := hh; exact SG.n (o_fa 3 TI58 rfl TI3 rfl h144 ⟨rfl, Only.refl No _⟩)) ?_
      refine WD.p rfl (fun e w hR hh => by obtain ⟨h145, -⟩ := hh; rw [← hwd] at hR; exact SG.n (o_ld TI3 rfl h145 (tokc (hS.ext hR) ha1 3 _ rfl) ⟨rfl, Only.refl No _⟩)) ?_
      refine WD.p rfl (fun e w hR hh => by obtain ⟨h146, h140, h134, -⟩ := hh; exact SG.n (o_bldC (cs := [(.int .i64 0), (.int .i64 0), (.string ⟨#[]⟩), _, _, (.int .i64 1), _]) TI30 (Sizes.cons TI3 (Sizes.cons TI3 (Sizes.cons TI9 (Sizes.cons TI9 (Sizes.cons TI3 (Sizes.cons TI3 (Sizes.cons TI3 Sizes.nil))))))) rfl (lcp h134 (lcp h140 (lcp h146 (lcp (show _ = Value.int _ _ from rfl) lnp)))) rfl rfl ⟨rfl, Only.refl No _⟩)) ?_
      refine WD.q (fun v w => ∃ c, wd.heap.size ≤ c ∧ v = .pointer (some ⟨c, 0, none⟩) ∧ w.heap[c]? = some (.cells (exV ex0).toArray 30 (0, 0))) (fun v w w2 hR hh => by obtain ⟨c, h1, h2, h3⟩ := hh; exact ⟨c, h1, h2, hR.blk h3 (fun h => h)⟩) rfl (fun e w hR hh => by skip; rw [← hwd] at hR; exact SG.n (o_alB TI30 (fun w' h1 h2 h3 => ⟨⟨w.heap.size, hR.size, rfl, h1⟩, h2⟩))) ?_
      rintro e w hR ⟨h10, h147, h146, h145, h144, h143, h142, h141, h140, h139, h138, h137, h136, h135, h134, h133, h132, h131, h130, h129, h0, h1, h8, h9, -⟩
      rw [← hwd] at hR
      obtain ⟨c10, hc10, h10, hC10⟩ := h10
      replace hx := hx.tr hR
      replace hS := hS.ext hR
      replace hB8 := hR.blk hB8 (fun h => h)
      have hKl4 := hK.lt
      replace hK := own_ext hK hR
      replace hBk : Bk ≤ w.heap.size := Nat.le_trans hBk hR.size
      have htb10 : tb < c10 := by omega
      have hb810 : b8 < c10 := by omega
      have hx10 : w0.heap.size ≤ c10 := by omega
      refine WL.u (o_stA TI30 h10 (show _ = Value.agg (exV (rF T (a + 1))).toArray from h147) rfl rfl hC10 rfl ?_)
      intro wn hC10n hon hsn
      replace hB8 := hon.blk hB8 (by omega)
      replace hx := hx.trans' hon (fun _ h => h) (fun k hk he => by omega)
      replace hS := hS.only hon (fun b hb he => by simp [Value.ownBlock] at hb; omega)
      replace hK := own_only hK hon (fun b hb he => by have := (hKl4 b hb).2; omega)
      replace hBk : Bk ≤ wn.heap.size := by omega
      refine WL.nil ?_
      refine W.seq ?_
      refine W.region ?_
      refine WL.c rfl (o_ash (by first | exact (show _ = Value.slice _ _ _ from rfl) | exact rfl) ?_)
      refine WL.nil ?_
      refine W.seq ?_
      refine W.region ?_
      refine WL.c rfl (o_mvh h0 ?_)
      refine WL.c rfl (o_mvh h1 ?_)
      refine WL.c rfl (o_addi rfl rfl (by omega) ?_)
      refine WL.c rfl (o_ldA TI30 rfl h10 (show Cells _ c10 0 (exV (rF T (a + 1))) from Cells.of hC10n 0 _ (by simp)) rfl ?_)
      refine WL.c rfl (o_call Try.call72 (lc rfl (lc rfl (lc rfl ln))) ((IH _ _ _ _ _ (rF T (a + 1)) _ hN (by omega) (hdE_n hh) (fst_h hTz hh) hS).mono ?_))
      rintro v153 w153 ⟨sv, rfl, hs153, hx153⟩
      replace hx := hx.tr hx153
      replace hS := hS.ext hx153
      replace hB8 := hx153.blk hB8 (fun h => h)
      replace hK := own_ext hK hx153
      replace hBk : Bk ≤ w153.heap.size := Nat.le_trans hBk hx153.size
      refine WL.c rfl (o_mvh (by first | exact (show _ = Value.tuple _ from rfl) | exact rfl) ?_)
      refine WL.c rfl (o_ext rfl rfl ?_)
      refine WL.c rfl (o_ext rfl rfl ?_)
      refine WL.c rfl (o_ash (by first | exact (show _ = Value.slice _ _ _ from rfl) | exact rfl) ?_)
      refine WL.c rfl (o_ash (show _ = Value.int _ _ from rfl) ?_)
      refine WL.nil ?_
      refine W.seq ?_
      refine W.region ?_
      refine WL.c rfl (o_mvh h9 ?_)
      refine WL.c rfl (o_mvh (by first | exact (show _ = Value.slice _ _ _ from rfl) | exact rfl) ?_)
      refine WL.c rfl (o_apO (Bk) TI38 TI30 rfl rfl hK (Sl.own hs153) rfl (by decide) (one_exs _) (by rw [maxLen_eq]; omega) (by omega) hBk ?_)
      intro v158 w158 hK2 hoA _ _
      replace hK2 : w158.ownsRow Bk 30 7 v158 (Ka ++ N2).length (exs ((Ka ++ N2).map (plE T))) := by rw [List.length_append, List.map_append, exs_app]; exact hK2
      have hKg := fun k hk => (hK.lt k hk).1
      replace hB8 := hoA.blk hB8 (fun hF => by have := hKg _ hF; omega)
      replace hx := hx.trans' hoA (fun _ h => h) (fun k hk he => by have := hKg k he; omega)
      replace hS := hS.only hoA (fun b hb he => by simp [Value.ownBlock] at hb; have := hKg b he; omega)
      have hz158 := hoA.size
      replace hBk : Bk ≤ w158.heap.size := by omega
      clear hK
      refine WL.c rfl (o_ash (by first | exact (show _ = Value.slice _ _ _ from rfl) | exact rfl) ?_)
      refine WL.nil ?_
      refine W.region ?_
      refine WL.c rfl (o_fa 5 TI30 rfl TI3 rfl h8 ?_)
      refine WL.c rfl (o_ld TI3 rfl rfl (cell_of hB8 rfl) ?_)
      refine WL.c rfl (o_addi rfl rfl (by show _ ≤ (q : Int) + 1 ∧ (q : Int) + 1 ≤ _; omega) ?_)
      refine WL.c rfl (o_fa 5 TI30 rfl TI3 rfl h8 ?_)
      refine WL.u (o_stB TI3 rfl (show _ = Value.int .i64 ((q : Int) + 1) from rfl) rfl hB8 (show 5 < 7 by decide) ?_)
      intro wz hBn hon hsn
      replace hB8 : wz.heap[b8]? = some (.cells (exV (Y.br true ((q + 1 : Nat) : Int))).toArray 30 (0, 0)) := hBn
      replace hx := hx.trans' hon (fun _ h => h) (fun k hk he => by omega)
      replace hS := hS.only hon (fun b hb he => by simp [Value.ownBlock] at hb; omega)
      replace hK2 := own_only hK2 hon (fun b hb he => by have := (hK2.lt b hb).1; omega)
      replace hBk : Bk ≤ wz.heap.size := by omega
      refine WL.nil ?_
      refine ⟨⟨q + 1, jj, _, Ka ++ N2, hst2, hjl2, by omega, h0, rfl, h8, rfl, hB8, hS, hK2, hBk, hx⟩, ?_⟩
      show T.length - ((jj : Int)).toNat < _
      rw [hm1]; simp [intOf]; omega
    · skip
      rw [hqn] at hB8
      refine W.region ?_
      refine WL.c rfl (o_mvh h0 ?_)
      refine WL.c rfl (o_mvh h1 ?_)
      refine WL.c rfl (o_ixB (i := a) TI54 TI58 rfl rfl (hal) ?_)
      refine WL.c rfl (o_fa 1 TI58 rfl TI9 rfl rfl ?_)
      refine WL.c rfl (o_ld TI9 rfl rfl (tokc hS hal 1 _ rfl) ?_)
      refine WL.c rfl (o_neT rfl rfl ?_)
      refine WL.nil ?_
      refine W.condF' rfl (by simp [hcb]) ?_
      refine W.exit ?_
      refine W.region ?_
      refine WL.c rfl (o_mvh h1 ?_)
      refine WL.c rfl (o_addi rfl rfl (by omega) ?_)
      refine WL.c rfl (o_ash (show _ = Value.int _ _ from rfl) ?_)
      refine WL.nil ?_
      refine W.seq ?_
      obtain ⟨Z, hZd⟩ : ∃ Z, Z = Y.br true (n : Nat) := ⟨_, rfl⟩
      rw [← hZd] at hB8
      have hNm : List.map (plE T) ((atE i x).br true (n : Nat) :: M) = Z :: M.map (plE T) := by rw [hZd, hY]; simp [plE_lf, plE_vec, plE_opt, plE_br, plE_nm]
      have hKl : M.length ≤ 65536 := hMl
      subst hMe
      subst haj
      refine W.region ?_
      refine WL.c rfl (o_ldA TI30 rfl h8 (show Cells _ b8 0 (exV Z) from Cells.of hB8 0 _ (by simp)) rfl ?_)
      obtain ⟨w50, hw50⟩ : ∃ w : World, w.heap[b8]? = some (.cells (exV Z).toArray 30 (0, 0)) := ⟨_, hB8⟩
      refine WL.c rfl (o_bs1 TI38 TI30 (show _ = Value.agg (exV Z).toArray from rfl) (by decide) (by decide) rfl ?_)
      have h166 := own_new1 (w := w) (v := Value.agg (exV Z).toArray) (el := 30) (s := 7) rfl
      have hx166 := Only.alloc w (.cells (Value.agg (exV Z).toArray).cells 30)
      have hgz : w0.heap.size ≤ w.heap.size := hx.size
      generalize w.alloc (.cells (Value.agg (exV Z).toArray).cells 30) = w166 at h166 hx166 ⊢
      replace hK := own_ext hK hx166
      replace hx := hx.tr hx166
      refine WL.c rfl (o_mvh h9 ?_)
      refine WL.c rfl (o_apO (w0.heap.size) TI38 TI30 (show _ = Value.slice _ _ _ from rfl) rfl (own_mono h166 hgz) (Sl.own hK) rfl (by decide) (one_exs _) (by rw [maxLen_eq]; omega) (by omega) (hx.size) ?_)
      intro v168 w168 hown hoA hbA _
      replace hx := hx.trans' hoA (fun _ h => h) (fun k hk he => by have := (h166.lt k he).1; omega)
      skip
      refine WL.c rfl (o_mvh (show _ = Value.int _ _ from rfl) ?_)
      refine WL.c rfl (o_ash (by first | exact (show _ = Value.slice _ _ _ from rfl) | exact rfl) ?_)
      refine WL.c rfl (o_ash (show _ = Value.int _ _ from rfl) ?_)
      refine WL.nil ?_
      refine W.ret ?_
      refine ret2v rfl rfl (show _ = Value.int _ _ from rfl) ?_
      exact ⟨v168, rfl, by rw [hNm]; simp only [List.length_cons]; rw [Nat.add_comm]; exact hown, hx⟩
  · skip
    obtain ⟨hr1, hr2, -⟩ := px_rise hM
    have hMl : M.length ≤ 65536 := by have := px_len hM; omega
    have hbr := isT_text h1b
    refine W.region ?_
    refine WL.c rfl (o_eqT rfl rfl ?_)
    refine WL.c rfl (o_ash (show _ = Value.bool _ from rfl) ?_)
    refine WL.nil ?_
    refine W.condF' rfl (by rw [htx]; decide) ?_
    refine W.seq ?_
    refine W.region ?_
    refine WL.c rfl (o_eqT rfl rfl ?_)
    refine WL.c rfl (o_ash (show _ = Value.bool _ from rfl) ?_)
    refine WL.nil ?_
    refine W.condF' rfl (by rw [htx]; decide) ?_
    refine W.seq ?_
    refine W.region ?_
    refine WL.c rfl (o_eqT rfl rfl ?_)
    refine WL.c rfl (o_ash (show _ = Value.bool _ from rfl) ?_)
    refine WL.nil ?_
    refine W.condF' rfl (by rw [htx]; decide) ?_
    refine W.region ?_
    refine WL.c rfl (o_eqT rfl rfl ?_)
    refine WL.c rfl (o_ash (show _ = Value.bool _ from rfl) ?_)
    refine WL.nil ?_
    refine W.condF' rfl (by rw [htx]; decide) ?_
    refine W.seq ?_
    refine W.region ?_
    refine WL.c rfl (o_eqT rfl rfl ?_)
    refine WL.c rfl (o_ash (show _ = Value.bool _ from rfl) ?_)
    refine WL.nil ?_
    refine W.condF' rfl (by rw [htx]; decide) ?_
    refine W.seq ?_
    refine W.region ?_
    refine WL.c rfl (o_eqT rfl rfl ?_)
    refine WL.c rfl (o_ash (show _ = Value.bool _ from rfl) ?_)
    refine WL.nil ?_
    refine W.condF' rfl (by rw [htx]; decide) ?_
    refine W.seq ?_
    refine W.seq ?_
    refine W.region ?_
    refine WL.c rfl (o_eqT rfl rfl ?_)
    refine WL.c rfl (o_ash (show _ = Value.bool _ from rfl) ?_)
    refine WL.nil ?_
    refine W.condF' rfl (by rw [htx]; decide) ?_
    refine W.region ?_
    refine WL.c rfl (o_eqT rfl rfl ?_)
    refine WL.c rfl (o_ash (show _ = Value.bool _ from rfl) ?_)
    refine WL.nil ?_
    refine W.condF' rfl (by rw [htx]; decide) ?_
    refine W.seq ?_
    refine W.region ?_
    refine WL.c rfl (o_eqT rfl rfl ?_)
    refine WL.c rfl (o_ash (show _ = Value.bool _ from rfl) ?_)
    refine WL.nil ?_
    refine W.condF' rfl (by rw [htx]; decide) ?_
    refine W.seq ?_
    refine W.seq ?_
    refine W.region ?_
    refine WL.c rfl (o_eqT rfl rfl ?_)
    refine WL.c rfl (o_ash (show _ = Value.bool _ from rfl) ?_)
    refine WL.nil ?_
    refine W.condF' rfl (by rw [htx]; decide) ?_
    refine W.region ?_
    refine WL.c rfl (o_eqT rfl rfl ?_)
    refine WL.c rfl (o_ash (show _ = Value.bool _ from rfl) ?_)
    refine WL.nil ?_
    refine W.condT' rfl (by rw [htx]; decide) ?_
    refine W.seq ?_
    refine W.region ?_
    refine WL.c rfl (o_fa 0 TI30 rfl TI3 rfl h8 ?_)
    refine WL.u (o_stB TI3 rfl (show _ = Value.int .i64 (7) from rfl) rfl hB8 (show 0 < 7 by decide) ?_)
    intro wn hBn hon hsn
    replace hB8 : wn.heap[b8]? = some (.cells (exV { Y with kind := 7 }).toArray 30 (0, 0)) := hBn
    replace hx := hx.trans' hon (fun _ h => h) (fun k hk he => by omega)
    replace hS := hS.only hon (fun b hb he => by simp [Value.ownBlock] at hb; omega)
    replace hK := own_only hK hon (fun b hb he => by have := (hK.lt b hb).1; omega)
    have hzn := hsn
    clear hBn hon
    replace hBk : Bk ≤ wn.heap.size := by omega
    clear hzn hsn
    refine WL.nil ?_
    refine W.seq ?_
    refine W.seq ?_
    refine W.region ?_
    refine WL.c rfl (o_mvh h0 ?_)
    refine WL.c rfl (o_mvh h1 ?_)
    refine WL.c rfl (o_ixB (i := i) TI54 TI58 rfl rfl (hil) ?_)
    refine WL.c rfl (o_fa 1 TI58 rfl TI9 rfl rfl ?_)
    refine WL.c rfl (o_ld TI9 rfl rfl (tokc hS hil 1 _ rfl) ?_)
    refine WL.c rfl (o_eqT rfl rfl ?_)
    refine WL.nil ?_
    refine W.condT' rfl (by rw [htx]; decide) ?_
    refine W.region ?_
    refine WL.c rfl (o_fa 0 TI30 rfl TI3 rfl h8 ?_)
    refine WL.u (o_stB TI3 rfl (show _ = Value.int .i64 (8) from rfl) rfl hB8 (show 0 < 7 by decide) ?_)
    intro wn hBn hon hsn
    replace hB8 : wn.heap[b8]? = some (.cells (exV { Y with kind := 8 }).toArray 30 (0, 0)) := hBn
    replace hx := hx.trans' hon (fun _ h => h) (fun k hk he => by omega)
    replace hS := hS.only hon (fun b hb he => by simp [Value.ownBlock] at hb; omega)
    replace hK := own_only hK hon (fun b hb he => by have := (hK.lt b hb).1; omega)
    have hzn := hsn
    clear hBn hon
    replace hBk : Bk ≤ wn.heap.size := by omega
    clear hzn hsn
    refine WL.nil ?_
    refine W.seq ?_
    refine W.region ?_
    refine WL.c rfl (o_mvh h1 ?_)
    refine WL.c rfl (o_addi rfl rfl (by omega) ?_)
    refine WL.c rfl (o_ash (show _ = Value.int _ _ from rfl) ?_)
    refine WL.nil ?_
    refine W.seq ?_
    refine W.block ?_
    refine W.loop (fun e w => ∃ (q a : Nat) (kv : Value) (Ka : List Ex), RowSt T false deep i n j M q a Ka ∧ a < T.length ∧ q ≤ 64 ∧ e 0 = .slice (some ⟨tb, to_, none⟩) T.length tc ∧ e 1 = .int .i64 (a : Int) ∧ e 8 = .pointer (some ⟨b8, 0, none⟩) ∧ e 9 = kv ∧ w.heap[b8]? = some (.cells (exV (Y.br false (q : Nat))).toArray 30 (0, 0)) ∧ Sl w 5 (.slice (some ⟨tb, to_, none⟩) T.length tc) T.length (flat T) ∧ w.ownsRow Bk 30 7 kv Ka.length (exs (Ka.map (plE T))) ∧ Bk ≤ w.heap.size ∧ Ext w0 w) (fun e w => T.length - (intOf (e 1)).toNat) ?_ ?_
    · refine ⟨0, i + 1, _, [], .inl ⟨M, hM, rfl, by rw [hbr]; decide, Nat.le_refl _⟩, by omega, by decide, h0, rfl, h8, rfl, ?_, hS, hK, hBk, hx⟩
      rw [show Y.br false ((0 : Nat) : Int) = { Y with kind := 8 } by rw [Ex.br, show Y.kids = 0 from hY ▸ plat_kids hxk]; rfl]
      exact hB8
    rintro e w ⟨q, a, kv, Ka, hst, hal, hq, h0, h1, h8, h9, hB8, hS, hK, hBk, hx⟩
    have hm1 := h1
    refine W.seq ?_
    refine W.seq ?_
    rcases hst with ⟨M', hp, hMe, hne, hia⟩ | ⟨hMe, hqn, hcb, haj⟩
    · skip
      obtain ⟨N2, jj, hq2, hh, hc, hN, hnx⟩ := px_rows_inv hp
      obtain ⟨hs1, hs2, -⟩ := px_rise hN
      have hNl2 := px_len hN
      have hst2 : RowSt T false deep i n j M (q + 1) jj (Ka ++ N2) ∧ jj < T.length ∧ (Ka ++ N2).length ≤ 65536 := by
        rcases hnx with ⟨M2, hcm, hR, hM2⟩ | ⟨hcb, hM2, hn2, hj2⟩
        · exact ⟨.inl ⟨M2, hR, by rw [hMe, hM2, List.append_assoc], by rw [isT_text hcm]; decide, by omega⟩, isT_lt (by decide) hcm, by rw [hMe, hM2, ← List.append_assoc, List.length_append] at hMl; omega⟩
        · exact ⟨.inr ⟨by rw [hMe, hM2], by omega, isT_text hcb, by omega⟩, isT_lt (by decide) hcb, by rw [hMe, hM2] at hMl; exact hMl⟩
      obtain ⟨hst2, hjl2, hKl2⟩ := hst2
      have hjj : jj < j := by
        rcases hnx with ⟨M2, hcm, hR, hM2⟩ | ⟨hcb, hM2, hn2, hj2⟩
        · have := (px_rise hR).1; omega
        · omega
      have hKl3 : Ka.length + N2.length ≤ 65536 := by rw [List.length_append] at hKl2; exact hKl2
      refine W.region ?_
      refine WL.c rfl (o_mvh h0 ?_)
      refine WL.c rfl (o_mvh h1 ?_)
      refine WL.c rfl (o_ixB (i := a) TI54 TI58 rfl rfl (hal) ?_)
      refine WL.c rfl (o_fa 1 TI58 rfl TI9 rfl rfl ?_)
      refine WL.c rfl (o_ld TI9 rfl rfl (tokc hS hal 1 _ rfl) ?_)
      refine WL.c rfl (o_neT rfl rfl ?_)
      refine WL.nil ?_
      refine W.condT' rfl (by simpa using hne) ?_
      refine W.skip ?_
      refine W.block ?_
      refine W.seq ?_
      obtain ⟨wd, hwd⟩ : ∃ wd, wd = w.drew := ⟨_, rfl⟩
      have hxd : Ext w wd := hwd ▸ Only.drew w
      replace hx := hx.tr hxd
      replace hS := hS.ext hxd
      replace hB8 := hxd.blk hB8 (fun h => h)
      replace hK := own_ext hK hxd
      replace hBk : Bk ≤ wd.heap.size := Nat.le_trans hBk hxd.size
      have hBk0 := hBk
      have ha1 : a + 1 < T.length := by omega
      refine W.drawT 20 (Ext) [(0, fun v _ => v = _), (1, fun v _ => v = _), (8, fun v _ => v = _), (9, fun v _ => v = _)] rfl (by kernel_rfl) (Only.refl No) (fun _ _ _ h k => h.trans k) ⟨Mono.eq, Mono.eq, Mono.eq, Mono.eq, trivial⟩ ⟨h0, h1, h8, h9, trivial⟩ ?_
      refine WD.p rfl (fun e w hR hh => by obtain ⟨h0, -⟩ := hh; exact SG.n (o_mvh h0 ⟨rfl, Only.refl No _⟩)) ?_
      refine WD.p rfl (fun e w hR hh => by obtain ⟨h1, -⟩ := hh; exact SG.n (o_mvh h1 ⟨rfl, Only.refl No _⟩)) ?_
      refine WD.p rfl (fun e w hR hh => by obtain ⟨h130, -⟩ := hh; exact SG.n (o_addi h130 rfl (by omega) ⟨rfl, Only.refl No _⟩)) ?_
      refine WD.p rfl (fun e w hR hh => by obtain ⟨h131, h129, -⟩ := hh; exact SG.n (o_ixB (i := a + 1) TI54 TI58 h129 h131 ha1 ⟨rfl, Only.refl No _⟩)) ?_
      refine WD.p rfl (fun e w hR hh => by obtain ⟨h132, -⟩ := hh; exact SG.n (o_fa 1 TI58 rfl TI9 rfl h132 ⟨rfl, Only.refl No _⟩)) ?_
      refine WD.p rfl (fun e w hR hh => by obtain ⟨h133, -⟩ := hh; rw [← hwd] at hR; exact SG.n (o_ld TI9 rfl h133 (tokc (hS.ext hR) ha1 1 _ rfl) ⟨rfl, Only.refl No _⟩)) ?_
      refine WD.p rfl (fun e w hR hh => by obtain ⟨h0, -⟩ := hh; exact SG.n (o_mvh h0 ⟨rfl, Only.refl No _⟩)) ?_
      refine WD.p rfl (fun e w hR hh => by obtain ⟨h1, -⟩ := hh; exact SG.n (o_mvh h1 ⟨rfl, Only.refl No _⟩)) ?_
      refine WD.p rfl (fun e w hR hh => by obtain ⟨h136, -⟩ := hh; exact SG.n (o_addi h136 rfl (by omega) ⟨rfl, Only.refl No _⟩)) ?_
      refine WD.p rfl (fun e w hR hh => by obtain ⟨h137, h135, -⟩ := hh; exact SG.n (o_ixB (i := a + 1) TI54 TI58 h135 h137 ha1 ⟨rfl, Only.refl No _⟩)) ?_
      refine WD.p rfl (fun e w hR hh => by obtain ⟨h138, -⟩ := hh; exact SG.n (o_fa 2 TI58 rfl TI3 rfl h138 ⟨rfl, Only.refl No _⟩)) ?_
      refine WD.p rfl (fun e w hR hh => by obtain ⟨h139, -⟩ := hh; rw [← hwd] at hR; exact SG.n (o_ld TI3 rfl h139 (tokc (hS.ext hR) ha1 2 _ rfl) ⟨rfl, Only.refl No _⟩)) ?_
      refine WD.p rfl (fun e w hR hh => by obtain ⟨h0, -⟩ := hh; exact SG.n (o_mvh h0 ⟨rfl, Only.refl No _⟩)) ?_
      refine WD.p rfl (fun e w hR hh => by obtain ⟨h1, -⟩ := hh; exact SG.n (o_mvh h1 ⟨rfl, Only.refl No _⟩)) ?_
      refine WD.p rfl (fun e w hR hh => by obtain ⟨h142, -⟩ := hh; exact SG.n (o_addi h142 rfl (by omega) ⟨rfl, Only.refl No _⟩)) ?_
      refine WD.p rfl (fun e w hR hh => by obtain ⟨h143, h141, -⟩ := hh; exact SG.n (o_ixB (i := a + 1) TI54 TI58 h141 h143 ha1 ⟨rfl, Only.refl No _⟩)) ?_
      refine WD.p rfl (fun e w hR hh => by obtain ⟨h144, -⟩ := hh; exact SG.n (o_fa 3 TI58 rfl TI3 rfl h144 ⟨rfl, Only.refl No _⟩)) ?_
      refine WD.p rfl (fun e w hR hh => by obtain ⟨h145, -⟩ := hh; rw [← hwd] at hR; exact SG.n (o_ld TI3 rfl h145 (tokc (hS.ext hR) ha1 3 _ rfl) ⟨rfl, Only.refl No _⟩)) ?_
      refine WD.p rfl (fun e w hR hh => by obtain ⟨h146, h140, h134, -⟩ := hh; exact SG.n (o_bldC (cs := [(.int .i64 0), (.int .i64 0), (.string ⟨#[]⟩), _, _, (.int .i64 1), _]) TI30 (Sizes.cons TI3 (Sizes.cons TI3 (Sizes.cons TI9 (Sizes.cons TI9 (Sizes.cons TI3 (Sizes.cons TI3 (Sizes.cons TI3 Sizes.nil))))))) rfl (lcp h134 (lcp h140 (lcp h146 (lcp (show _ = Value.int _ _ from rfl) lnp)))) rfl rfl ⟨rfl, Only.refl No _⟩)) ?_
      refine WD.q (fun v w => ∃ c, wd.heap.size ≤ c ∧ v = .pointer (some ⟨c, 0, none⟩) ∧ w.heap[c]? = some (.cells (exV ex0).toArray 30 (0, 0))) (fun v w w2 hR hh => by obtain ⟨c, h1, h2, h3⟩ := hh; exact ⟨c, h1, h2, hR.blk h3 (fun h => h)⟩) rfl (fun e w hR hh => by skip; rw [← hwd] at hR; exact SG.n (o_alB TI30 (fun w' h1 h2 h3 => ⟨⟨w.heap.size, hR.size, rfl, h1⟩, h2⟩))) ?_
      rintro e w hR ⟨h10, h147, h146, h145, h144, h143, h142, h141, h140, h139, h138, h137, h136, h135, h134, h133, h132, h131, h130, h129, h0, h1, h8, h9, -⟩
      rw [← hwd] at hR
      obtain ⟨c10, hc10, h10, hC10⟩ := h10
      replace hx := hx.tr hR
      replace hS := hS.ext hR
      replace hB8 := hR.blk hB8 (fun h => h)
      have hKl4 := hK.lt
      replace hK := own_ext hK hR
      replace hBk : Bk ≤ w.heap.size := Nat.le_trans hBk hR.size
      have htb10 : tb < c10 := by omega
      have hb810 : b8 < c10 := by omega
      have hx10 : w0.heap.size ≤ c10 := by omega
      refine WL.u (o_stA TI30 h10 (show _ = Value.agg (exV (rF T (a + 1))).toArray from h147) rfl rfl hC10 rfl ?_)
      intro wn hC10n hon hsn
      replace hB8 := hon.blk hB8 (by omega)
      replace hx := hx.trans' hon (fun _ h => h) (fun k hk he => by omega)
      replace hS := hS.only hon (fun b hb he => by simp [Value.ownBlock] at hb; omega)
      replace hK := own_only hK hon (fun b hb he => by have := (hKl4 b hb).2; omega)
      replace hBk : Bk ≤ wn.heap.size := by omega
      refine WL.nil ?_
      refine W.seq ?_
      refine W.region ?_
      refine WL.c rfl (o_ash (by first | exact (show _ = Value.slice _ _ _ from rfl) | exact rfl) ?_)
      refine WL.nil ?_
      refine W.seq ?_
      refine W.region ?_
      refine WL.c rfl (o_mvh h0 ?_)
      refine WL.c rfl (o_mvh h1 ?_)
      refine WL.c rfl (o_addi rfl rfl (by omega) ?_)
      refine WL.c rfl (o_ldA TI30 rfl h10 (show Cells _ c10 0 (exV (rF T (a + 1))) from Cells.of hC10n 0 _ (by simp)) rfl ?_)
      refine WL.c rfl (o_call Try.call72 (lc rfl (lc rfl (lc rfl ln))) ((IH _ _ _ _ _ (rF T (a + 1)) _ hN (by omega) (hdE_n hh) (fst_h hTz hh) hS).mono ?_))
      rintro v153 w153 ⟨sv, rfl, hs153, hx153⟩
      replace hx := hx.tr hx153
      replace hS := hS.ext hx153
      replace hB8 := hx153.blk hB8 (fun h => h)
      replace hK := own_ext hK hx153
      replace hBk : Bk ≤ w153.heap.size := Nat.le_trans hBk hx153.size
      refine WL.c rfl (o_mvh (by first | exact (show _ = Value.tuple _ from rfl) | exact rfl) ?_)
      refine WL.c rfl (o_ext rfl rfl ?_)
      refine WL.c rfl (o_ext rfl rfl ?_)
      refine WL.c rfl (o_ash (by first | exact (show _ = Value.slice _ _ _ from rfl) | exact rfl) ?_)
      refine WL.c rfl (o_ash (show _ = Value.int _ _ from rfl) ?_)
      refine WL.nil ?_
      refine W.seq ?_
      refine W.region ?_
      refine WL.c rfl (o_mvh h9 ?_)
      refine WL.c rfl (o_mvh (by first | exact (show _ = Value.slice _ _ _ from rfl) | exact rfl) ?_)
      refine WL.c rfl (o_apO (Bk) TI38 TI30 rfl rfl hK (Sl.own hs153) rfl (by decide) (one_exs _) (by rw [maxLen_eq]; omega) (by omega) hBk ?_)
      intro v158 w158 hK2 hoA _ _
      replace hK2 : w158.ownsRow Bk 30 7 v158 (Ka ++ N2).length (exs ((Ka ++ N2).map (plE T))) := by rw [List.length_append, List.map_append, exs_app]; exact hK2
      have hKg := fun k hk => (hK.lt k hk).1
      replace hB8 := hoA.blk hB8 (fun hF => by have := hKg _ hF; omega)
      replace hx := hx.trans' hoA (fun _ h => h) (fun k hk he => by have := hKg k he; omega)
      replace hS := hS.only hoA (fun b hb he => by simp [Value.ownBlock] at hb; have := hKg b he; omega)
      have hz158 := hoA.size
      replace hBk : Bk ≤ w158.heap.size := by omega
      clear hK
      refine WL.c rfl (o_ash (by first | exact (show _ = Value.slice _ _ _ from rfl) | exact rfl) ?_)
      refine WL.nil ?_
      refine W.region ?_
      refine WL.c rfl (o_fa 5 TI30 rfl TI3 rfl h8 ?_)
      refine WL.c rfl (o_ld TI3 rfl rfl (cell_of hB8 rfl) ?_)
      refine WL.c rfl (o_addi rfl rfl (by show _ ≤ (q : Int) + 1 ∧ (q : Int) + 1 ≤ _; omega) ?_)
      refine WL.c rfl (o_fa 5 TI30 rfl TI3 rfl h8 ?_)
      refine WL.u (o_stB TI3 rfl (show _ = Value.int .i64 ((q : Int) + 1) from rfl) rfl hB8 (show 5 < 7 by decide) ?_)
      intro wz hBn hon hsn
      replace hB8 : wz.heap[b8]? = some (.cells (exV (Y.br false ((q + 1 : Nat) : Int))).toArray 30 (0, 0)) := hBn
      replace hx := hx.trans' hon (fun _ h => h) (fun k hk he => by omega)
      replace hS := hS.only hon (fun b hb he => by simp [Value.ownBlock] at hb; omega)
      replace hK2 := own_only hK2 hon (fun b hb he => by have := (hK2.lt b hb).1; omega)
      replace hBk : Bk ≤ wz.heap.size := by omega
      refine WL.nil ?_
      refine ⟨⟨q + 1, jj, _, Ka ++ N2, hst2, hjl2, by omega, h0, rfl, h8, rfl, hB8, hS, hK2, hBk, hx⟩, ?_⟩
      show T.length - ((jj : Int)).toNat < _
      rw [hm1]; simp [intOf]; omega
    · skip
      rw [hqn] at hB8
      refine W.region ?_
      refine WL.c rfl (o_mvh h0 ?_)
      refine WL.c rfl (o_mvh h1 ?_)
      refine WL.c rfl (o_ixB (i := a) TI54 TI58 rfl rfl (hal) ?_)
      refine WL.c rfl (o_fa 1 TI58 rfl TI9 rfl rfl ?_)
      refine WL.c rfl (o_ld TI9 rfl rfl (tokc hS hal 1 _ rfl) ?_)
      refine WL.c rfl (o_neT rfl rfl ?_)
      refine WL.nil ?_
      refine W.condF' rfl (by simp [hcb]) ?_
      refine W.exit ?_
      refine W.region ?_
      refine WL.c rfl (o_mvh h1 ?_)
      refine WL.c rfl (o_addi rfl rfl (by omega) ?_)
      refine WL.c rfl (o_ash (show _ = Value.int _ _ from rfl) ?_)
      refine WL.nil ?_
      refine W.seq ?_
      obtain ⟨Z, hZd⟩ : ∃ Z, Z = Y.br false (n : Nat) := ⟨_, rfl⟩
      rw [← hZd] at hB8
      have hNm : List.map (plE T) ((atE i x).br false (n : Nat) :: M) = Z :: M.map (plE T) := by rw [hZd, hY]; simp [plE_lf, plE_vec, plE_opt, plE_br, plE_nm]
      have hKl : M.length ≤ 65536 := hMl
      subst hMe
      subst haj
      refine W.region ?_
      refine WL.c rfl (o_ldA TI30 rfl h8 (show Cells _ b8 0 (exV Z) from Cells.of hB8 0 _ (by simp)) rfl ?_)
      obtain ⟨w50, hw50⟩ : ∃ w : World, w.heap[b8]? = some (.cells (exV Z).toArray 30 (0, 0)) := ⟨_, hB8⟩
      refine WL.c rfl (o_bs1 TI38 TI30 (show _ = Value.agg (exV Z).toArray from rfl) (by decide) (by decide) rfl ?_)
      have h166 := own_new1 (w := w) (v := Value.agg (exV Z).toArray) (el := 30) (s := 7) rfl
      have hx166 := Only.alloc w (.cells (Value.agg (exV Z).toArray).cells 30)
      have hgz : w0.heap.size ≤ w.heap.size := hx.size
      generalize w.alloc (.cells (Value.agg (exV Z).toArray).cells 30) = w166 at h166 hx166 ⊢
      replace hK := own_ext hK hx166
      replace hx := hx.tr hx166
      refine WL.c rfl (o_mvh h9 ?_)
      refine WL.c rfl (o_apO (w0.heap.size) TI38 TI30 (show _ = Value.slice _ _ _ from rfl) rfl (own_mono h166 hgz) (Sl.own hK) rfl (by decide) (one_exs _) (by rw [maxLen_eq]; omega) (by omega) (hx.size) ?_)
      intro v168 w168 hown hoA hbA _
      replace hx := hx.trans' hoA (fun _ h => h) (fun k hk he => by have := (h166.lt k he).1; omega)
      skip
      refine WL.c rfl (o_mvh (show _ = Value.int _ _ from rfl) ?_)
      refine WL.c rfl (o_ash (by first | exact (show _ = Value.slice _ _ _ from rfl) | exact rfl) ?_)
      refine WL.c rfl (o_ash (show _ = Value.int _ _ from rfl) ?_)
      refine WL.nil ?_
      refine W.ret ?_
      refine ret2v rfl rfl (show _ = Value.int _ _ from rfl) ?_
      exact ⟨v168, rfl, by rw [hNm]; simp only [List.length_cons]; rw [Nat.add_comm]; exact hown, hx⟩

theorem rexpr_spec (T : List Tk) (hTl : T.length ≤ 65536) (hTz : ∀ i, ((tkA T i).kind = 2 → (tkA T i).text = []) ∧ ((tkA T i).kind ≠ 2 → (tkA T i).n = 0)) (tb to_ tc : Nat) : ∀ m, RExpr T tb to_ tc m
  | 0 => fun deep i x N j F w0 hP hj _ _ _ => by have := (px_rise hP).1; omega
  | m + 1 => fun deep i x N j F w0 hP hj hx hF hS => rexpr_step T hTl hTz tb to_ tc m (rexpr_spec T hTl hTz tb to_ tc m) deep i x N j F w0 hP hj hx hF hS

end Go.Proofs.Ytcljkkfpcomdcaa

set_option linter.unusedSimpArgs false
set_option linter.unusedVariables false
set_option maxRecDepth 100000
namespace Go.Proofs.Ytcljkkfpcomdcaa
open Go Go.Vc Go.RowKit Go.Proofs

theorem pd_inv {T : List Tk} {i k : Nat} {D : List Df} (h : PD T i k D) (hi : i < T.length) : ∃ N j D', k < 256 ∧ nmT (tkA T (i + 1)) = true ∧ PX T none 0 (i + 3) exM N 0 j ∧ isT (tkA T j) 3 [59] = true ∧ PD T (j + 1) (k + 1) D' ∧ D = ⟨(tkA T (i + 1)).text, ((i + 1 : Nat) : Int), N⟩ :: D' := by
  cases h with
  | nil h _ => omega
  | cons hk h0 h1 h2 hN h3 hD => exact ⟨_, _, _, hk, h1, hN, h3, hD, rfl⟩
theorem pd_end {T : List Tk} {i k : Nat} {D : List Df} (h : PD T i k D) (hi : T.length ≤ i) : D = [] := by
  cases h with
  | nil h _ => rfl
  | cons hk h0 h1 h2 hN h3 hD => have := isT_lt (by decide) h0; omega
theorem run_inv {T : List Tk} {i d k e j : Nat} {y : Sy} {S : List Sy} {o : List Nat} (h : Run T ⟨i, y :: S, o, d⟩ k e j) : OkY y o ∧ ((stepF T i y S o d = .er e ∧ j = i) ∨ ∃ s k2, k2 < k ∧ stepF T i y S o d = .go s ∧ Run T s k2 e j) := by
  cases h with
  | er h hk => exact ⟨hk, .inl ⟨h, rfl⟩⟩
  | go h hr hk => exact ⟨hk, .inr ⟨_, _, Nat.lt_succ_self _, h, hr⟩⟩
theorem run_end {T : List Tk} {i d k e j : Nat} {o : List Nat} (h : Run T ⟨i, [], o, d⟩ k e j) : e = 0 := by
  cases h with
  | fin => rfl
theorem step_ne {T : List Tk} {i d e : Nat} {y : Sy} {S : List Sy} {o : List Nat} (h : stepF T i y S o d = .er e) : e ≠ 0 := by
  cases y <;> simp only [stepF] at h <;> (repeat' split at h) <;> first | (cases h; done) | (cases h; decide)
theorem run_res {T : List Tk} {H p i d k e j : Nat} {lv v : Value} {w : World} {y : Sy} {S : List Sy} {o : List Nat} (hr : Run T ⟨i, y :: S, o, d⟩ k e j) (hb : StkB ⟨i, y :: S, o, d⟩) (hi : i ≤ T.length) (hd : d ≤ 256) (ho : o.length ≤ 17) (h : resT T H p lv i (stepF T i y S o d) v w) :
    ∃ ei : Nat, v = .int .i64 (ei : Int) ∧ ((ei ≠ 0 ∧ e = ei ∧ j = i ∧ ∃ sv ov S o d, RdM w H p lv sv ov T ⟨i, S, o, d⟩) ∨ (ei = 0 ∧ ∃ s k2 sv ov, k2 < k ∧ Run T s k2 e j ∧ RdM w H p lv sv ov T s ∧ StkB s ∧ s.at_ ≤ T.length ∧ s.defs ≤ 256 ∧ s.opn.length ≤ 17)) := by
  rcases (run_inv hr).2 with ⟨h1, rfl⟩ | ⟨s, k2, hk, h1, h2⟩
  · rw [h1] at h
    exact ⟨e, h.1, .inl ⟨step_ne h1, rfl, rfl, h.2⟩⟩
  · rw [h1] at h
    obtain ⟨hv, sv, ov, hM⟩ := h
    obtain ⟨g1, g2, g3⟩ := at_step hi hd ho h1
    exact ⟨0, hv, .inr ⟨rfl, s, k2, sv, ov, hk, h2, hM, stk_step hb h1, g1, g2, g3⟩⟩
theorem retCTT {P : Program} {e : Env} {w : World} {fn : Func} {R : Value → World → Prop} {a t1 t2 : Tmp} {T : TypeId} {d : TypeDesc} {s bs b o : Nat} {z v1 v2 : Value} {xs : List Value} (hr : fn.results = #[.cell a T, .tmp t1, .tmp t2]) (ht : Ty P T d s bs z) (hd : isAggD d = true) (h0 : e a = .pointer (some ⟨b, o, none⟩)) (h1 : e t1 = v1) (h2 : e t2 = v2) (hc : Cells w b o xs) (hl : xs.length = s) (h : R (.tuple #[.agg xs.toArray, v1, v2]) w) : Rt fn P R e w :=
  ⟨fun _ ac ha => ⟨.tuple #[.agg xs.toArray, v1, v2], by
    have g0 : ac.tmps.getD a undef = .pointer (some ⟨b, o, none⟩) := by rw [ha.get]; exact h0
    have g1 : ac.tmps.getD t1 undef = v1 := by rw [ha.get]; exact h1
    have g2 : ac.tmps.getD t2 undef = v2 := by rw [ha.get]; exact h2
    simp only [Array.getD_eq_getD_getElem?] at g0 g1 g2
    simp [results, hr, asAddr, g0, g1, g2, run_loadA ht hd hc hl], h⟩⟩
theorem cut_z (xs : List UInt8) : ∀ i, ((tkA (cutA xs).1 i).kind = 2 → (tkA (cutA xs).1 i).text = []) ∧ ((tkA (cutA xs).1 i).kind ≠ 2 → (tkA (cutA xs).1 i).n = 0) := fun i => by
  by_cases hi : i < (cutA xs).1.length
  · exact ⟨(cut_in hi).num, (cut_in hi).zero⟩
  · rw [tkA_ge (by omega)]; exact ⟨fun _ => rfl, fun _ => rfl⟩

set_option maxHeartbeats 2000000 in
theorem made_spec (T : List Tk) (hTl : T.length ≤ 65536) (hTz : ∀ i, ((tkA T i).kind = 2 → (tkA T i).text = []) ∧ ((tkA T i).kind ≠ 2 → (tkA T i).n = 0)) (D : List Df) (hP0 : PD T 0 0 D) (lv : Value) (w0 : World) (hS : Sl w0 5 lv T.length (flat T)) (hlb : ∀ b, lv.ownBlock = some b → b < w0.heap.size) : Ca Try.prog 44 #[lv] w0 (fun v w' => ∃ dv V, v = .agg #[dv] ∧ Defs w' w0.heap.size (D.map (plD T)) dv V ∧ Ext w0 w') := by
  refine Ca.of Try.func44 Try.ntmps44 rfl rfl ?_
  refine W.seq ?_
  refine W.region ?_
  refine WL.c rfl (o_alB TI28 ?_)
  intro w2 hC2 hx2 hs2
  have hx := hx2
  replace hS := hS.ext hx2
  replace hC2 : w2.heap[w0.heap.size]? = some (.cells #[.slice none 0 0] 28 (0, 0)) := hC2
  obtain ⟨c2, hc2⟩ : ∃ c, c = w0.heap.size := ⟨_, rfl⟩
  rw [← hc2] at hC2 ⊢
  refine WL.nil ?_
  refine W.seq ?_
  refine W.region ?_
  refine WL.c rfl (o_alB TI28 ?_)
  intro w3 hC3 hx3 hs3
  replace hx := hx.tr hx3
  replace hS := hS.ext hx3
  replace hC2 := hx3.blk hC2 (fun h => h)
  replace hC3 : w3.heap[w2.heap.size]? = some (.cells #[.slice none 0 0] 28 (0, 0)) := hC3
  obtain ⟨c3, hc3⟩ : ∃ c, c = w2.heap.size := ⟨_, rfl⟩
  rw [← hc3] at hC3 ⊢
  obtain ⟨B, hB⟩ : ∃ B, B = w3.heap.size := ⟨_, rfl⟩
  have hc23 : c2 < c3 := by omega
  have hc3B : c3 < B := by omega
  have hc20 : w0.heap.size ≤ c2 := by omega
  have hBle : B ≤ w3.heap.size := by omega
  refine WL.nil ?_
  refine W.seq ?_
  refine W.region ?_
  refine WL.c rfl (o_ash (show _ = Value.int _ _ from rfl) ?_)
  refine WL.nil ?_
  refine W.seq ?_
  refine W.block ?_
  refine W.loop (fun e w => ∃ (i k : Nat) (Da Dr : List Df) (dv : Value) (V : Nat → Value), PD T i k Dr ∧ D = Da ++ Dr ∧ Da.length = k ∧ i ≤ T.length ∧ e 0 = lv ∧ e 2 = .pointer (some ⟨c2, 0, none⟩) ∧ e 3 = .pointer (some ⟨c3, 0, none⟩) ∧ e 4 = .int .i64 (i : Int) ∧ w.heap[c2]? = some (.cells #[.slice none 0 0] 28 (0, 0)) ∧ w.heap[c3]? = some (.cells #[dv] 28 (0, 0)) ∧ Defs w B (Da.map (plD T)) dv V ∧ Sl w 5 lv T.length (flat T) ∧ B ≤ w.heap.size ∧ Ext w0 w) (fun e w => T.length - (intOf (e 4)).toNat) ?_ ?_
  · exact ⟨0, 0, [], D, _, fun _ => undef, hP0, rfl, rfl, Nat.zero_le _, rfl, rfl, rfl, rfl, hC2, hC3, Defs.nil _ _ _, hS, hBle, hx⟩
  rintro e w ⟨i, k, Da, Dr, dv, V, hP, hDe, hDk, hi, h0, h2, h3, h4, hC2, hC3, hD, hS, hBle, hx⟩
  have hm4 := h4
  refine W.seq ?_
  refine W.seq ?_
  refine W.region ?_
  refine WL.c rfl (o_mvh h4 ?_)
  refine WL.c rfl (o_mvh h0 ?_)
  refine WL.c rfl (o_lenR TI54 rfl hS ?_)
  refine WL.c rfl (o_lt rfl rfl ?_)
  refine WL.nil ?_
  refine W.cond rfl (fun c9 => ?_) (fun c9 => ?_)
  · try simp only [decide_eq_true_eq, decide_eq_false_iff_not, Bool.not_eq_true', Bool.not_eq_false', Bool.and_eq_true, Bool.or_eq_true, Bool.and_eq_false_iff, Bool.or_eq_false_iff] at c9
    have hil : i < T.length := by omega
    obtain ⟨N, j, D', hk, hnm, hPX, hsc, hP2, hDr⟩ := pd_inv hP hil
    obtain ⟨tb, to_, tc, hlv, -⟩ := Sl.tok hS hil
    rw [hlv] at h0 hS
    have hi1 := nmT_lt hnm
    have hjl := isT_lt (by decide) hsc
    have hij := (px_rise hPX).1
    have hNl := px_len hPX
    refine W.skip ?_
    refine W.block ?_
    refine W.seq ?_
    obtain ⟨wd, hwd⟩ : ∃ wd, wd = w.drew := ⟨_, rfl⟩
    have hxd : Ext w wd := hwd ▸ Only.drew w
    replace hx := hx.tr hxd
    replace hS := hS.ext hxd
    replace hC2 := hxd.blk hC2 (fun h => h)
    replace hC3 := hxd.blk hC3 (fun h => h)
    replace hD := hD.ext hxd
    replace hBle : B ≤ wd.heap.size := Nat.le_trans hBle hxd.size
    refine W.drawT 14 (Ext) [(0, fun v _ => v = _), (2, fun v _ => v = _), (3, fun v _ => v = _), (4, fun v _ => v = _)] rfl (by kernel_rfl) (Only.refl No) (fun _ _ _ h k => h.trans k) ⟨Mono.eq, Mono.eq, Mono.eq, Mono.eq, trivial⟩ ⟨h0, h2, h3, h4, trivial⟩ ?_
    refine WD.p rfl (fun e w hR hh => by obtain ⟨h0, -⟩ := hh; exact SG.n (o_mvh h0 ⟨rfl, Only.refl No _⟩)) ?_
    refine WD.p rfl (fun e w hR hh => by obtain ⟨h4, -⟩ := hh; exact SG.n (o_mvh h4 ⟨rfl, Only.refl No _⟩)) ?_
    refine WD.p rfl (fun e w hR hh => by obtain ⟨h11, -⟩ := hh; exact SG.n (o_addi h11 rfl (by omega) ⟨rfl, Only.refl No _⟩)) ?_
    refine WD.p rfl (fun e w hR hh => by obtain ⟨h12, h10, -⟩ := hh; exact SG.n (o_ixB (i := i + 1) TI54 TI58 h10 h12 hi1 ⟨rfl, Only.refl No _⟩)) ?_
    refine WD.p rfl (fun e w hR hh => by obtain ⟨h13, -⟩ := hh; exact SG.n (o_fa 1 TI58 rfl TI9 rfl h13 ⟨rfl, Only.refl No _⟩)) ?_
    refine WD.p rfl (fun e w hR hh => by obtain ⟨h14, -⟩ := hh; rw [← hwd] at hR; exact SG.n (o_ld TI9 rfl h14 (tokc (hS.ext hR) hi1 1 _ rfl) ⟨rfl, Only.refl No _⟩)) ?_
    refine WD.p rfl (fun e w hR hh => by obtain ⟨h0, -⟩ := hh; exact SG.n (o_mvh h0 ⟨rfl, Only.refl No _⟩)) ?_
    refine WD.p rfl (fun e w hR hh => by obtain ⟨h4, -⟩ := hh; exact SG.n (o_mvh h4 ⟨rfl, Only.refl No _⟩)) ?_
    refine WD.p rfl (fun e w hR hh => by obtain ⟨h17, -⟩ := hh; exact SG.n (o_addi h17 rfl (by omega) ⟨rfl, Only.refl No _⟩)) ?_
    refine WD.p rfl (fun e w hR hh => by obtain ⟨h18, h16, -⟩ := hh; exact SG.n (o_ixB (i := i + 1) TI54 TI58 h16 h18 hi1 ⟨rfl, Only.refl No _⟩)) ?_
    refine WD.p rfl (fun e w hR hh => by obtain ⟨h19, -⟩ := hh; exact SG.n (o_fa 3 TI58 rfl TI3 rfl h19 ⟨rfl, Only.refl No _⟩)) ?_
    refine WD.p rfl (fun e w hR hh => by obtain ⟨h20, -⟩ := hh; rw [← hwd] at hR; exact SG.n (o_ld TI3 rfl h20 (tokc (hS.ext hR) hi1 3 _ rfl) ⟨rfl, Only.refl No _⟩)) ?_
    refine WD.p rfl (fun e w hR hh => by obtain ⟨h21, h15, -⟩ := hh; exact SG.n (o_bldC (cs := [_, _, (.slice none 0 0)]) TI40 (Sizes.cons TI9 (Sizes.cons TI3 (Sizes.cons TI38 Sizes.nil))) rfl (lcp h15 (lcp h21 lnp)) rfl rfl ⟨rfl, Only.refl No _⟩)) ?_
    refine WD.q (fun v w => ∃ c, wd.heap.size ≤ c ∧ v = .pointer (some ⟨c, 0, none⟩) ∧ w.heap[c]? = some (.cells #[st [], .int .i64 0, .slice none 0 0] 40 (0, 0))) (fun v w w2 hR hh => by obtain ⟨c, h1, h2, h3⟩ := hh; exact ⟨c, h1, h2, hR.blk h3 (fun h => h)⟩) rfl (fun e w hR hh => by skip; rw [← hwd] at hR; exact SG.n (o_alB TI40 (fun w' h1 h2 h3 => ⟨⟨w.heap.size, hR.size, rfl, h1⟩, h2⟩))) ?_
    rintro e w hR ⟨h5, h22, h21, h20, h19, h18, h17, h16, h15, h14, h13, h12, h11, h10, h0, h2, h3, h4, -⟩
    rw [← hwd] at hR
    obtain ⟨c5, hc5, h5, hC5⟩ := h5
    have hDl := hD.lt
    replace hx := hx.tr hR
    replace hS := hS.ext hR
    replace hC2 := hR.blk hC2 (fun h => h)
    replace hC3 := hR.blk hC3 (fun h => h)
    replace hD := hD.ext hR
    have hBc5 : B ≤ c5 := by omega
    have hDc5 : ∀ k, DF dv V (Da.map (plD T)).length k → ¬ k = c5 := fun k hk he => by have := (hDl k hk).2; omega
    replace hBle : B ≤ w.heap.size := Nat.le_trans hBle hR.size
    have htb := hlb tb (by rw [hlv]; rfl)
    refine WL.u (o_stA TI40 h5 (show _ = Value.agg #[st (tkA T (i + 1)).text, .int .i64 ((tkA T (i + 1)).at_ : Int), .slice none 0 0] from h22) rfl rfl hC5 rfl ?_)
    intro wn hC5n hon hsn
    replace hC2 := hon.blk hC2 (by omega)
    replace hC3 := hon.blk hC3 (by omega)
    replace hD := hD.only hon hDc5
    replace hx := hx.trans' hon (fun _ h => h) (fun k hk he => by omega)
    replace hS := hS.only hon (fun b hb he => by simp [Value.ownBlock] at hb; omega)
    replace hBle : B ≤ wn.heap.size := by omega
    have hc5l := (Array.getElem?_eq_some_iff.1 hC5n).1
    refine WL.nil ?_
    refine W.seq ?_
    refine W.region ?_
    refine WL.c rfl (o_mvh h0 ?_)
    refine WL.c rfl (o_mvh h4 ?_)
    refine WL.c rfl (o_addi rfl rfl (by omega) ?_)
    refine WL.c rfl (o_bldC (cs := [(.int .i64 0), (.int .i64 0), (.string ⟨#[]⟩), (.string ⟨#[]⟩), (.int .i64 0), (.int .i64 0), (.int .i64 0)]) TI30 (Sizes.cons TI3 (Sizes.cons TI3 (Sizes.cons TI9 (Sizes.cons TI9 (Sizes.cons TI3 (Sizes.cons TI3 (Sizes.cons TI3 Sizes.nil))))))) rfl lnp rfl rfl ?_)
    refine WL.c rfl (o_call Try.call72 (lc rfl (lc rfl (lc rfl ln))) ((rexpr_spec T hTl hTz tb to_ tc T.length 0 (i + 3) exM N j ex0 _ hPX (by omega) ⟨rfl, rfl⟩ fst_0 hS).mono ?_))
    rintro v28 w28 ⟨nv, rfl, hN, hx28⟩
    replace hx := hx.tr hx28
    replace hS := hS.ext hx28
    replace hC2 := hx28.blk hC2 (fun h => h)
    replace hC3 := hx28.blk hC3 (fun h => h)
    replace hC5n := hx28.blk hC5n (fun h => h)
    have hDl2 := hD.lt
    replace hD := hD.ext hx28
    have hBn := hBle
    replace hBle : B ≤ w28.heap.size := Nat.le_trans hBle hx28.size
    obtain ⟨Bn, hBnd⟩ : ∃ b, b = wn.heap.size := ⟨_, rfl⟩
    rw [← hBnd] at hN hDl2 hBn hc5l
    refine WL.c rfl (o_mvh (by first | exact (show _ = Value.tuple _ from rfl) | exact rfl) ?_)
    refine WL.c rfl (o_ext rfl rfl ?_)
    refine WL.c rfl (o_ext rfl rfl ?_)
    refine WL.c rfl (o_fa 2 TI40 rfl TI38 rfl h5 ?_)
    refine WL.u (o_stB TI38 rfl (show _ = nv from rfl) (own_one hN) hC5n (show 2 < 3 by decide) ?_)
    intro wz hC5z hon2 hsn2
    replace hC5z : wz.heap[c5]? = some (.cells #[st (tkA T (i + 1)).text, .int .i64 ((tkA T (i + 1)).at_ : Int), nv] 40 (0, 0)) := hC5z
    replace hC2 := hon2.blk hC2 (by omega)
    replace hC3 := hon2.blk hC3 (by omega)
    replace hD := hD.only hon2 hDc5
    replace hx := hx.trans' hon2 (fun _ h => h) (fun k hk he => by omega)
    replace hS := hS.only hon2 (fun b hb he => by simp [Value.ownBlock] at hb; omega)
    replace hN := own_only hN hon2 (fun b hb he => by have := (hN.lt b hb).1; omega)
    replace hBle : B ≤ wz.heap.size := by omega
    refine WL.c rfl (o_ash (show _ = Value.int _ _ from rfl) ?_)
    refine WL.nil ?_
    refine W.seq ?_
    refine W.region ?_
    refine WL.c rfl (o_fa 0 TI28 rfl TI26 rfl h3 ?_)
    refine WL.c rfl (o_ld TI26 rfl rfl (cell_of hC3 rfl) ?_)
    refine WL.c rfl (o_ldA TI40 rfl h5 (show Cells _ c5 0 [st (tkA T (i + 1)).text, .int .i64 ((tkA T (i + 1)).at_ : Int), nv] from Cells.of hC5z 0 _ (by simp)) rfl ?_)
    refine WL.apO (B) rfl rfl TI26 TI40 (show _ = Value.agg #[st (tkA T (i + 1)).text, .int .i64 ((tkA T (i + 1)).at_ : Int), nv] from rfl) rfl hD.row (by decide) (by decide) rfl (dcell_one (own_one hN)) rfl (by rw [maxLen_eq, List.length_map]; omega) (by rw [List.length_map]; omega) hBle ?_
    intro v36 w36 hown1 ho36 hob36 _
    have hdl : ∀ k, dv.ownBlock = some k → B ≤ k := fun k hk => (hD.row.lt k hk).1
    replace ho36 : Only (fun k => dv.ownBlock = some k) _ _ := ho36
    have hC3o := hC3
    replace hC2 := ho36.blk hC2 (fun hk => by have := hdl _ hk; omega)
    replace hC3 := ho36.blk hC3 (fun hk => by have := hdl _ hk; omega)
    have htys := hD.tys.only ho36 (fun j hj k hk hF => own_row_off hD.row (hD.tys.row j hj) (by decide) k hk hF)
    replace hN := own_only hN ho36 (fun k hk hF => own_row_off hD.row hN (by decide) k hk hF)
    replace hx := hx.trans' ho36 (fun _ h => h) (fun k hk hF => by have := hdl k hF; omega)
    replace hS := hS.only ho36 (fun b hb hF => by simp [Value.ownBlock] at hb; have := hdl b hF; omega)
    have hVl : ∀ j, j < (Da.map (plD T)).length → ∀ k, (V j).ownBlock = some k → k < Bn := fun j hj k hk => (hDl2 k (.inr ⟨j, hj, hk⟩)).2
    have hz36 := ho36.size
    have hDn := Defs.snoc (d := plD T ⟨(tkA T (i + 1)).text, ((i + 1 : Nat) : Int), N⟩) hown1 htys (show w36.ownsRow Bn 30 7 nv (N.map (plE T)).length (exs (N.map (plE T))) by rw [List.length_map]; exact hN) hBn hVl
    have h36c : ¬ v36.ownBlock = some c3 := own_off hown1 hC3 (by decide)
    replace hBle : B ≤ w36.heap.size := by omega
    refine WL.c rfl (o_fa 0 TI28 rfl TI26 rfl h3 ?_)
    refine WL.u (o_stB TI26 rfl (show _ = v36 from rfl) (own_one hown1) hC3 (show 0 < 1 by decide) ?_)
    intro wy hC3z ho37 hs37
    replace hC3 : wy.heap[c3]? = some (.cells #[v36] 28 (0, 0)) := hC3z
    replace hC2 := ho37.blk hC2 (by omega)
    replace hDn := hDn.only ho37 (fun k hk he => by have := (hDn.lt k hk).1; omega)
    replace hx := hx.trans' ho37 (fun _ h => h) (fun k hk he => by omega)
    replace hS := hS.only ho37 (fun b hb he => by simp [Value.ownBlock] at hb; omega)
    replace hBle : B ≤ wy.heap.size := by omega
    rw [← hlv] at hS
    refine WL.nil ?_
    refine W.region ?_
    refine WL.c rfl (o_mvh (show _ = Value.int _ _ from rfl) ?_)
    refine WL.c rfl (o_addi rfl rfl (by omega) ?_)
    refine WL.c rfl (o_ash (show _ = Value.int _ _ from rfl) ?_)
    refine WL.nil ?_
    refine ⟨⟨j + 1, k + 1, Da ++ [_], D', _, _, hP2, by rw [hDe, hDr, List.append_assoc]; rfl, by simp; omega, by omega, h0.trans hlv.symm, h2, h3, rfl, hC2, hC3, by rw [List.map_append, List.map_singleton]; exact hDn, hS, hBle, hx⟩, ?_⟩
    show T.length - ((j : Int) + 1).toNat < _
    rw [hm4]; simp [intOf]; omega
  · try simp only [decide_eq_true_eq, decide_eq_false_iff_not, Bool.not_eq_true', Bool.not_eq_false', Bool.and_eq_true, Bool.or_eq_true, Bool.and_eq_false_iff, Bool.or_eq_false_iff] at c9
    have hDr := pd_end hP (by omega)
    rw [hDr, List.append_nil] at hDe
    subst hDe
    refine W.exit ?_
    refine W.seq ?_
    refine W.region ?_
    refine WL.c rfl (o_ldA TI28 rfl h3 (show Cells _ c3 0 [dv] from Cells.of hC3 0 _ (by simp)) rfl ?_)
    refine WL.u (o_stA TI28 h2 (show _ = Value.agg #[dv] from rfl) rfl (by simp [own_one hD.row]) hC2 rfl ?_)
    intro wz hC2z ho hs2z
    replace hD := hD.only ho (fun k hk he => by have := (hD.lt k hk).1; omega)
    replace hx := hx.trans' ho (fun _ h => h) (fun b hb he => by omega)
    refine WL.nil ?_
    refine W.ret ?_
    refine retC rfl TI28 rfl h2 ((show Cells _ c2 0 [dv] from Cells.of hC2z 0 _ (by simp))) rfl ?_
    exact ⟨_, V, rfl, hD.mono (by omega), hx⟩
set_option maxHeartbeats 2000000 in
theorem rparse_spec (xs : List UInt8) (w0 : World) (hlen : xs.length ≤ 9223372036854775807) : Ca Try.prog 24 #[st xs] w0 (fun v w' => ∃ dv V, v = .tuple #[.agg #[dv], .int .i64 ((parseA xs).2.1 : Int), .int .i64 ((parseA xs).2.2 : Int)] ∧ Defs w' w0.heap.size (parseA xs).1 dv V ∧ Ext w0 w') := by
  refine Ca.of Try.func24 Try.ntmps24 rfl rfl ?_
  refine W.seq ?_
  refine W.region ?_
  refine WL.c rfl (o_alB TI28 ?_)
  intro w2 hC2 hx2 hs2
  have hx := hx2
  replace hC2 : w2.heap[w0.heap.size]? = some (.cells #[.slice none 0 0] 28 (0, 0)) := hC2
  obtain ⟨c2, hc2⟩ : ∃ c, c = w0.heap.size := ⟨_, rfl⟩
  rw [← hc2] at hC2 ⊢
  have hc20 : w0.heap.size ≤ c2 := by omega
  refine WL.c rfl (o_ash (show _ = Value.int _ _ from rfl) ?_)
  refine WL.c rfl (o_ash (show _ = Value.int _ _ from rfl) ?_)
  refine WL.nil ?_
  refine W.seq ?_
  refine W.region ?_
  refine WL.c rfl (o_mvh (show _ = Value.string _ from rfl) ?_)
  refine WL.c rfl (o_call Try.call41 (lc rfl ln) ((rcut_spec xs _ hlen).mono ?_))
  rintro v11 w11 ⟨vT, rfl, hT, hx11⟩
  replace hx := hx.tr hx11
  replace hC2 := hx11.blk hC2 (fun h => h)
  refine WL.c rfl (o_mvh (by first | exact (show _ = Value.tuple _ from rfl) | exact rfl) ?_)
  refine WL.c rfl (o_ext rfl rfl ?_)
  refine WL.c rfl (o_ext rfl rfl ?_)
  refine WL.c rfl (o_ext rfl rfl ?_)
  refine WL.c rfl (o_ash (by first | exact (show _ = Value.slice _ _ _ from rfl) | exact rfl) ?_)
  refine WL.c rfl (o_ash (show _ = Value.int _ _ from rfl) ?_)
  refine WL.c rfl (o_ash (show _ = Value.int _ _ from rfl) ?_)
  refine WL.nil ?_
  refine W.seq ?_
  refine W.seq ?_
  refine W.region ?_
  refine WL.c rfl (o_mvh (show _ = Value.int _ _ from rfl) ?_)
  refine WL.c rfl (o_ne rfl rfl ?_)
  refine WL.nil ?_
  refine W.cond rfl (fun c16 => ?_) (fun c16 => ?_)
  · try simp only [decide_eq_true_eq, decide_eq_false_iff_not, Bool.not_eq_true', Bool.not_eq_false', Bool.and_eq_true, Bool.or_eq_true, Bool.and_eq_false_iff, Bool.or_eq_false_iff] at c16
    have hce : (cutA xs).2.1 ≠ 0 := by omega
    have hpa := parseA_cut hce
    refine W.seq ?_
    refine W.region ?_
    refine WL.c rfl (o_bldC (cs := [(.slice none 0 0)]) TI28 (Sizes.cons TI26 Sizes.nil) rfl lnp rfl rfl ?_)
    refine WL.c rfl (o_mvh (show _ = Value.int _ _ from rfl) ?_)
    refine WL.c rfl (o_mvh (show _ = Value.int _ _ from rfl) ?_)
    refine WL.u (o_stA TI28 rfl (show _ = Value.agg #[.slice none 0 0] from rfl) rfl rfl hC2 rfl ?_)
    intro wz hC2z ho hs2z
    replace hx := hx.trans' ho (fun _ h => h) (fun b hb he => by omega)
    refine WL.c rfl (o_ash (show _ = Value.int _ _ from rfl) ?_)
    refine WL.c rfl (o_ash (show _ = Value.int _ _ from rfl) ?_)
    refine WL.nil ?_
    refine W.ret ?_
    refine retCTT rfl TI28 rfl rfl rfl rfl (show Cells _ c2 0 [.slice none 0 0] from Cells.of hC2z 0 _ (by simp)) rfl ?_
    rw [hpa]
    exact ⟨_, fun _ => undef, rfl, Defs.nil _ _ _, hx⟩
  · try simp only [decide_eq_true_eq, decide_eq_false_iff_not, Bool.not_eq_true', Bool.not_eq_false', Bool.and_eq_true, Bool.or_eq_true, Bool.and_eq_false_iff, Bool.or_eq_false_iff] at c16
    have hce : (cutA xs).2.1 = 0 := by omega
    obtain ⟨T, hTd⟩ : ∃ T, T = (cutA xs).1 := ⟨_, rfl⟩
    have hTl : T.length ≤ 65536 := hTd ▸ (cutA_len xs).1
    have hTz := cut_z xs
    have hTt : ∀ i, (tkA T i).text.length ≤ 9223372036854775807 := fun i => by
      by_cases hi : i < T.length
      · rw [tkA_lt hi]; have hq := (cutA_len xs).2; rw [← hTd] at hq; have := hq T[i] (List.getElem_mem hi); omega
      · rw [tkA_ge (by omega)]; exact Nat.zero_le _
    obtain ⟨k0, J, hrun0, hplace⟩ := parse_run hce
    rw [← hTd] at hT hTz hrun0 hplace
    refine W.skip ?_
    refine W.seq ?_
    refine W.region ?_
    refine WL.c rfl (o_mvh (by first | exact (show _ = Value.slice _ _ _ from rfl) | exact rfl) ?_)
    refine WL.c rfl (o_bsn (vs := [sySt .schema]) (xs := [(.const (.string ⟨#[40, 115, 99, 104, 101, 109, 97, 41]⟩))]) TI62 TI9 rfl (lc rfl ln) rfl rfl (by decide) (by decide) ?_)
    have hr : (w11.alloc (Obj.cells [sySt .schema].toArray 9)).ownsRow w11.heap.size 9 1 (.slice (some ⟨w11.heap.size, 0, none⟩) 1 1) 1 [sySt .schema] := own_newN rfl (show 1 ≤ maxLen by decide)
    have hxl := Only.alloc w11 (Obj.cells [sySt .schema].toArray 9)
    have hTlt : ∀ b, vT.ownBlock = some b → b < w11.heap.size := fun b hb => (hT.lt b hb).2
    have hB0 := hx.size
    obtain ⟨B, hB⟩ : ∃ B, B = w11.heap.size := ⟨_, rfl⟩
    rw [← hB] at hr hTlt hB0 ⊢
    generalize w11.alloc (Obj.cells [sySt .schema].toArray 9) = w21 at hr hxl ⊢
    replace hx := hx.tr hxl
    replace hC2 := hxl.blk hC2 (fun h => h)
    replace hT := own_ext hT hxl
    have hBz := hxl.size
    have hc2B : c2 < B := by have := (Array.getElem?_eq_some_iff.1 hC2).1; have := hx11.size; omega
    refine WL.c rfl (o_bldC (cs := [vT, .int .i64 0, .slice (some ⟨B, 0, none⟩) 1 1, .slice none 0 0, .int .i64 0]) TI92 (Sizes.cons TI54 (Sizes.cons TI3 (Sizes.cons TI62 (Sizes.cons TI22 (Sizes.cons TI3 Sizes.nil))))) rfl (lcp (show _ = vT from rfl) (lcp (show _ = Value.slice (some ⟨B, 0, none⟩) 1 1 from rfl) lnp)) (by simp only [List.all_cons, List.all_nil, own_one hT]; rfl) rfl ?_)
    refine WL.c rfl (o_boxB rfl ?_)
    intro w23 hC8 hx23 hs23
    replace hx := hx.tr hx23
    replace hC2 := hx23.blk hC2 (fun h => h)
    have hM : RdM w23 B w21.heap.size vT (.slice (some ⟨B, 0, none⟩) 1 1) (.slice none 0 0) T ⟨0, [.schema], [], 0⟩ := ⟨hC8, own_mono (own_ext hT hx23) (Nat.zero_le _), own_ext hr hx23, World.ownsRow_nil _ _ _ _, by omega, hTlt, by omega⟩
    obtain ⟨p, hp⟩ : ∃ p, p = w21.heap.size := ⟨_, rfl⟩
    rw [← hp] at hM ⊢
    clear hC8 hr hT hxl
    refine WL.c rfl (o_ash (by first | exact (show _ = Value.pointer _ from rfl) | exact rfl) ?_)
    refine WL.nil ?_
    refine W.seq ?_
    refine W.block ?_
    refine W.loopN (fun k e w => ∃ (s : Rd) (sv ov : Value), Run T s k (parseA xs).2.1 J ∧ RdM w B p vT sv ov T s ∧ StkB s ∧ s.at_ ≤ T.length ∧ s.defs ≤ 256 ∧ s.opn.length ≤ 17 ∧ e 0 = st xs ∧ e 2 = .pointer (some ⟨c2, 0, none⟩) ∧ e 5 = vT ∧ e 8 = .pointer (some ⟨p, 0, none⟩) ∧ w.heap[c2]? = some (.cells #[.slice none 0 0] 28 (0, 0)) ∧ Ext w0 w) ?_ ?_
    · exact ⟨k0, ⟨0, [.schema], [], 0⟩, _, _, hrun0, hM, Nat.le_refl _, Nat.zero_le _, Nat.zero_le _, Nat.zero_le _, rfl, rfl, rfl, rfl, hC2, hx⟩
    rintro k e w ⟨⟨i, S, o, d⟩, sv, ov, hrun, hM, hsb, hi, hd, ho, h0, h2, h5, h8, hC2, hx⟩
    replace hi : i ≤ T.length := hi
    replace hd : d ≤ 256 := hd
    replace ho : o.length ≤ 17 := ho
    refine W.seq ?_
    refine W.seq ?_
    refine W.region ?_
    refine WL.c rfl (o_mvh h8 ?_)
    refine WL.c rfl (o_nil rfl ?_)
    refine WL.c rfl (o_fa 2 TI92 rfl TI62 rfl rfl ?_)
    refine WL.c rfl (o_ld TI62 rfl rfl (cell_of hM.cl rfl) ?_)
    refine WL.c rfl (o_lenR TI62 rfl (Sl.own hM.sn) ?_)
    refine WL.c rfl (o_gt rfl rfl ?_)
    refine WL.nil ?_
    refine W.cond rfl (fun c29 => ?_) (fun c29 => ?_)
    · try simp only [decide_eq_true_eq, decide_eq_false_iff_not, Bool.not_eq_true', Bool.not_eq_false', Bool.and_eq_true, Bool.or_eq_true, Bool.and_eq_false_iff, Bool.or_eq_false_iff] at c29
      obtain ⟨y, S, rfl⟩ : ∃ y S', S = y :: S' := by
        cases S with
        | nil => simp at c29
        | cons y S => exact ⟨y, S, rfl⟩
      have hok := (run_inv hrun).1
      have hSl : S.length ≤ 900000 := by have := stkB_le hsb; simp only [List.length_cons] at this; omega
      refine W.skip ?_
      refine W.block ?_
      refine W.seq ?_
      refine W.region ?_
      refine WL.c rfl (o_mvh h8 ?_)
      refine WL.c rfl (o_call Try.call42 (lc rfl ln) ((thing_spec B p vT sv ov T hTl hTt i d y S o _ hM hok hi hd ho hSl).mono ?_))
      rintro v31 w31 ⟨hO31, hres⟩
      obtain ⟨ei, rfl, hres2⟩ := run_res hrun hsb hi hd ho hres
      replace hx := hx.trans' hO31 (fun _ h => h) (fun k hk he => by omega)
      replace hC2 := hO31.blk hC2 (by omega)
      refine WL.c rfl (o_ash (show _ = Value.int _ _ from rfl) ?_)
      refine WL.nil ?_
      refine W.seq ?_
      rcases hres2 with ⟨hne, hE, hJ, sv2, ov2, S2, o2, d2, hM2⟩ | ⟨rfl, s2, k2, sv2, ov2, hk2, hr2, hM2, hsb2, ha2, hd2, ho2⟩
      · skip
        have hEn : (parseA xs).2.1 ≠ 0 := by rw [hE]; exact hne
        have hpl := hplace hEn
        rw [hJ] at hpl
        have hbad := parseA_bad hEn
        refine W.region ?_
        refine WL.c rfl (o_mvh (show _ = Value.int _ _ from rfl) ?_)
        refine WL.c rfl (o_ne rfl rfl ?_)
        refine WL.nil ?_
        refine W.condT' rfl (by simp; omega) ?_
        refine W.seq ?_
        refine W.region ?_
        refine WL.c rfl (o_bldC (cs := [(.slice none 0 0)]) TI28 (Sizes.cons TI26 Sizes.nil) rfl lnp rfl rfl ?_)
        refine WL.c rfl (o_mvh (show _ = Value.int _ _ from rfl) ?_)
        refine WL.c rfl (o_mvh h5 ?_)
        refine WL.c rfl (o_mvh h8 ?_)
        refine WL.c rfl (o_nil rfl ?_)
        refine WL.c rfl (o_fa 1 TI92 rfl TI3 rfl rfl ?_)
        refine WL.c rfl (o_ld TI3 rfl rfl (cell_of hM2.cl rfl) ?_)
        refine WL.c rfl (o_mvh h0 ?_)
        refine WL.c rfl (o_lenT TI9 rfl ?_)
        refine WL.c rfl (o_call Try.call43 (lc rfl (lc rfl (lc rfl ln))) ((rplace_spec vT T i xs.length _ (Sl.own hM2.toks)).mono ?_))
        rintro v43 w43 ⟨rfl, rfl⟩
        refine WL.u (o_stA TI28 h2 (show _ = Value.agg #[.slice none 0 0] from rfl) rfl rfl hC2 rfl ?_)
        intro wz hC2z ho hs2z
        replace hx := hx.trans' ho (fun _ h => h) (fun b hb he => by omega)
        refine WL.c rfl (o_ash (show _ = Value.int _ _ from rfl) ?_)
        refine WL.c rfl (o_ash (show _ = Value.int _ _ from rfl) ?_)
        refine WL.nil ?_
        refine W.ret ?_
        refine retCTT rfl TI28 rfl h2 rfl rfl (show Cells _ c2 0 [.slice none 0 0] from Cells.of hC2z 0 _ (by simp)) rfl ?_
        rw [hbad, hpl, hE]
        exact ⟨_, fun _ => undef, rfl, Defs.nil _ _ _, hx⟩
      · skip
        skip
        refine W.region ?_
        refine WL.c rfl (o_mvh (show _ = Value.int _ _ from rfl) ?_)
        refine WL.c rfl (o_ne rfl rfl ?_)
        refine WL.nil ?_
        refine W.condF' rfl (by simp) ?_
        refine W.skip ?_
        exact ⟨k2, hk2, s2, sv2, ov2, hr2, hM2, hsb2, ha2, hd2, ho2, h0, h2, h5, h8, hC2, hx⟩
    · try simp only [decide_eq_true_eq, decide_eq_false_iff_not, Bool.not_eq_true', Bool.not_eq_false', Bool.and_eq_true, Bool.or_eq_true, Bool.and_eq_false_iff, Bool.or_eq_false_iff] at c29
      obtain rfl : S = [] := List.eq_nil_of_length_eq_zero (by omega)
      have hE0 := run_end hrun
      obtain ⟨-, D, hpd, hpa⟩ := (parse_cases xs).resolve_left (fun h => h.1 hE0)
      rw [← hTd] at hpd hpa
      refine W.exit ?_
      refine W.seq ?_
      skip
      · skip
        skip
        skip
        refine W.region ?_
        refine WL.c rfl (o_mvh h5 ?_)
        have hMt := hM.toks
        refine WL.c rfl (o_call Try.call44 (lc rfl ln) ((made_spec T hTl hTz D hpd vT _ (Sl.own hMt) (fun b hb => (hMt.lt b hb).2)).mono ?_))
        rintro v45 w45 ⟨dv, V, rfl, hD, hx45⟩
        have hww := hx.size
        replace hx := hx.tr hx45
        replace hC2 := hx45.blk hC2 (fun h => h)
        have hBw := hM.le
        refine WL.u (o_stA TI28 h2 (show _ = Value.agg #[dv] from rfl) rfl (by simp [own_one hD.row]) hC2 rfl ?_)
        intro wz hC2z ho hs2z
        replace hx := hx.trans' ho (fun _ h => h) (fun b hb he => by omega)
        refine WL.c rfl (o_ash (show _ = Value.int _ _ from rfl) ?_)
        refine WL.c rfl (o_ash (show _ = Value.int _ _ from rfl) ?_)
        refine WL.nil ?_
        refine W.ret ?_
        refine retCTT rfl TI28 rfl h2 rfl rfl (show Cells _ c2 0 [dv] from Cells.of hC2z 0 _ (by simp)) rfl ?_
        rw [hpa]
        exact ⟨dv, V, rfl, (hD.only ho (fun k hk he => by have := (hD.lt k hk).1; omega)).mono (by omega), hx⟩
end Go.Proofs.Ytcljkkfpcomdcaa

set_option linter.unusedSimpArgs false
set_option linter.unusedVariables false
set_option maxRecDepth 100000
namespace Go.Proofs.Ytcljkkfpcomdcaa
open Go Go.Vc Go.RowKit Go.Proofs
set_option maxHeartbeats 1000000 in
theorem parses_spec (xs : List UInt8) (w0 : World) (hlen : xs.length ≤ 9223372036854775807) : Ca Try.prog 12 #[st xs] w0 (fun v w' => v = .bool true ∧ Ext w0 w') := by
  have hx : Ext w0 w0 := Only.refl _ _
  have hok := parse_ok xs
  refine Ca.of Try.func12 Try.ntmps12 rfl rfl ?_
  refine W.seq ?_
  refine W.region ?_
  refine WL.c rfl (o_ash (show _ = Value.bool _ from rfl) ?_)
  refine WL.nil ?_
  refine W.seq ?_
  refine W.region ?_
  refine WL.c rfl (o_mvh (show _ = Value.string _ from rfl) ?_)
  refine WL.c rfl (o_call Try.call19 (lc rfl ln) ((parse_spec xs _ hlen).mono ?_))
  rintro v10 w10 ⟨dv10, V10, rfl, hD10, hxp10⟩
  replace hx := hx.tr hxp10
  refine WL.c rfl (o_mvh (by first | exact (show _ = Value.tuple _ from rfl) | exact rfl) ?_)
  refine WL.c rfl (o_ext rfl rfl ?_)
  refine WL.c rfl (o_ext rfl rfl ?_)
  refine WL.c rfl (o_alB TI28 ?_)
  intro wa hCs hxs hss
  refine WL.c rfl (o_alB TI49 ?_)
  intro wb hCf hxf hsf
  replace hCs := hxf.blk hCs (fun h => h)
  refine WL.u (o_stA TI28 rfl (show _ = Value.agg #[dv10] from rfl) rfl (by simp [own_one hD10.row]) hCs rfl ?_)
  intro wc hB3 hos hsz
  replace hCf := hos.blk hCf (by omega)
  refine WL.u (o_stA TI49 rfl (show _ = Value.agg (faultV (parseA xs).2.1 (parseA xs).2.2) from rfl) rfl rfl hCf rfl ?_)
  intro w4z hB4 hof hsz2
  replace hB3 := hof.blk hB3 (by omega)
  have hxn : Ext w10 w4z := ((hxs.tr hxf).trans' hos (fun _ h => h) (fun k hk he => by omega)).trans' hof (fun _ h => h) (fun k hk he => by omega)
  obtain ⟨b3, hb3⟩ : ∃ b, b = w10.heap.size := ⟨_, rfl⟩
  obtain ⟨b4, hb4⟩ : ∃ b, b = wa.heap.size := ⟨_, rfl⟩
  rw [← hb3] at hB3 ⊢
  rw [← hb4] at hB4 ⊢
  clear hCs hCf hos hof
  replace hx := hx.tr hxn
  replace hD10 := hD10.ext hxn
  clear hxn
  refine WL.nil ?_
  refine W.seq ?_
  refine W.region ?_
  refine WL.c rfl (o_mvh (show _ = Value.string _ from rfl) ?_)
  refine WL.c rfl (o_call Try.call24 (lc rfl ln) ((rparse_spec xs _ hlen).mono ?_))
  rintro v15 w15 ⟨dv15, V15, rfl, hD15, hx15⟩
  replace hx := hx.tr hx15
  replace hB3 := hx15.blk hB3 (fun h => h)
  replace hB4 := hx15.blk hB4 (fun h => h)
  replace hD10 := hD10.ext hx15
  refine WL.c rfl (o_mvh (by first | exact (show _ = Value.tuple _ from rfl) | exact rfl) ?_)
  refine WL.c rfl (o_ext rfl rfl ?_)
  refine WL.c rfl (o_ext rfl rfl ?_)
  refine WL.c rfl (o_ext rfl rfl ?_)
  refine WL.c rfl (o_alB TI28 ?_)
  intro wa hCa hxa hsa
  refine WL.u (o_stA TI28 rfl (show _ = Value.agg #[dv15] from rfl) rfl (by simp [own_one hD15.row]) hCa rfl ?_)
  intro w5z hB5 hob hsb
  have hxb := Ext.own hxa (Nat.le_refl _) hob
  obtain ⟨b5, hb5⟩ : ∃ c, c = w15.heap.size := ⟨_, rfl⟩
  rw [← hb5] at hB5 ⊢
  clear hCa hxa hsa hob hsb
  replace hx := hx.tr hxb
  replace hB3 := hxb.blk hB3 (fun h => h)
  replace hB4 := hxb.blk hB4 (fun h => h)
  replace hD10 := hD10.ext hxb
  replace hD15 := hD15.ext hxb
  clear hxb
  refine WL.c rfl (o_ash (show _ = Value.int _ _ from rfl) ?_)
  refine WL.c rfl (o_ash (show _ = Value.int _ _ from rfl) ?_)
  refine WL.nil ?_
  refine W.seq ?_
  refine W.region ?_
  refine WL.c rfl (o_fa 0 TI49 rfl TI32 rfl rfl ?_)
  refine WL.c rfl (o_ld TI32 rfl rfl (cell_of hB4 rfl) ?_)
  refine WL.c rfl (o_mvh (show _ = Value.int _ _ from rfl) ?_)
  refine WL.c rfl (o_eq rfl rfl ?_)
  refine WL.c rfl (o_mvh (show _ = Value.bool _ from rfl) ?_)
  refine WL.g rfl (by simp) rfl (o_fa 1 TI49 rfl TI3 rfl rfl ?_)
  refine WL.g rfl (by simp) rfl (o_ld TI3 rfl rfl (cell_of hB4 rfl) ?_)
  refine WL.g rfl (by simp) rfl (o_mvh (show _ = Value.int _ _ from rfl) ?_)
  refine WL.g rfl (by simp) rfl (o_eq rfl rfl ?_)
  refine WL.c rfl (o_pickA rfl rfl ?_)
  refine WL.c rfl (o_mvh (show _ = Value.bool _ from rfl) ?_)
  refine WL.g rfl (by simp) rfl (o_ldA TI28 rfl rfl (show Cells _ b3 0 [dv10] from Cells.of hB3 0 _ (by simp)) rfl ?_)
  refine WL.g rfl (by simp) rfl (o_ldA TI28 rfl rfl (show Cells _ b5 0 [dv15] from Cells.of hB5 0 _ (by simp)) rfl ?_)
  refine WL.g rfl (by simp) rfl (o_call Try.call20 (lc rfl (lc rfl (lc rfl ln))) ((same_spec (parseA xs).1 (parseA xs).1 dv10 dv15 V10 V15 _ hD10.rd hD15.rd (by have := hok.len; omega) (fun d hd => by have := hok.ty d hd; omega)).mono ?_))
  rintro v32 w32 ⟨rfl, hx32⟩
  replace hx := hx.tr hx32
  refine WL.c rfl (o_pickA rfl rfl ?_)
  refine WL.c rfl (o_ash (show _ = Value.bool _ from rfl) ?_)
  refine WL.nil ?_
  refine W.ret ?_
  refine ret1v rfl (show _ = Value.bool _ from rfl) ?_
  exact ⟨congrArg Value.bool (by simp), hx⟩

theorem int_cases (z : Int) (n : Nat) : (∃ q : Nat, z = (q : Int) ∧ q ≤ n) ∨ z < 0 ∨ (0 ≤ z ∧ (n : Int) < z) := by
  by_cases h1 : z < 0
  · exact .inr (.inl h1)
  · by_cases h2 : (n : Int) < z
    · exact .inr (.inr ⟨by omega, h2⟩)
    · exact .inl ⟨z.toNat, by omega, by omega⟩

theorem sparses_walk0 (w0 : World) (xs : List UInt8) (hlen : xs.length ≤ 9223372036854775807) (v : Value) (zs : List Int) (hzl : zs.length ≤ 9223372036854775807) (hS : Sl w0 1 v zs.length (zs.map (Value.int .i64))) : Ca Try.prog 3 #[st xs, v] w0 (fun v w' => v = .bool true ∧ Ext w0 w') := by
  refine Ca.of Try.func3 Try.ntmps3 rfl rfl ?_
  refine W.seq ?_
  refine W.region ?_
  refine WL.c rfl (o_as ?_)
  refine WL.nil ?_
  refine W.seq ?_
  refine W.seq ?_
  refine W.region ?_
  refine WL.c rfl (o_call Try.call11 ln ((first_spec _).mono ?_))
  rintro v7 w7 ⟨rfl, hx7⟩
  refine WL.c rfl (o_not' rfl ?_)
  refine WL.c rfl (o_mv ?_)
  refine WL.g rfl (rfl) rfl (o_mv ?_)
  refine WL.g rfl (rfl) rfl (o_call Try.call12 (lc rfl ln) ((parses_spec xs _ hlen).mono ?_))
  rintro v11 w11 ⟨rfl, hx11⟩
  replace hx11 := hx7.tr hx11
  refine WL.g rfl (rfl) rfl (o_not' rfl ?_)
  refine WL.c rfl (o_pickO rfl rfl ?_)
  refine WL.nil ?_
  refine W.condF' rfl (rfl) ?_
  refine W.skip ?_
  refine W.seq ?_
  refine W.seq ?_
  refine W.region ?_
  refine WL.c rfl (o_as ?_)
  refine WL.nil ?_
  refine W.block ?_
  refine W.loop (fun e w => ∃ k : Nat, k ≤ zs.length ∧ e 0 = st xs ∧ e 1 = v ∧ e 5 = .int .i64 (k : Int) ∧ Ext w0 w) (fun e w => zs.length - (intOf (e 5)).toNat) ?_ ?_
  · exact ⟨0, Nat.zero_le _, rfl, rfl, rfl, hx11⟩
  rintro e w ⟨k, hk, h0, h1, h5, hx⟩
  refine W.seq ?_
  refine W.seq ?_
  by_cases hk1 : k < zs.length
  · skip
    refine W.region ?_
    refine WL.c rfl (o_mvh h5 ?_)
    refine WL.c rfl (o_mvh h1 ?_)
    refine WL.c rfl (o_lenR TI22 rfl (hS.ext hx) ?_)
    refine WL.c rfl (o_lt rfl rfl ?_)
    refine WL.c rfl (o_mv ?_)
    refine WL.g rfl (by simp; omega) rfl (o_mvh h5 ?_)
    refine WL.g rfl (by simp; omega) rfl (o_lt rfl rfl ?_)
    refine WL.c rfl (o_pickA rfl rfl ?_)
    refine WL.nil ?_
    refine W.cond rfl (fun c21 => ?_) (fun c21 => ?_)
    · try simp only [decide_eq_true_eq, decide_eq_false_iff_not, Bool.not_eq_true', Bool.not_eq_false', Bool.and_eq_true, Bool.or_eq_true, Bool.and_eq_false_iff, Bool.or_eq_false_iff] at c21
      refine W.skip ?_
      refine W.seq ?_
      refine W.block ?_
      refine W.seq ?_
      rcases (show (∃ q : Nat, zs[k] = (q : Int) ∧ q ≤ xs.length) ∨ zs[k] < 0 ∨ (0 ≤ zs[k] ∧ (xs.length : Int) < zs[k]) from int_cases _ _) with ⟨q, hq, hql⟩ | hq | hq
      · skip
        have hv : (zs.map (Value.int .i64))[k]? = some (.int .i64 (q : Int)) := by simp [hk1, hq]
        refine W.region ?_
        refine WL.c rfl (o_mvh h1 ?_)
        refine WL.c rfl (o_mvh h5 ?_)
        refine WL.c rfl (o_ix1 TI22 TI3 rfl rfl (hS.ext hx) (by omega) ?_)
        intro b26 o26 hc26 hb26
        refine WL.c rfl (o_ld TI3 rfl rfl (hc26.trans hv) ?_)
        refine WL.c rfl (o_as ?_)
        refine WL.nil ?_
        refine W.seq ?_
        refine W.region ?_
        refine WL.c rfl (o_mv ?_)
        refine WL.c rfl (o_ge rfl rfl ?_)
        refine WL.c rfl (o_mv ?_)
        refine WL.g rfl (by simp) rfl (o_mv ?_)
        refine WL.g rfl (by simp) rfl (o_mvh h0 ?_)
        refine WL.g rfl (by simp) rfl (o_lenT TI9 rfl ?_)
        refine WL.g rfl (by simp) rfl (o_le rfl rfl ?_)
        refine WL.c rfl (o_pickA rfl rfl ?_)
        refine WL.c rfl (o_mv ?_)
        refine WL.g rfl (by simp; omega) rfl (o_mvh h0 ?_)
        refine WL.g rfl (by simp; omega) rfl (o_mv ?_)
        refine WL.g rfl (by simp; omega) rfl (o_ssT TI9 rfl Lo.n (Hi.s rfl) (Nat.zero_le _) (by omega) ?_)
        refine WL.g rfl (by simp; omega) rfl (o_call Try.call12 (lc rfl ln) ((parses_spec ((xs.take q).drop 0) _ (by simp; omega)).mono ?_))
        rintro v40 w40 ⟨rfl, hx40⟩
        replace hx40 := hx.tr hx40
        refine WL.g rfl (by simp; omega) rfl (o_not' rfl ?_)
        refine WL.c rfl (o_pickA rfl rfl ?_)
        refine WL.nil ?_
        refine W.condF' rfl (by simp) ?_
        refine W.skip ?_
        refine W.region ?_
        refine WL.c rfl (o_mvh h5 ?_)
        refine WL.c rfl (o_addi rfl rfl (by omega) ?_)
        refine WL.c rfl (o_as ?_)
        refine WL.nil ?_
        refine ⟨⟨k + 1, by omega, h0, h1, rfl, by first | exact hx40 | exact hx⟩, ?_⟩
        show zs.length - ((k : Int) + 1).toNat < _
        rw [h5]; simp [intOf]; omega
      · skip
        have hv : (zs.map (Value.int .i64))[k]? = some (.int .i64 zs[k]) := by simp [hk1]
        refine W.region ?_
        refine WL.c rfl (o_mvh h1 ?_)
        refine WL.c rfl (o_mvh h5 ?_)
        refine WL.c rfl (o_ix1 TI22 TI3 rfl rfl (hS.ext hx) (by omega) ?_)
        intro b26 o26 hc26 hb26
        refine WL.c rfl (o_ld TI3 rfl rfl (hc26.trans hv) ?_)
        refine WL.c rfl (o_as ?_)
        refine WL.nil ?_
        refine W.seq ?_
        refine W.region ?_
        refine WL.c rfl (o_mv ?_)
        refine WL.c rfl (o_ge rfl rfl ?_)
        refine WL.c rfl (o_mv ?_)
        refine WL.s rfl (by simp; omega) rfl ?_
        refine WL.s rfl (by simp; omega) rfl ?_
        refine WL.s rfl (by simp; omega) rfl ?_
        refine WL.s rfl (by simp; omega) rfl ?_
        refine WL.c rfl (o_pickF rfl (by simp; omega) ?_)
        refine WL.c rfl (o_mv ?_)
        refine WL.s rfl (rfl) rfl ?_
        refine WL.s rfl (rfl) rfl ?_
        refine WL.s rfl (rfl) rfl ?_
        refine WL.s rfl (rfl) rfl ?_
        refine WL.s rfl (rfl) rfl ?_
        refine WL.c rfl (o_pickF rfl (rfl) ?_)
        refine WL.nil ?_
        refine W.condF' rfl (rfl) ?_
        refine W.skip ?_
        refine W.region ?_
        refine WL.c rfl (o_mvh h5 ?_)
        refine WL.c rfl (o_addi rfl rfl (by omega) ?_)
        refine WL.c rfl (o_as ?_)
        refine WL.nil ?_
        refine ⟨⟨k + 1, by omega, h0, h1, rfl, by first | exact hx40 | exact hx⟩, ?_⟩
        show zs.length - ((k : Int) + 1).toNat < _
        rw [h5]; simp [intOf]; omega
      · skip
        have hv : (zs.map (Value.int .i64))[k]? = some (.int .i64 zs[k]) := by simp [hk1]
        refine W.region ?_
        refine WL.c rfl (o_mvh h1 ?_)
        refine WL.c rfl (o_mvh h5 ?_)
        refine WL.c rfl (o_ix1 TI22 TI3 rfl rfl (hS.ext hx) (by omega) ?_)
        intro b26 o26 hc26 hb26
        refine WL.c rfl (o_ld TI3 rfl rfl (hc26.trans hv) ?_)
        refine WL.c rfl (o_as ?_)
        refine WL.nil ?_
        refine W.seq ?_
        refine W.region ?_
        refine WL.c rfl (o_mv ?_)
        refine WL.c rfl (o_ge rfl rfl ?_)
        refine WL.c rfl (o_mv ?_)
        refine WL.g rfl (by simp; omega) rfl (o_mv ?_)
        refine WL.g rfl (by simp; omega) rfl (o_mvh h0 ?_)
        refine WL.g rfl (by simp; omega) rfl (o_lenT TI9 rfl ?_)
        refine WL.g rfl (by simp; omega) rfl (o_le rfl rfl ?_)
        refine WL.c rfl (o_pickA rfl rfl ?_)
        refine WL.c rfl (o_mv ?_)
        refine WL.s rfl (by simp; omega) rfl ?_
        refine WL.s rfl (by simp; omega) rfl ?_
        refine WL.s rfl (by simp; omega) rfl ?_
        refine WL.s rfl (by simp; omega) rfl ?_
        refine WL.s rfl (by simp; omega) rfl ?_
        refine WL.c rfl (o_pickF rfl (by simp; omega) ?_)
        refine WL.nil ?_
        refine W.condF' rfl (rfl) ?_
        refine W.skip ?_
        refine W.region ?_
        refine WL.c rfl (o_mvh h5 ?_)
        refine WL.c rfl (o_addi rfl rfl (by omega) ?_)
        refine WL.c rfl (o_as ?_)
        refine WL.nil ?_
        refine ⟨⟨k + 1, by omega, h0, h1, rfl, by first | exact hx40 | exact hx⟩, ?_⟩
        show zs.length - ((k : Int) + 1).toNat < _
        rw [h5]; simp [intOf]; omega
    · try simp only [decide_eq_true_eq, decide_eq_false_iff_not, Bool.not_eq_true', Bool.not_eq_false', Bool.and_eq_true, Bool.or_eq_true, Bool.and_eq_false_iff, Bool.or_eq_false_iff] at c21
      refine W.exit ?_
      refine W.seq ?_
      refine W.region ?_
      refine WL.c rfl (o_as ?_)
      refine WL.nil ?_
      refine W.ret ?_
      refine ret1v rfl (show _ = Value.bool _ from rfl) ?_
      exact ⟨rfl, hx⟩
  · skip
    refine W.region ?_
    refine WL.c rfl (o_mvh h5 ?_)
    refine WL.c rfl (o_mvh h1 ?_)
    refine WL.c rfl (o_lenR TI22 rfl (hS.ext hx) ?_)
    refine WL.c rfl (o_lt rfl rfl ?_)
    refine WL.c rfl (o_mv ?_)
    refine WL.s rfl (by simp; omega) rfl ?_
    refine WL.s rfl (by simp; omega) rfl ?_
    refine WL.c rfl (o_pickF rfl (by simp; omega) ?_)
    refine WL.nil ?_
    refine W.condF' rfl (rfl) ?_
    refine W.exit ?_
    refine W.seq ?_
    refine W.region ?_
    refine WL.c rfl (o_as ?_)
    refine WL.nil ?_
    refine W.ret ?_
    refine ret1v rfl (show _ = Value.bool _ from rfl) ?_
    exact ⟨rfl, hx⟩

theorem sparses_walk (w0 : World) (s : ByteArray) (hs : s.size ≤ maxLen) (v : Value) (zs : List Int) (hzl : zs.length ≤ 9223372036854775807) (hS : Sl w0 1 v zs.length (zs.map (Value.int .i64))) : Ca Try.prog 3 #[.string s, v] w0 (fun v w' => v = .bool true ∧ Ext w0 w') := by
  obtain ⟨⟨xs⟩⟩ := s
  exact sparses_walk0 w0 xs hs v zs hzl hS

end Go.Proofs.Ytcljkkfpcomdcaa
