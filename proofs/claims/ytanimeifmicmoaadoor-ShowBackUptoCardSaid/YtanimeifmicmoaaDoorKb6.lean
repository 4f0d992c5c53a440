/-
  Walks and lemmas. Written by program out of specs of mine.
-/
import Derived.WalkKit
import Derived.WalkSpells
import Derived.WalkLawsBesides
import Derived.Deep.Quiet
import Derived.StillTail
import Derived.StringKeys
import Derived.Laws.StructEq
import Derived.Laws.Externs
import Derived.Laws.Tables
import Derived.Scope
import Derived.Test.YtanimeifmicmoaaDoorProg
import Derived.Laws.AppendOwn
import Derived.Maps.AppendAt
import Derived.Recover
import Derived.Lib.Bytealg
import Derived.SizedLaws
import Derived.ChangeArms
import Derived.ChangeSlices
import Derived.Lib.Builder
import Derived.Lib.UnsafeStr
import Derived.Shelf.Strconv.Itoa0
import Derived.Shelf.Strconv.Itoa1
import Derived.Shelf.LaysM
import Derived.Shelf.Strconv.Itoa2
import Derived.Shelf.Strconv.Itoa3
import Derived.Test.YtanimeifmicmoaaDoorRows
import Derived.ProofKit
import Derived.OpenShut
import Derived.ShutString
import Derived.ChangeOld
import Derived.Below
import Derived.JoinedCond
import Derived.SliceStrings
import Derived.Test.YtanimeifmicmoaaDoorCards
import Derived.Test.YtanimeifmicmoaaDoorTie
import Derived.Deep.DeepHandedRow
import Derived.Lib.LaidTab
import Derived.Test.YtanimeifmicmoaaDoorKb5
set_option linter.unusedSimpArgs false
set_option linter.unusedVariables false
set_option maxRecDepth 100000
set_option linter.unusedSimpArgs false
set_option linter.unusedVariables false
set_option maxRecDepth 100000
namespace Go.Proofs.YtanimeifmicmoaaDoor
open Go Go.Vc Go.RowKit Go.Proofs

mutual
theorem sh_tr : ∀ (t : Tr) (above : Int) (deep : Nat) (bs : List UInt8) (us : List Tk), t.wf above deep → Cut2 bs us true → ∃ vs, Cut2 (bs ++ t.sh) (us ++ vs) false ∧ vs.map tkey = t.keys
  | .node y ks, above, deep, bs, us, hw, hc => by
    obtain ⟨hd, hm, hr, hl, hks⟩ := hw
    obtain ⟨hok, hnm, -, -⟩ := rightB_iff hr
    rcases okB_cases hok with ⟨k1, hn, k0⟩ | ⟨k1, hn, k0⟩ | ⟨k1, hn, hn2, k0⟩ | ⟨k1, hn, k0⟩ | ⟨k1, hn, k0⟩
    · have hnil := trs_nil (ts := ks) (by omega)
      subst hnil
      have hw8 : [117] ++ digL (8 * y.n).toNat = uWord y.n := by
        rcases hn with e | e | e | e <;> rw [e]
        · show _ ++ digL 8 = _; rw [digL_lt (by decide)]; rfl
        · show _ ++ digL 16 = _; rw [digL_ge (by decide), digL_lt (by decide)]; rfl
        · show _ ++ digL 32 = _; rw [digL_ge (by decide), digL_lt (by decide)]; rfl
        · show _ ++ digL 64 = _; rw [digL_ge (by decide), digL_lt (by decide)]; rfl
      have ho : Own (uWord y.n) (kN (uWord y.n)) := by rcases hn with e | e | e | e <;> (rw [e]; exact own_word (by decide))
      refine ⟨[tkP bs.length (uWord y.n) (kN (uWord y.n))], ?_, ?_⟩
      · simp only [Tr.sh, if_pos k1, hw8]; exact hc.tok ho
      · simp only [Tr.keys, if_pos k1]; rfl
    · have hnil := trs_nil (ts := ks) (by omega)
      subst hnil
      rcases k1 with k1 | k1 | k1
      · refine ⟨[tkP bs.length [98, 111, 111, 108] (kN [98, 111, 111, 108])], ?_, ?_⟩
        · simp only [Tr.sh, if_neg (show ¬ y.kind = 1 by omega), if_pos k1]; exact hc.tok (own_word (by decide))
        · simp only [Tr.keys, if_neg (show ¬ y.kind = 1 by omega), if_pos k1]; rfl
      · refine ⟨[tkP bs.length [118, 97, 114, 105, 110, 116] (kN [118, 97, 114, 105, 110, 116])], ?_, ?_⟩
        · simp only [Tr.sh, if_neg (show ¬ y.kind = 1 by omega), if_neg (show ¬ y.kind = 2 by omega), if_pos k1]; exact hc.tok (own_word (by decide))
        · simp only [Tr.keys, if_neg (show ¬ y.kind = 1 by omega), if_neg (show ¬ y.kind = 2 by omega), if_pos k1]; rfl
      · have hname : nameB y.name = true := by unfold namB at hnm; rw [if_pos k1] at hnm; exact hnm
        refine ⟨[tkP bs.length y.name (kN y.name)], ?_, ?_⟩
        · simp only [Tr.sh, if_neg (show ¬ y.kind = 1 by omega), if_neg (show ¬ y.kind = 2 by omega), if_neg (show ¬ y.kind = 3 by omega), if_pos k1]; exact hc.tok (own_nameB hname)
        · simp only [Tr.keys, if_neg (show ¬ y.kind = 1 by omega), if_neg (show ¬ y.kind = 2 by omega), if_neg (show ¬ y.kind = 3 by omega), if_pos k1]; rfl
    · obtain ⟨t, rfl⟩ := trs_one (ts := ks) (by omega)
      obtain ⟨wd, hwd, hwd2, hwo⟩ : ∃ wd, (if y.kind = 4 then [118, 101, 99, 116, 111, 114, 60] else [108, 105, 115, 116, 60] : List UInt8) = wd ++ [60] ∧ (if y.kind = 5 then [108, 105, 115, 116] else [118, 101, 99, 116, 111, 114] : List UInt8) = wd ∧ Own wd (kN wd) := by
        rcases k1 with e | e
        · exact ⟨[118, 101, 99, 116, 111, 114], by rw [if_pos e]; rfl, by rw [if_neg (by omega)], own_word (by decide)⟩
        · exact ⟨[108, 105, 115, 116], by rw [if_neg (by omega)]; rfl, by rw [if_pos e], own_word (by decide)⟩
      have h1 := (hc.tok hwo).mark 60 (by decide)
      obtain ⟨vs, h2, hk2⟩ := sh_tr t y.kind (deep + 1) _ _ hks.1 h1
      have h3 := ((h2.mark 44 (by decide)).tok (own_num (n := y.n.toNat) (by omega))).mark 62 (by decide)
      refine ⟨tkP bs.length wd (kN wd) :: tkP (bs ++ wd).length [60] (kM [60]) :: (vs ++ [tkP (bs ++ wd ++ [60] ++ t.sh).length [44] (kM [44]), tkP (bs ++ wd ++ [60] ++ t.sh ++ [44]).length (digL y.n.toNat) (kD y.n.toNat), tkP (bs ++ wd ++ [60] ++ t.sh ++ [44] ++ digL y.n.toNat).length [62] (kM [62])]), ?_, ?_⟩
      · have e1 : bs ++ (Tr.node y (.cons t .nil)).sh = bs ++ wd ++ [60] ++ t.sh ++ [44] ++ digL y.n.toNat ++ [62] := by
          simp only [Tr.sh, if_neg (show ¬ y.kind = 1 by omega), if_neg (show ¬ y.kind = 2 by omega), if_neg (show ¬ y.kind = 3 by omega), if_neg (show ¬ y.kind = 9 by omega), if_pos k1, hwd, Trs.shK]
          simp
        rw [e1]
        have h4 := h3.weak
        simp only [List.append_assoc, List.cons_append, List.nil_append] at h4 ⊢
        exact h4
      · simp only [Tr.keys, if_neg (show ¬ y.kind = 1 by omega), if_neg (show ¬ y.kind = 2 by omega), if_neg (show ¬ y.kind = 3 by omega), if_neg (show ¬ y.kind = 9 by omega), if_pos k1, hwd2, Trs.keys, ← hk2]
        simp [tkP_key]
    · obtain ⟨t, rfl⟩ := trs_one (ts := ks) (by omega)
      have h1 := (hc.tok (own_word (s := [111, 112, 116, 105, 111, 110]) (by decide))).mark 60 (by decide)
      obtain ⟨vs, h2, hk2⟩ := sh_tr t y.kind (deep + 1) _ _ hks.1 h1
      have h3 := h2.mark 62 (by decide)
      refine ⟨tkP bs.length [111, 112, 116, 105, 111, 110] (kN [111, 112, 116, 105, 111, 110]) :: tkP (bs ++ [111, 112, 116, 105, 111, 110]).length [60] (kM [60]) :: (vs ++ [tkP (bs ++ [111, 112, 116, 105, 111, 110] ++ [60] ++ t.sh).length [62] (kM [62])]), ?_, ?_⟩
      · have e1 : bs ++ (Tr.node y (.cons t .nil)).sh = bs ++ [111, 112, 116, 105, 111, 110] ++ [60] ++ t.sh ++ [62] := by
          simp only [Tr.sh, if_neg (show ¬ y.kind = 1 by omega), if_neg (show ¬ y.kind = 2 by omega), if_neg (show ¬ y.kind = 3 by omega), if_neg (show ¬ y.kind = 9 by omega), if_neg (show ¬ (y.kind = 4 ∨ y.kind = 5) by omega), if_pos k1, Trs.shK]
          simp
        rw [e1]
        have h4 := h3.weak
        simp only [List.append_assoc, List.cons_append, List.nil_append] at h4 ⊢
        exact h4
      · simp only [Tr.keys, if_neg (show ¬ y.kind = 1 by omega), if_neg (show ¬ y.kind = 2 by omega), if_neg (show ¬ y.kind = 3 by omega), if_neg (show ¬ y.kind = 9 by omega), if_neg (show ¬ (y.kind = 4 ∨ y.kind = 5) by omega), if_pos k1, Trs.keys, ← hk2]
        simp [tkP_key]
    · obtain ⟨s, hs⟩ : ∃ s : Bool, s = decide (y.kind = 8) := ⟨_, rfl⟩
      have hu : decide (y.kind = 7) = !s := by rw [hs]; rcases k1 with e | e <;> simp [e]
      obtain ⟨wd, hwd, hwd2, hwo⟩ : ∃ wd, (if y.kind = 8 then [115, 116, 114, 117, 99, 116, 123] else [117, 110, 105, 111, 110, 123] : List UInt8) = wd ++ [123] ∧ (if y.kind = 7 then [117, 110, 105, 111, 110] else [115, 116, 114, 117, 99, 116] : List UInt8) = wd ∧ Own wd (kN wd) := by
        rcases k1 with e | e
        · exact ⟨[117, 110, 105, 111, 110], by rw [if_neg (by omega)]; rfl, by rw [if_pos e], own_word (by decide)⟩
        · exact ⟨[115, 116, 114, 117, 99, 116], by rw [if_pos e]; rfl, by rw [if_neg (by omega)], own_word (by decide)⟩
      have h1 := (hc.tok hwo).mark 123 (by decide)
      obtain ⟨vs, h2, hk2⟩ := sh_trs ks s true (deep + 1) _ _ true (by rw [hs]; rcases k1 with e | e <;> simpa [e] using hks) h1 (fun _ => rfl)
      have h3 := h2.mark 125 (by decide)
      refine ⟨tkP bs.length wd (kN wd) :: tkP (bs ++ wd).length [123] (kM [123]) :: (vs ++ [tkP (bs ++ wd ++ [123] ++ ks.shR s true).length [125] (kM [125])]), ?_, ?_⟩
      · have e1 : bs ++ (Tr.node y ks).sh = bs ++ wd ++ [123] ++ ks.shR s true ++ [125] := by
          simp only [Tr.sh, if_neg (show ¬ y.kind = 1 by omega), if_neg (show ¬ y.kind = 2 by omega), if_neg (show ¬ y.kind = 3 by omega), if_neg (show ¬ y.kind = 9 by omega), if_neg (show ¬ (y.kind = 4 ∨ y.kind = 5) by omega), if_neg (show ¬ y.kind = 6 by omega), hwd, ← hs]
          simp
        rw [e1]
        have h4 := h3.weak
        simp only [List.append_assoc, List.cons_append, List.nil_append] at h4 ⊢
        exact h4
      · simp only [Tr.keys, if_neg (show ¬ y.kind = 1 by omega), if_neg (show ¬ y.kind = 2 by omega), if_neg (show ¬ y.kind = 3 by omega), if_neg (show ¬ y.kind = 9 by omega), if_neg (show ¬ (y.kind = 4 ∨ y.kind = 5) by omega), if_neg (show ¬ y.kind = 6 by omega), hwd2, hu]
        rw [if_pos rfl] at hk2
        rw [← hk2]
        simp [tkP_key]
theorem sh_trs : ∀ (ts : Trs) (s first : Bool) (deep : Nat) (bs : List UInt8) (us : List Tk) (m : Bool), ts.wf (if s then 8 else 7) deep → Cut2 bs us m → (first = true → m = true) → ∃ vs, Cut2 (bs ++ ts.shR s first) (us ++ vs) false ∧ vs.map tkey = (if first then ts.rows (!s) else ts.more (!s))
  | .nil, s, first, deep, bs, us, m, _, hc, _ => ⟨[], by simp only [Trs.shR, List.append_nil]; exact hc.weak, by cases first <;> rfl⟩
  | .cons t ts, s, first, deep, bs, us, m, hw, hc, hf => by
    obtain ⟨-, -, g1, g2⟩ := rightB_iff (wf_top hw.1)
    obtain ⟨us1, h0, hk0⟩ : ∃ us1, Cut2 (bs ++ (if first then [] else [44])) (us ++ us1) true ∧ us1.map tkey = (if first then [] else [kM [44]]) := by
      cases first
      · exact ⟨[tkP bs.length [44] (kM [44])], hc.mark 44 (by decide), rfl⟩
      · have := hf rfl; subst this
        exact ⟨[], by simpa using hc, rfl⟩
    obtain ⟨hd, hdk, hho⟩ : ∃ hd, (if s then t.top.label else digL t.top.tag.toNat) = hd ∧ Own hd (if !s then kD t.top.tag.toNat else kN t.top.label) := by
      cases s
      · refine ⟨_, rfl, own_num (n := t.top.tag.toNat) ?_⟩
        unfold tagB at g2
        simp only [Bool.or_eq_true, Bool.and_eq_true, decide_eq_true_eq] at g2
        omega
      · refine ⟨_, rfl, own_nameB ?_⟩
        unfold labB at g1; simpa using g1
    have h1 := (h0.tok hho).mark 58 (by decide)
    obtain ⟨vs, h2, hk2⟩ := sh_tr t _ deep _ _ hw.1 h1
    obtain ⟨ws, h3, hk3⟩ := sh_trs ts s false deep _ _ false hw.2 h2 (fun h => by cases h)
    refine ⟨us1 ++ (tkP (bs ++ (if first then [] else [44])).length hd (if !s then kD t.top.tag.toNat else kN t.top.label) :: tkP (bs ++ (if first then [] else [44]) ++ hd).length [58] (kM [58]) :: (vs ++ ws)), ?_, ?_⟩
    · have e1 : bs ++ (Trs.cons t ts).shR s first = bs ++ (if first then [] else [44]) ++ hd ++ [58] ++ t.sh ++ ts.shR s false := by
        simp only [Trs.shR, hdk]; simp
      rw [e1]
      simp only [List.append_assoc, List.cons_append, List.nil_append] at h3 ⊢
      exact h3
    · rw [if_neg (by decide)] at hk3
      have e2 : (if first then (Trs.cons t ts).rows (!s) else (Trs.cons t ts).more (!s)) = (if first then [] else [kM [44]]) ++ (Trs.cons t ts).rows (!s) := by
        cases first <;> rfl
      rw [e2, List.map_append, hk0]
      congr 1
      simp only [List.map_cons, List.map_append, hk2, hk3, Trs.rows, hdK, tkP_key]
      simp
end
theorem sh_defs : ∀ (l : List DefT) (bs : List UInt8) (us : List Tk), (∀ p ∈ l, DefW p) → Cut2 bs us true → ∃ vs, Cut2 (bs ++ shDefs l) (us ++ vs) true ∧ vs.map tkey = defsK l
  | [], bs, us, _, hc => ⟨[], by simpa [shDefs] using hc, rfl⟩
  | p :: l, bs, us, hw, hc => by
    obtain ⟨hn, ht⟩ := hw p (List.mem_cons_self ..)
    have h1 := ((hc.tok (own_word (s := [116, 121, 112, 101]) (by decide))).gap (F := [32]) (by decide) ⟨_, _, rfl, by decide⟩).tok (own_nameB hn)
    have h2 := h1.mark 61 (by decide)
    obtain ⟨vs, h3, hk3⟩ := sh_tr p.2 0 0 _ _ ht h2
    have h4 := h3.mark 59 (by decide)
    obtain ⟨ws, h5, hk5⟩ := sh_defs l _ _ (fun q hq => hw q (List.mem_cons_of_mem _ hq)) h4
    refine ⟨tkP bs.length [116, 121, 112, 101] (kN [116, 121, 112, 101]) :: tkP (bs ++ [116, 121, 112, 101] ++ [32]).length p.1 (kN p.1) :: tkP (bs ++ [116, 121, 112, 101] ++ [32] ++ p.1).length [61] (kM [61]) :: (vs ++ tkP (bs ++ [116, 121, 112, 101] ++ [32] ++ p.1 ++ [61] ++ p.2.sh).length [59] (kM [59]) :: ws), ?_, ?_⟩
    · have e1 : bs ++ shDefs (p :: l) = bs ++ [116, 121, 112, 101] ++ [32] ++ p.1 ++ [61] ++ p.2.sh ++ [59] ++ shDefs l := by simp [shDefs, shDef]
      rw [e1]
      simp only [List.append_assoc, List.cons_append, List.nil_append] at h5 ⊢
      exact h5
    · simp only [defsK, defK, ← hk3, ← hk5]
      simp [tkP_key]
theorem parse_sh {l : List DefT} (hw : ∀ p ∈ l, DefW p) (hl : l.length ≤ 256) (hlen : (shDefs l).length ≤ 65536) : ∃ T, parseA (shDefs l) = ((defIdx 0 l).map (plD T), 0, 0) := by
  obtain ⟨vs, h1, h2⟩ := sh_defs l [] [] hw c2_nil
  rw [List.nil_append, List.nil_append] at h1
  have hd := h1.done
  have hc : cutA (shDefs l) = (vs, 0, 0) := by rw [ca_ok hlen (by rw [hd]), hd]
  exact ⟨vs, parse_keys hc h2 hw hl⟩


theorem bare_plE (T : List Tk) (x : Ex) : bareE (plE T x) = bareE x := by unfold plE; split <;> rfl
mutual
theorem idx_bare {T : List Tk} : ∀ (t : Tr) (i a : Nat), ((t.idx i a).map (plE T)).map bareE = t.flat.map bareE
  | .node y ks, i, a => by
    simp only [Tr.idx, Tr.flat, List.map_cons, bare_plE]
    congr 1
    split
    · exact idxR_bare ks _
    · exact idxK_bare ks _
theorem idxK_bare {T : List Tk} : ∀ (ts : Trs) (i : Nat), ((ts.idxK i).map (plE T)).map bareE = ts.flat.map bareE
  | .nil, _ => rfl
  | .cons t ts, i => by simp only [Trs.idxK, Trs.flat, List.map_append]; rw [idx_bare t, idxK_bare ts]
theorem idxR_bare {T : List Tk} : ∀ (ts : Trs) (i : Nat), ((ts.idxR i).map (plE T)).map bareE = ts.flat.map bareE
  | .nil, _ => rfl
  | .cons t ts, i => by simp only [Trs.idxR, Trs.flat, List.map_append]; rw [idx_bare t, idxR_bare ts]
end
theorem defIdx_bare {T : List Tk} : ∀ (l : List DefT) (i : Nat), ((defIdx i l).map (plD T)).map bareD = l.map (fun p => (⟨p.1, 0, p.2.flat.map bareE⟩ : Df))
  | [], _ => rfl
  | p :: l, i => by
    simp only [defIdx, List.map_cons, defIdx_bare l]
    congr 1
    simp only [plD, bareD, Df.mk.injEq, true_and]
    exact idx_bare p.2 _ _
theorem trees_bare {D : List Df} {l : List DefT} (h : D.map (fun d => (d.name, d.ty)) = l.map (fun q => (q.1, q.2.flat))) : D.map bareD = l.map (fun p => (⟨p.1, 0, p.2.flat.map bareE⟩ : Df)) := by
  have h1 := congrArg (List.map (fun q : List UInt8 × List Ex => (⟨q.1, 0, q.2.map bareE⟩ : Df))) h
  simp only [List.map_map] at h1
  exact h1
/-- two well-formed trees whose nodes are alike, places aside, print alike -/
theorem bareE_parts {a b : Ex} (h : bareE a = bareE b) : a.kind = b.kind ∧ a.n = b.n ∧ a.name = b.name ∧ a.label = b.label ∧ a.tag = b.tag ∧ a.kids = b.kids := bareE_iff.1 h
mutual
theorem sh_uniq : ∀ (t t2 : Tr) (a a2 : Int) (d d2 : Nat) (r r2 : List Ex), t.wf a d → t2.wf a2 d2 → t.flat.map bareE ++ r = t2.flat.map bareE ++ r2 → t.sh = t2.sh ∧ r = r2 ∧ bareE t.top = bareE t2.top
  | .node y ks, .node y2 ks2, a, a2, d, d2, r, r2, hw, hw2, h => by
    simp only [Tr.flat, List.map_cons, List.cons_append, List.cons.injEq] at h
    obtain ⟨h1, h2⟩ := h
    obtain ⟨e1, e2, e3, e4, e5, e6⟩ := bareE_parts h1
    have hl : ks.len = ks2.len := by
      have q1 : (ks.len : Int) = y.kids := hw.2.2.2.1
      have q2 : (ks2.len : Int) = y2.kids := hw2.2.2.2.1
      omega
    obtain ⟨g1, g2, g3⟩ := shs_uniq ks ks2 _ _ _ _ r r2 hl hw.2.2.2.2 hw2.2.2.2.2 h2
    refine ⟨?_, g3, h1⟩
    simp only [Tr.sh, e1, e2, e3, g1, g2]
theorem shs_uniq : ∀ (ts ts2 : Trs) (a a2 : Int) (d d2 : Nat) (r r2 : List Ex), ts.len = ts2.len → ts.wf a d → ts2.wf a2 d2 → ts.flat.map bareE ++ r = ts2.flat.map bareE ++ r2 → ts.shK = ts2.shK ∧ (∀ s f, ts.shR s f = ts2.shR s f) ∧ r = r2
  | .nil, .nil, _, _, _, _, r, r2, _, _, _, h => ⟨rfl, fun _ _ => rfl, by simpa [Trs.flat] using h⟩
  | .nil, .cons t2 ts2, _, _, _, _, _, _, hl, _, _, _ => by simp [Trs.len] at hl
  | .cons t ts, .nil, _, _, _, _, _, _, hl, _, _, _ => by simp [Trs.len] at hl
  | .cons t ts, .cons t2 ts2, a, a2, d, d2, r, r2, hl, hw, hw2, h => by
    simp only [Trs.flat, List.map_append, List.append_assoc] at h
    obtain ⟨g1, g2, g3⟩ := sh_uniq t t2 a a2 d d2 _ _ hw.1 hw2.1 h
    obtain ⟨k1, k2, k3⟩ := shs_uniq ts ts2 a a2 d d2 r r2 (by simpa [Trs.len] using hl) hw.2 hw2.2 g2
    obtain ⟨e1, e2, e3, e4, e5, e6⟩ := bareE_parts g3
    refine ⟨?_, fun s f => ?_, k3⟩
    · simp only [Trs.shK, g1, k1]
    · simp only [Trs.shR, g1, k2, e4, e5]
end
theorem shDefs_uniq : ∀ (l m : List DefT), (∀ q ∈ l, DefW q) → (∀ q ∈ m, DefW q) → l.map (fun p => (⟨p.1, 0, p.2.flat.map bareE⟩ : Df)) = m.map (fun p => (⟨p.1, 0, p.2.flat.map bareE⟩ : Df)) → shDefs l = shDefs m
  | [], [], _, _, _ => rfl
  | [], q :: m, _, _, h => by simp at h
  | p :: l, [], _, _, h => by simp at h
  | p :: l, q :: m, hl, hm, h => by
    simp only [List.map_cons, List.cons.injEq, Df.mk.injEq, true_and] at h
    obtain ⟨⟨h1, h2⟩, h3⟩ := h
    have h4 := shDefs_uniq l m (fun x hx => hl x (List.mem_cons_of_mem _ hx)) (fun x hx => hm x (List.mem_cons_of_mem _ hx)) h3
    have h5 := (sh_uniq p.2 q.2 0 0 0 0 [] [] (hl p (List.mem_cons_self ..)).2 (hm q (List.mem_cons_self ..)).2 (by rw [h2])).1
    simp only [shDefs, shDef, h1, h4, h5]
theorem shDefs_len : ∀ (D : List Df) (l : List DefT), (∀ q ∈ l, DefW q) → D.map (fun d => (d.name, d.ty)) = l.map (fun q => (q.1, q.2.flat)) → (∀ d ∈ D, d.ty.length ≤ 1048576) → (shDefs l).length ≤ D.length * 83887080
  | [], [], _, _, _ => by simp [shDefs]
  | [], q :: m, _, h, _ => by simp at h
  | d :: D, [], _, h, _ => by simp at h
  | d :: D, q :: l, hw, h, hs => by
    simp only [List.map_cons, List.cons.injEq, Prod.mk.injEq] at h
    have h1 := shDefs_len D l (fun x hx => hw x (List.mem_cons_of_mem _ hx)) h.2 (fun x hx => hs x (List.mem_cons_of_mem _ hx))
    have h2 := sh_len q.2 0 0 (hw q (List.mem_cons_self ..)).2
    have h3 := hs d (List.mem_cons_self ..)
    have h4 := (hw q (List.mem_cons_self ..)).1
    rw [h.1.2] at h3
    unfold nameB at h4; simp only [Bool.and_eq_true, decide_eq_true_eq] at h4
    have h6 : (shDefs (q :: l)).length = q.1.length + q.2.sh.length + 7 + (shDefs l).length := by simp [shDefs, shDef]; omega
    rw [h6, List.length_cons]
    omega

end Go.Proofs.YtanimeifmicmoaaDoor

set_option linter.unusedSimpArgs false
set_option linter.unusedVariables false
set_option maxRecDepth 100000
namespace Go.Proofs.YtanimeifmicmoaaDoor
open Go Go.Vc Go.RowKit Go.Proofs
set_option maxHeartbeats 2000000 in
theorem sback_walk (w0 : World) (D : List Df) (dv : Value) (V : Nat → Value) (hD : DefR w0 D dv V) (hlim : DOk D) (hszD : ∀ d ∈ D, d.ty.length ≤ 1048576) (hT : Tab w0) (h1H : 1 < w0.heap.size) : Ca Tryd.prog 5 #[.agg #[dv]] w0 (fun v w' => v = .bool true ∧ Ext w0 w') := by
  refine Ca.of Tryd.func5 Tryd.ntmps5 rfl rfl ?_
  refine W.seq ?_
  refine W.region ?_
  refine WL.c rfl (o_boxB rfl ?_)
  intro w1 hC1 hx hs1
  replace hC1 : w1.heap[w0.heap.size]? = some (.cells #[dv] 24 (0, 0)) := hC1
  obtain ⟨c1, hc1⟩ : ∃ c, c = w0.heap.size := ⟨_, rfl⟩
  rw [← hc1] at hC1 ⊢
  replace hD := hD.ext hx
  replace hT := hT.ext hx
  refine WL.c rfl (o_ash (show _ = Value.bool _ from rfl) ?_)
  refine WL.nil ?_
  refine W.seq ?_
  refine W.seq ?_
  refine W.region ?_
  refine WL.c rfl (o_call Tryd.call7 ln ((awake_spec _ hT (by have := hx.size; omega)).mono ?_))
  rintro v8 w8 ⟨rfl, hx8⟩
  replace hx := hx.tr hx8
  replace hC1 := hx8.blk hC1 (fun h => h)
  replace hD := hD.ext hx8
  replace hT := hT.ext hx8
  refine WL.c rfl (o_not' rfl ?_)
  refine WL.nil ?_
  refine W.condF' rfl (rfl) ?_
  refine W.skip ?_
  refine W.seq ?_
  have hxz := hx.size
  by_cases hck : (chkS D).2.2 = 0
  obtain ⟨h256, l, hws, hmap⟩ := chkS_trees hck
  have hbl : (shDefs l).length ≤ 140737488355328 := by have h1 := shDefs_len D l hws hmap hszD; have h2 : D.length * 83887080 ≤ 256 * 83887080 := Nat.mul_le_mul_right _ h256; omega
  by_cases h65 : 65536 < (shDefs l).length
  · skip
    skip
    refine W.region ?_
    refine WL.c rfl (o_ldA TI24 rfl rfl (show Cells _ c1 0 [dv] from Cells.of hC1 0 _ (by simp)) rfl ?_)
    refine WL.c rfl (o_call Tryd.call9 (lc rfl ln) ((print_spec D dv V _ hD hlim.lim hT (by omega) hck l hws hmap hbl).mono ?_))
    rintro v12 w12 ⟨rfl, hx12⟩
    rw [if_pos h65]
    replace hx := hx.tr hx12
    replace hC1 := hx12.blk hC1 (fun h => h)
    replace hD := hD.ext hx12
    replace hT := hT.ext hx12
    refine WL.c rfl (o_mvh (by first | exact (show _ = Value.tuple _ from rfl) | exact rfl) ?_)
    refine WL.c rfl (o_ext rfl rfl ?_)
    refine WL.c rfl (o_ext rfl rfl ?_)
    refine WL.c rfl (o_ash (show _ = Value.string _ from rfl) ?_)
    refine WL.c rfl (o_ash (show _ = Value.int _ _ from rfl) ?_)
    refine WL.nil ?_
    refine W.seq ?_
    refine W.seq ?_
    refine W.region ?_
    refine WL.c rfl (o_mvh (show _ = Value.int _ _ from rfl) ?_)
    refine WL.c rfl (o_ne rfl rfl ?_)
    refine WL.nil ?_
    refine W.condT' rfl (by decide) ?_
    refine W.seq ?_
    refine W.region ?_
    refine WL.c rfl (o_mvh (show _ = Value.string _ from rfl) ?_)
    refine WL.c rfl (o_eqT rfl rfl ?_)
    refine WL.c rfl (o_ash (show _ = Value.bool _ from rfl) ?_)
    refine WL.nil ?_
    refine W.ret ?_
    refine ret1v rfl (show _ = Value.bool _ from rfl) ?_
    exact ⟨rfl, hx⟩
  · skip
    skip
    refine W.region ?_
    refine WL.c rfl (o_ldA TI24 rfl rfl (show Cells _ c1 0 [dv] from Cells.of hC1 0 _ (by simp)) rfl ?_)
    refine WL.c rfl (o_call Tryd.call9 (lc rfl ln) ((print_spec D dv V _ hD hlim.lim hT (by omega) hck l hws hmap hbl).mono ?_))
    rintro v12 w12 ⟨rfl, hx12⟩
    rw [if_neg h65]
    replace hx := hx.tr hx12
    replace hC1 := hx12.blk hC1 (fun h => h)
    replace hD := hD.ext hx12
    replace hT := hT.ext hx12
    refine WL.c rfl (o_mvh (by first | exact (show _ = Value.tuple _ from rfl) | exact rfl) ?_)
    refine WL.c rfl (o_ext rfl rfl ?_)
    refine WL.c rfl (o_ext rfl rfl ?_)
    refine WL.c rfl (o_ash (show _ = Value.string _ from rfl) ?_)
    refine WL.c rfl (o_ash (show _ = Value.int _ _ from rfl) ?_)
    refine WL.nil ?_
    refine W.seq ?_
    refine W.seq ?_
    refine W.region ?_
    refine WL.c rfl (o_mvh (show _ = Value.int _ _ from rfl) ?_)
    refine WL.c rfl (o_ne rfl rfl ?_)
    refine WL.nil ?_
    refine W.condF' rfl (by decide) ?_
    refine W.skip ?_
    refine W.seq ?_
    refine W.region ?_
    refine WL.c rfl (o_mvh (show _ = Value.string _ from rfl) ?_)
    refine WL.c rfl (o_call Tryd.call14 (lc rfl ln) ((parse_spec (shDefs l) _ (by omega)).mono ?_))
    rintro v21 w21 ⟨dv21, V21, rfl, hD21, hxp21⟩
    replace hx := hx.tr hxp21
    replace hC1 := hxp21.blk hC1 (fun h => h)
    replace hD := hD.ext hxp21
    replace hT := hT.ext hxp21
    refine WL.c rfl (o_mvh (by first | exact (show _ = Value.tuple _ from rfl) | exact rfl) ?_)
    refine WL.c rfl (o_ext rfl rfl ?_)
    refine WL.c rfl (o_ext rfl rfl ?_)
    refine WL.c rfl (o_alB TI24 ?_)
    intro wa hCs hxs hss
    refine WL.c rfl (o_alB TI39 ?_)
    intro wb hCf hxf hsf
    replace hCs := hxf.blk hCs (fun h => h)
    refine WL.u (o_stA TI24 rfl (show _ = Value.agg #[dv21] from rfl) rfl (by simp [own_one hD21.row]) hCs rfl ?_)
    intro wc hB5 hos hsz
    replace hCf := hos.blk hCf (by omega)
    refine WL.u (o_stA TI39 rfl (show _ = Value.agg (faultV (parseA (shDefs l)).2.1 (parseA (shDefs l)).2.2) from rfl) rfl rfl hCf rfl ?_)
    intro w6z hB6 hof hsz2
    replace hB5 := hof.blk hB5 (by omega)
    have hxn : Ext w21 w6z := ((hxs.tr hxf).trans' hos (fun _ h => h) (fun k hk he => by omega)).trans' hof (fun _ h => h) (fun k hk he => by omega)
    obtain ⟨b5, hb5⟩ : ∃ b, b = w21.heap.size := ⟨_, rfl⟩
    obtain ⟨b6, hb6⟩ : ∃ b, b = wa.heap.size := ⟨_, rfl⟩
    rw [← hb5] at hB5 ⊢
    rw [← hb6] at hB6 ⊢
    clear hCs hCf hos hof
    replace hx := hx.tr hxn
    replace hC1 := hxn.blk hC1 (fun h => h)
    replace hD := hD.ext hxn
    replace hT := hT.ext hxn
    replace hD21 := hD21.ext hxn
    clear hxn
    have hl256 : l.length ≤ 256 := by have h1 := congrArg List.length hmap; simp at h1; omega
    obtain ⟨T, hpk⟩ := parse_sh hws hl256 (by omega)
    have hPok := parse_ok (shDefs l)
    have hPck : (chkS (parseA (shDefs l)).1).2.2 = 0 := by
      rcases parse_cases (shDefs l) with ⟨h, -⟩ | ⟨-, E, hp, h⟩
      · rw [hpk] at h; exact absurd rfl h
      · rw [h]; rw [pd_chkS (cut_small _) hp]
    have hPb : (parseA (shDefs l)).1.map bareD = D.map bareD := by rw [hpk, trees_bare hmap]; exact defIdx_bare l 0
    have hf : (parseA (shDefs l)).2 = (0, 0) := by rw [hpk]
    rw [hf] at hB6
    replace hB6 : w6z.heap[b6]? = some (.cells #[.int .i64 0, .int .i64 0] 39 (0, 0)) := hB6
    obtain ⟨P, hP⟩ : ∃ P, P = (parseA (shDefs l)).1 := ⟨_, rfl⟩
    rw [← hP] at hD21 hPok hPck hPb
    obtain ⟨hP256, l2, hws2, hmap2⟩ := chkS_trees hPck
    have hsh2 : shDefs l2 = shDefs l := shDefs_uniq l2 l hws2 hws (by rw [← trees_bare hmap2, hPb, trees_bare hmap])
    have hxz2 := hx.size
    refine WL.nil ?_
    refine W.seq ?_
    refine W.seq ?_
    refine W.region ?_
    refine WL.c rfl (o_fa 0 TI39 rfl TI28 rfl rfl ?_)
    refine WL.c rfl (o_ld TI28 rfl rfl (cell_of hB6 rfl) ?_)
    refine WL.c rfl (o_ne rfl rfl ?_)
    refine WL.c rfl (o_mvh (show _ = Value.bool _ from rfl) ?_)
    refine WL.g rfl (by decide) rfl (o_ldA TI24 rfl rfl (show Cells _ b5 0 [dv21] from Cells.of hB5 0 _ (by simp)) rfl ?_)
    refine WL.g rfl (by decide) rfl (o_ldA TI24 rfl rfl (show Cells _ c1 0 [dv] from Cells.of hC1 0 _ (by simp)) rfl ?_)
    refine WL.g rfl (by decide) rfl (o_call Tryd.call10 (lc rfl (lc rfl ln)) ((ssame_spec P D dv21 dv V21 V _ hD21.rd hD (by omega) (fun d hd => by have := hPok.ty d hd; omega)).mono ?_))
    rintro v30 w30 ⟨rfl, hx30⟩
    rw [hPb]
    replace hx := hx.tr hx30
    replace hC1 := hx30.blk hC1 (fun h => h)
    replace hD := hD.ext hx30
    replace hT := hT.ext hx30
    replace hB5 := hx30.blk hB5 (fun h => h)
    replace hB6 := hx30.blk hB6 (fun h => h)
    replace hD21 := hD21.ext hx30
    refine WL.g rfl (by decide) rfl (o_not' rfl ?_)
    refine WL.c rfl (o_pickO rfl rfl ?_)
    refine WL.nil ?_
    refine W.condF' rfl (by simp) ?_
    refine W.skip ?_
    refine W.seq ?_
    refine W.region ?_
    refine WL.c rfl (o_ldA TI24 rfl rfl (show Cells _ b5 0 [dv21] from Cells.of hB5 0 _ (by simp)) rfl ?_)
    refine WL.c rfl (o_call Tryd.call9 (lc rfl ln) ((print_spec P dv21 V21 _ hD21.rd hPok.lim hT (by have := hx.size; omega) hPck l2 hws2 hmap2 (by rw [hsh2]; exact hbl)).mono ?_))
    rintro v35 w35 ⟨rfl, hx35⟩
    rw [hsh2, if_neg h65]
    replace hx := hx.tr hx35
    refine WL.c rfl (o_mvh (by first | exact (show _ = Value.tuple _ from rfl) | exact rfl) ?_)
    refine WL.c rfl (o_ext rfl rfl ?_)
    refine WL.c rfl (o_ext rfl rfl ?_)
    refine WL.c rfl (o_ash (show _ = Value.string _ from rfl) ?_)
    refine WL.c rfl (o_ash (show _ = Value.int _ _ from rfl) ?_)
    refine WL.nil ?_
    refine W.seq ?_
    refine W.region ?_
    refine WL.c rfl (o_mvh (show _ = Value.int _ _ from rfl) ?_)
    refine WL.c rfl (o_eq rfl rfl ?_)
    refine WL.c rfl (o_mvh (show _ = Value.bool _ from rfl) ?_)
    refine WL.g rfl (by decide) rfl (o_mvh (show _ = Value.string _ from rfl) ?_)
    refine WL.g rfl (by decide) rfl (o_mvh (show _ = Value.string _ from rfl) ?_)
    refine WL.g rfl (by decide) rfl (o_eqT rfl rfl ?_)
    refine WL.c rfl (o_pickA rfl rfl ?_)
    refine WL.c rfl (o_ash (show _ = Value.bool _ from rfl) ?_)
    refine WL.nil ?_
    refine W.ret ?_
    refine ret1v rfl (show _ = Value.bool _ from rfl) ?_
    exact ⟨congrArg Value.bool (by simp), hx⟩
  · skip
    skip
    refine W.region ?_
    refine WL.c rfl (o_ldA TI24 rfl rfl (show Cells _ c1 0 [dv] from Cells.of hC1 0 _ (by simp)) rfl ?_)
    refine WL.c rfl (o_call Tryd.call9 (lc rfl ln) ((print_bad D dv V _ hD hlim.lim hck).mono ?_))
    rintro v12 w12 ⟨rfl, hx12⟩
    replace hx := hx.tr hx12
    replace hC1 := hx12.blk hC1 (fun h => h)
    replace hD := hD.ext hx12
    replace hT := hT.ext hx12
    refine WL.c rfl (o_mvh (by first | exact (show _ = Value.tuple _ from rfl) | exact rfl) ?_)
    refine WL.c rfl (o_ext rfl rfl ?_)
    refine WL.c rfl (o_ext rfl rfl ?_)
    refine WL.c rfl (o_ash (show _ = Value.string _ from rfl) ?_)
    refine WL.c rfl (o_ash (show _ = Value.int _ _ from rfl) ?_)
    refine WL.nil ?_
    refine W.seq ?_
    refine W.seq ?_
    refine W.region ?_
    refine WL.c rfl (o_mvh (show _ = Value.int _ _ from rfl) ?_)
    refine WL.c rfl (o_ne rfl rfl ?_)
    refine WL.nil ?_
    refine W.condT' rfl (by simp; omega) ?_
    refine W.seq ?_
    refine W.region ?_
    refine WL.c rfl (o_mvh (show _ = Value.string _ from rfl) ?_)
    refine WL.c rfl (o_eqT rfl rfl ?_)
    refine WL.c rfl (o_ash (show _ = Value.bool _ from rfl) ?_)
    refine WL.nil ?_
    refine W.ret ?_
    refine ret1v rfl (show _ = Value.bool _ from rfl) ?_
    exact ⟨rfl, hx⟩
end Go.Proofs.YtanimeifmicmoaaDoor

set_option linter.unusedSimpArgs false
set_option linter.unusedVariables false
set_option maxRecDepth 100000
namespace Go.Proofs.YtanimeifmicmoaaDoor
open Go Go.Vc Go.RowKit Go.Proofs

/-- its bulk is bounded -/
def Blk {H : Type} (d : DataW H) : Prop := Rows.uptoBulk d ≤ 1048576
theorem bulk_mem {H : Type} : ∀ {l : List (DataW H)} {d : DataW H}, d ∈ l → Rows.uptoBulk d ≤ Rows.uptoBulkAll l
  | d0 :: l, d, h => by
    rw [Rows.uptoBulkAll]
    rcases List.mem_cons.1 h with rfl | h
    · omega
    · have := bulk_mem h; omega
theorem bulk_pos {H : Type} (d : DataW H) : 1 ≤ Rows.uptoBulk d := by
  cases d with
  | lit x => cases x <;> simp [Rows.uptoBulk]
  | _ => simp [Rows.uptoBulk]
theorem bulk_len {H : Type} : ∀ l : List (DataW H), l.length ≤ Rows.uptoBulkAll l
  | [] => Nat.zero_le _
  | d :: l => by rw [Rows.uptoBulkAll, List.length_cons]; have := bulk_len l; have := bulk_pos d; omega
theorem Blk.elem {H : Type} {elems spare : List (DataW H)} {d : DataW H} (h : Blk (.slice elems spare)) (hd : d ∈ elems) : Blk d := by
  have := bulk_mem hd; unfold Blk at h ⊢; rw [Rows.uptoBulk] at h; omega
theorem Blk.part {H : Type} {parts : List (DataW H)} {i : Nat} {d : DataW H} (h : Blk (.agg parts)) (hd : parts[i]? = some d) : Blk d := by
  have := bulk_mem (List.mem_of_getElem? hd); unfold Blk at h ⊢; rw [Rows.uptoBulk] at h; omega
theorem Blk.size {H : Type} {elems spare : List (DataW H)} (h : Blk (.slice elems spare)) : elems.length ≤ 1048576 := by
  have := bulk_len elems; unfold Blk at h; rw [Rows.uptoBulk] at h; omega
section
variable {H : Type} {enc : TypeId × Value → H} {P : Program} {W : World} {held : Bool}
/-- a slice of what is opened by 'hc' -/
theorem open_rowsQ {α : Type} {t e : TypeId} (s : Nat) (cells : α → List Value) (p : α → Prop) (hu : P.underlying t = some (.slice e)) (hs : P.cellsOf e = s) (hs0 : 0 < s) (hlen : ∀ o, (cells o).length = s)
    (hc : ∀ (n : Nat) (cs : List Value) (y : DataW H × List MemPlace), DataW.trod enc P W 0 (fun _ => true) held n e cs = some y → Blk y.1 → ∃ o, cs = cells o ∧ p o)
    {fuel : Nat} {v : Value} {x : DataW H × List MemPlace} (h : DataW.trod enc P W 0 (fun _ => true) held fuel t [v] = some x) (hz : Blk x.1) :
    ∃ os : List α, os.length ≤ maxLen ∧ Sl W s v os.length (os.flatMap cells) ∧ ∀ o ∈ os, p o := by
  rcases DataW.trod_slice hu h with ⟨hcs, hd⟩ | ⟨a, len, cap, elems, rest, n, -, hcs, hx, -, hl, hm, hle, hel, -, -⟩
  · simp only [List.cons.injEq, and_true] at hcs
    subst hcs
    exact ⟨[], Nat.zero_le _, Sl.nil W s, fun o h => by cases h⟩
  · simp only [List.cons.injEq, and_true] at hcs
    subst hcs
    subst hx
    have key : ∀ i, i < len → ∃ o : α, (∀ j v, (cells o)[j]? = some v → W.cell? (a.add (i * s + j)) = some v) ∧ p o := by
      intro i hi
      have he := hel i hi
      rw [List.getElem?_eq_getElem (by omega), hs, Option.bind_eq_some_iff] at he
      obtain ⟨cs, h1, h2⟩ := he
      obtain ⟨-, h4, h5⟩ := World.cells?_some h1
      obtain ⟨o, ho, hp⟩ := hc n cs _ h2 (hz.elem (List.mem_map.2 ⟨_, List.getElem_mem (by omega), rfl⟩))
      subst ho
      refine ⟨o, fun j v hj => ?_, hp⟩
      have hjs : j < s := by have := (List.getElem?_eq_some_iff.1 hj).1; rw [hlen] at this; exact this
      have := h5 j hjs
      rw [← hj, ← this, addr_add]
    obtain ⟨os, ho1, ho2⟩ := list_of _ len key
    refine ⟨os, by omega, ⟨?_, ?_⟩, fun o ho => ?_⟩
    · clear ho2 ho1
      induction os with
      | nil => simp
      | cons o os ih => rw [List.flatMap_cons, List.length_append, hlen, ih, List.length_cons, Nat.add_mul]; omega
    · by_cases h0 : len = 0
      · subst h0; exact .inl ⟨ho1, _, _, rfl⟩
      · obtain ⟨b, off, spot⟩ := a
        have h00 := (ho2 0 (by omega)).1 0 ((cells (os[0]'(by omega)))[0]'(by rw [hlen]; exact hs0)) (List.getElem?_eq_getElem _)
        have hsp : spot = none := by simpa [Addr.add] using World.cell?_spot h00
        subst hsp
        refine .inr ⟨b, off, cap, by rw [ho1], by omega, fun idx u hu => ?_⟩
        obtain ⟨i, j, hi, h1, h2⟩ := flatMap_get hlen os idx u hu
        have h3 := (ho2 i hi).1 j u h2
        rw [h1, ← h3, add_none]
    · obtain ⟨i, hi, rfl⟩ := List.getElem_of_mem ho
      exact (ho2 i hi).2
/-- a struct's field -/
theorem open_fieldQ {t u : TypeId} {fs : Array Field} {f : Field} (i off s : Nat) (hu : P.underlying t = some (.struct fs)) (hf : fs[i]? = some f) (ht : f.type = u) (ho : f.offset = off) (hs : P.cellsOf u = s) {fuel : Nat} {cs : List Value} {x : DataW H × List MemPlace}
    (h : DataW.trod enc P W 0 (fun _ => true) held fuel t cs = some x) (hz : Blk x.1) : ∃ n y, DataW.trod enc P W 0 (fun _ => true) held n u ((cs.drop off).take s) = some y ∧ Blk y.1 := by
  subst ht ho hs
  obtain ⟨xs, n, -, hx, -, hl, hall⟩ := DataW.trod_struct hu h
  have hi : i < fs.size := (Array.getElem?_eq_some_iff.1 hf).1
  have h1 := hall i f hf
  rw [List.getElem?_eq_getElem (by omega)] at h1
  refine ⟨n, _, h1, ?_⟩
  subst hx
  refine hz.part (i := i) ?_
  · rw [List.getElem?_map, List.getElem?_eq_getElem (by omega)]; rfl

theorem rows_lenQ {t e : TypeId} (hu : P.underlying t = some (.slice e)) {fuel : Nat} {a : Option Addr} {n c : Nat} {x : DataW H × List MemPlace}
    (h : DataW.trod enc P W 0 (fun _ => true) held fuel t [.slice a n c] = some x) (hz : Blk x.1) : n ≤ 1048576 := by
  rcases DataW.trod_slice hu h with ⟨hcs, hd⟩ | ⟨a', len, cap, elems, rest, k, -, hcs, hx, -, hl, hm, hle, hel, -, -⟩
  · simp only [List.cons.injEq, and_true, Value.slice.injEq] at hcs
    omega
  · simp only [List.cons.injEq, and_true, Value.slice.injEq] at hcs
    subst hx
    have h1 := hz.size
    simp only [List.length_map, List.length_take] at h1
    omega
theorem open_exprQ {n : Nat} {cs : List Value} {y : DataW H × List MemPlace} (h : DataW.trod enc Tryd.prog W 0 (fun _ => true) held n 36 cs = some y) (hz : Blk y.1) : ∃ x : Ex, cs = exV x ∧ ExOk x := by
  have hl := open_struct_len (s := 7) Tryd.underlying36 (by kernel_rfl) h
  obtain ⟨a, b, c, d, e, f, g, rfl⟩ := seven_cells hl
  obtain ⟨n0, y0, h0, -⟩ := open_fieldQ 0 0 1 Tryd.underlying36 rfl rfl rfl (by kernel_rfl) h hz
  obtain ⟨n1, y1, h1, -⟩ := open_fieldQ 1 1 1 Tryd.underlying36 rfl rfl rfl (by kernel_rfl) h hz
  obtain ⟨n2, y2, h2, -⟩ := open_fieldQ 2 2 1 Tryd.underlying36 rfl rfl rfl (by kernel_rfl) h hz
  obtain ⟨n3, y3, h3, -⟩ := open_fieldQ 3 3 1 Tryd.underlying36 rfl rfl rfl (by kernel_rfl) h hz
  obtain ⟨n4, y4, h4, -⟩ := open_fieldQ 4 4 1 Tryd.underlying36 rfl rfl rfl (by kernel_rfl) h hz
  obtain ⟨n5, y5, h5, -⟩ := open_fieldQ 5 5 1 Tryd.underlying36 rfl rfl rfl (by kernel_rfl) h hz
  obtain ⟨n6, y6, h6, -⟩ := open_fieldQ 6 6 1 Tryd.underlying36 rfl rfl rfl (by kernel_rfl) h hz
  obtain ⟨k0, e0, -, -⟩ := DataW.trod_int Tryd.underlying3 h0
  obtain ⟨k1, e1, -, -⟩ := DataW.trod_int Tryd.underlying3 h1
  obtain ⟨k2, e2, -, l2⟩ := DataW.trod_string Tryd.underlying9 h2
  obtain ⟨k3, e3, -, l3⟩ := DataW.trod_string Tryd.underlying9 h3
  obtain ⟨k4, e4, -, -⟩ := DataW.trod_int Tryd.underlying3 h4
  obtain ⟨k5, e5, -, -⟩ := DataW.trod_int Tryd.underlying3 h5
  obtain ⟨k6, e6, -, -⟩ := DataW.trod_int Tryd.underlying3 h6
  simp only [List.drop_zero, List.drop_succ_cons, List.take_succ_cons, List.take_zero, List.cons.injEq, and_true] at e0 e1 e2 e3 e4 e5 e6
  refine ⟨⟨k0, k1, k2.data.toList, k3.data.toList, k4, k5, k6⟩, ?_, size_list l2, size_list l3⟩
  rw [e0, e1, e2, e3, e4, e5, e6, str_list, str_list]
  rfl

theorem open_exprsQ {n : Nat} {v : Value} {y : DataW H × List MemPlace} (h : DataW.trod enc Tryd.prog W 0 (fun _ => true) held n 32 [v] = some y) (hz : Blk y.1) :
    ∃ l : List Ex, Sl W 7 v l.length (exs l) ∧ l.length ≤ 1048576 ∧ ∀ x ∈ l, ExOk x := by
  obtain ⟨l, -, h1, h2⟩ := open_rowsQ 7 exV ExOk Tryd.underlying32 (by kernel_rfl) (by decide) (fun _ => rfl) (fun n cs y hy hz => open_exprQ hy hz) (v := v) h hz
  refine ⟨l, h1, ?_, h2⟩
  obtain ⟨a, c, rfl⟩ := h1.isSlice
  exact rows_lenQ Tryd.underlying32 h hz
def DfOkQ (W : World) (o : DfV) : Prop := Sl W 7 o.2 o.1.ty.length (exs o.1.ty) ∧ o.1.name.length ≤ 9223372036854775807 ∧ o.1.ty.length ≤ 1048576 ∧ ∀ x ∈ o.1.ty, ExOk x
theorem open_defQ {n : Nat} {cs : List Value} {y : DataW H × List MemPlace} (h : DataW.trod enc Tryd.prog W 0 (fun _ => true) held n 34 cs = some y) (hz : Blk y.1) : ∃ o : DfV, cs = dfV o ∧ DfOkQ W o := by
  have hl := open_struct_len (s := 3) Tryd.underlying34 (by kernel_rfl) h
  obtain ⟨a, b, c, rfl⟩ := three_cells hl
  obtain ⟨n0, y0, h0, -⟩ := open_fieldQ 0 0 1 Tryd.underlying34 rfl rfl rfl (by kernel_rfl) h hz
  obtain ⟨n1, y1, h1, -⟩ := open_fieldQ 1 1 1 Tryd.underlying34 rfl rfl rfl (by kernel_rfl) h hz
  obtain ⟨n2, y2, h2, z2⟩ := open_fieldQ 2 2 1 Tryd.underlying34 rfl rfl rfl (by kernel_rfl) h hz
  obtain ⟨k0, e0, -, l0⟩ := DataW.trod_string Tryd.underlying9 h0
  obtain ⟨k1, e1, -, -⟩ := DataW.trod_int Tryd.underlying3 h1
  obtain ⟨l, hS, hb, hok⟩ := open_exprsQ h2 z2
  simp only [List.drop_zero, List.drop_succ_cons, List.take_succ_cons, List.take_zero, List.cons.injEq, and_true] at e0 e1
  refine ⟨(⟨k0.data.toList, k1, l⟩, c), ?_, hS, size_list l0, hb, hok⟩
  rw [e0, e1, str_list]
  rfl
theorem open_sourceQ {n : Nat} {cs : List Value} {y : DataW H × List MemPlace} (h : DataW.trod enc Tryd.prog W 0 (fun _ => true) held n 24 cs = some y) (hz : Blk y.1) : ∃ D dv V, cs = [dv] ∧ DefR W D dv V ∧ DOk D ∧ ∀ d ∈ D, d.ty.length ≤ 1048576 := by
  have hl := open_struct_len (s := 1) Tryd.underlying24 (by kernel_rfl) h
  obtain ⟨a, rfl⟩ := List.length_eq_one_iff.1 hl
  obtain ⟨n0, y0, h0, z0⟩ := open_fieldQ 0 0 1 Tryd.underlying24 rfl rfl rfl (by kernel_rfl) h hz
  simp only [List.drop_zero, List.take_succ_cons, List.take_zero] at h0
  obtain ⟨os, -, h1, h2⟩ := open_rowsQ 3 dfV (DfOkQ W) Tryd.underlying22 (by kernel_rfl) (by decide) (fun _ => rfl) (fun n cs y hy hz => open_defQ hy hz) (v := a) h0 z0
  have hb : os.length * 48 ≤ 140737488351232 := by
    obtain ⟨b, c, rfl⟩ := h1.isSlice
    have := rows_lenQ Tryd.underlying22 h0 z0
    omega
  have hg : ∀ j (hj : j < os.length), (os.map Prod.fst).getD j df0 = os[j].1 := fun j hj => by simp [List.getD_eq_getElem?_getD, hj]
  have hr : drows (os.map Prod.fst) (fun j => (os.getD j (df0, undef)).2) = os.flatMap dfV := by
    rw [drows, List.length_map]
    have : ∀ (n : Nat), n ≤ os.length → ((List.range n).flatMap fun j => dcell ((os.map Prod.fst).getD j df0) ((os.getD j (df0, undef)).2)) = (os.take n).flatMap dfV := by
      intro n
      induction n with
      | zero => intro _; rfl
      | succ n ih =>
        intro hn
        rw [List.range_succ, List.flatMap_append, ih (by omega), List.flatMap_singleton, hg n hn, List.take_add_one, List.flatMap_append]
        simp [List.getD_eq_getElem?_getD, List.getElem?_eq_getElem (show n < os.length by omega), dfV]
    rw [this _ (Nat.le_refl _), List.take_length]
  refine ⟨os.map Prod.fst, a, fun j => (os.getD j (df0, undef)).2, rfl, ⟨?_, fun j hj => ?_⟩, ⟨by rw [List.length_map]; exact hb, ?_, ?_, ?_⟩, ?_⟩
  · rw [hr, List.length_map]; exact h1
  · have hj' : j < os.length := by simpa using hj
    have := h2 os[j] (List.getElem_mem hj')
    rw [tyD, hg j hj']
    have e : (os.getD j (df0, undef)) = os[j] := by simp [List.getD_eq_getElem?_getD, hj']
    rw [e]
    exact this.1
  all_goals
    intro d hd
    obtain ⟨o, ho, rfl⟩ := List.mem_map.1 hd
    obtain ⟨-, g1, g2, g3⟩ := h2 o ho
    first | omega | exact g1 | exact g3
end

end Go.Proofs.YtanimeifmicmoaaDoor
