/-
  Walks and lemmas. Written by program out of specs of mine.
-/
import Derived.WalkKit
import Derived.WalkSpells
import Derived.WalkLawsBesides
import Derived.Deep.Quiet
import Derived.StillTail
import Derived.StringKeys
import Derived.Laws.StructEq
import Derived.Laws.Externs
import Derived.Laws.Tables
import Derived.Scope
import Derived.Test.YtcljkkfpcomdcaaProg
import Derived.Laws.AppendOwn
import Derived.Maps.AppendAt
import Derived.Recover
import Derived.Lib.Bytealg
import Derived.SizedLaws
import Derived.ChangeArms
import Derived.ChangeSlices
import Derived.Test.YtcljkkfpcomdcaaRows
import Derived.ProofKit
import Derived.OpenShut
import Derived.ShutString
import Derived.ChangeOld
import Derived.Below
import Derived.JoinedCond
import Derived.SliceStrings
import Derived.Test.YtcljkkfpcomdcaaKb4
set_option linter.unusedSimpArgs false
set_option linter.unusedVariables false
set_option maxRecDepth 100000
set_option linter.unusedSimpArgs false
set_option linter.unusedVariables false
namespace Go.Vc
open Go Go.RowKit Go.ChangeShapes Go.WideShapes

theorem addr_add (a : Addr) (m k : Nat) : (a.add m).add k = a.add (m + k) := by
  unfold Addr.add
  by_cases hm : m = 0 <;> by_cases hk : k = 0 <;> simp [hm, hk, Nat.add_assoc]

theorem list_of {α : Type} (p : Nat → α → Prop) : ∀ n, (∀ i, i < n → ∃ o, p i o) → ∃ os : List α, os.length = n ∧ ∀ i (h : i < os.length), p i os[i]
  | 0, _ => ⟨[], rfl, fun i h => by simp at h⟩
  | n + 1, h => by
    obtain ⟨os, h1, h2⟩ := list_of p n (fun i hi => h i (by omega))
    obtain ⟨o, ho⟩ := h n (by omega)
    refine ⟨os ++ [o], by simp [h1], fun i hi => ?_⟩
    by_cases e : i < os.length
    · rw [List.getElem_append_left e]; exact h2 i e
    · simp at hi
      have e2 : i = n := by omega
      subst e2
      rw [List.getElem_append_right (by omega)]
      simpa [h1] using ho
theorem flatMap_get {α : Type} {cells : α → List Value} {s : Nat} (hlen : ∀ o, (cells o).length = s) : ∀ (os : List α) (idx : Nat) (v : Value), (os.flatMap cells)[idx]? = some v → ∃ i j, ∃ h : i < os.length, idx = i * s + j ∧ (cells os[i])[j]? = some v
  | [], idx, v, h => by simp at h
  | o :: os, idx, v, h => by
    rw [List.flatMap_cons] at h
    by_cases e : idx < s
    · rw [List.getElem?_append_left (by rw [hlen]; exact e)] at h
      exact ⟨0, idx, by simp, by omega, h⟩
    · rw [List.getElem?_append_right (by rw [hlen]; omega), hlen] at h
      obtain ⟨i, j, hi, h1, h2⟩ := flatMap_get hlen os (idx - s) v h
      refine ⟨i + 1, j, by simp; omega, ?_, by simpa using h2⟩
      rw [Nat.add_mul]; omega
theorem weightsAll_mem {H : Type} {P : Program} {e : TypeId} : ∀ {l : List (DataW H)} {d : DataW H} {n : Nat}, d ∈ l → n ∈ d.weights P e → n ∈ DataW.weightsAll P e l
  | d0 :: l, d, n, hd, hn => by
    simp only [DataW.weightsAll, List.mem_append]
    rcases List.mem_cons.1 hd with rfl | hd
    · exact .inl hn
    · exact .inr (weightsAll_mem hd hn)
/-- its weights are within reach -/
def Small {H : Type} (P : Program) (t : TypeId) (d : DataW H) : Prop := ∀ n ∈ d.weights P t, n ≤ reachBytes
theorem Small.top {H : Type} {P : Program} {ts : List TypeId} {ds : List (DataW H)} {j : Nat} {t : TypeId} {d : DataW H} (h : (DataW.weightsEach P ts ds).all (· ≤ reachBytes) = true) (ht : ts[j]? = some t) (hd : ds[j]? = some d) : Small P t d := fun n hn => by
  have := List.all_eq_true.1 h _ (DataW.weights_mem_each ht hd n hn)
  simpa using this
theorem Small.elem {H : Type} {P : Program} {t e : TypeId} {elems spare : List (DataW H)} {d : DataW H} (h : Small P t (.slice elems spare)) (hu : P.underlying t = some (.slice e)) (hd : d ∈ elems) : Small P e d := fun n hn =>
  h n (by simp only [DataW.weights, hu]; exact List.mem_cons_of_mem _ (List.mem_append_left _ (weightsAll_mem hd hn)))
theorem Small.size {H : Type} {P : Program} {t e : TypeId} {elems spare : List (DataW H)} (h : Small P t (.slice elems spare)) (hu : P.underlying t = some (.slice e)) : (elems.length + spare.length) * P.bytesOf e ≤ reachBytes :=
  h _ (by simp only [DataW.weights, hu]; exact List.mem_cons_self ..)
theorem Small.part {H : Type} {P : Program} {t u : TypeId} {fs : Array Field} {parts : List (DataW H)} {i : Nat} {d : DataW H} (h : Small P t (.agg parts)) (hu : P.underlying t = some (.struct fs)) (hf : (fs.toList.map (·.type))[i]? = some u) (hd : parts[i]? = some d) : Small P u d := fun n hn =>
  h n (by simp only [DataW.weights, hu]; exact DataW.weights_mem_each hf hd n hn)
section
variable {H : Type} {enc : TypeId × Value → H} {P : Program} {W : World} {held : Bool}
theorem open_struct_len {t : TypeId} {fs : Array Field} {s : Nat} (hu : P.underlying t = some (.struct fs)) (hs : P.cellsOf t = s) {fuel : Nat} {cs : List Value} {x : DataW H × List MemPlace} (h : DataW.trod enc P W 0 (fun _ => true) held fuel t cs = some x) : cs.length = s := by
  obtain ⟨xs, n, -, -, h1, -⟩ := DataW.trod_struct hu h
  rw [h1, hs]
end
end Go.Vc

set_option linter.unusedSimpArgs false
set_option linter.unusedVariables false
set_option maxRecDepth 100000
namespace Go.Proofs.Ytcljkkfpcomdcaa
open Go Go.Vc Go.RowKit Go.Proofs

theorem seven_cells {cs : List Value} (h : cs.length = 7) : ∃ a b c d e f g, cs = [a, b, c, d, e, f, g] := by
  match cs, h with
  | [a, b, c, d, e, f, g], _ => exact ⟨a, b, c, d, e, f, g, rfl⟩
theorem three_cells {cs : List Value} (h : cs.length = 3) : ∃ a b c, cs = [a, b, c] := by
  match cs, h with
  | [a, b, c], _ => exact ⟨a, b, c, rfl⟩
theorem str_list {s : ByteArray} : Value.string s = st s.data.toList := by
  cases s; simp [st]
theorem size_list {s : ByteArray} (h : s.size ≤ maxLen) : s.data.toList.length ≤ 9223372036854775807 := by
  rw [maxLen_eq] at h; simpa using h
def ExOk (x : Ex) : Prop := x.name.length ≤ 9223372036854775807 ∧ x.label.length ≤ 9223372036854775807
section
variable {H : Type} {enc : TypeId × Value → H} {W : World} {held : Bool}
abbrev DfV := Df × Value
def dfV (o : DfV) : List Value := dcell o.1 o.2
end
def setE (D : List Df) (d n : Nat) (x : Ex) : List Df := D.set d { D.getD d df0 with ty := (tyD D d).set n x }
theorem setE_len (D : List Df) (d n : Nat) (x : Ex) : (setE D d n x).length = D.length := by rw [setE, List.length_set]
theorem setE_at {D : List Df} {d n : Nat} {x : Ex} (j : Nat) : (setE D d n x).getD j df0 = if j = d ∧ d < D.length then { D.getD d df0 with ty := (tyD D d).set n x } else D.getD j df0 := by
  rw [setE, List.getD_eq_getElem?_getD, List.getElem?_set]
  by_cases h : d = j
  · subst h
    by_cases h2 : d < D.length
    · simp [h2]
    · simp [h2, List.getD_eq_getElem?_getD]
  · rw [if_neg h, if_neg (fun hh => h hh.1.symm), List.getD_eq_getElem?_getD]
theorem Defs.setE {w w' : World} {H : Nat} {D : List Df} {lv : Value} {V : Nat → Value} (h : Defs w H D lv V) {d n : Nat} {x : Ex} (hd : d < D.length) (ho : Only (fun k => (V d).ownBlock = some k) w w')
    (hr : w'.ownsRow H 30 7 (V d) (tyD D d).length (exs ((tyD D d).set n x))) : Defs w' H (setE D d n x) lv V := by
  have hrows : drows (Go.Proofs.Ytcljkkfpcomdcaa.setE D d n x) V = drows D V := by
    rw [drows, drows, setE_len]
    refine dfm_congr fun j hj => ?_
    rw [setE_at]
    split
    · rename_i hh; rw [hh.1]; rfl
    · rfl
  refine ⟨by rw [hrows, setE_len]; exact own_only h.row ho (fun k hk hF => own_row_off h.row (h.tys.row d hd) (by decide) k hF hk), ?_⟩
  rw [setE_len]
  refine (h.tys.set hd ho hr).congr (fun _ _ => rfl) (fun j hj => ?_) (fun j hj => ?_)
  · rw [tyD, setE_at]
    by_cases e : j = d
    · rw [if_pos ⟨e, hd⟩, if_pos e, List.length_set]
    · rw [if_neg (fun hh => e hh.1), if_neg e]; rfl
  · rw [tyD, setE_at]
    by_cases e : j = d
    · rw [if_pos ⟨e, hd⟩, if_pos e]
    · rw [if_neg (fun hh => e hh.1), if_neg e]; rfl
theorem DOk.setE {D : List Df} {d n : Nat} {x : Ex} (h : DOk D) (hx : ExOk x) : DOk (setE D d n x) := by
  have hm : ∀ e ∈ Go.Proofs.Ytcljkkfpcomdcaa.setE D d n x, e ∈ D ∨ (d < D.length ∧ e = { D.getD d df0 with ty := (tyD D d).set n x }) := by
    intro e he
    by_cases hd : d < D.length
    · rcases List.mem_or_eq_of_mem_set he with h1 | h1
      · exact .inl h1
      · exact .inr ⟨hd, h1⟩
    · rw [Go.Proofs.Ytcljkkfpcomdcaa.setE, List.set_eq_of_length_le (by omega)] at he
      exact .inl he
  have hmem : d < D.length → D.getD d df0 ∈ D := fun hd => by rw [getD_at hd]; exact List.getElem_mem hd
  refine ⟨by rw [setE_len]; exact h.len, fun e he => ?_, fun e he => ?_, fun e he y hy => ?_⟩
  · rcases hm e he with h1 | ⟨hd, rfl⟩
    · exact h.ty e h1
    · show ((tyD D d).set n x).length * 72 ≤ _
      rw [List.length_set]; exact h.ty _ (hmem hd)
  · rcases hm e he with h1 | ⟨hd, rfl⟩
    · exact h.nm e h1
    · exact h.nm (D.getD d df0) (hmem hd)
  · rcases hm e he with h1 | ⟨hd, rfl⟩
    · exact h.ex e h1 y hy
    · rcases List.mem_or_eq_of_mem_set hy with h2 | rfl
      · exact h.ex (D.getD d df0) (hmem hd) y h2
      · exact hx

end Go.Proofs.Ytcljkkfpcomdcaa

set_option linter.unusedSimpArgs false
set_option linter.unusedVariables false
set_option maxRecDepth 100000
namespace Go.Proofs.Ytcljkkfpcomdcaa
open Go Go.Vc Go.RowKit Go.Proofs

theorem tupE (r : Nat × Nat × Nat) : rs3 r = .tuple #[.int .i64 (r.1 : Int), .int .i64 (r.2.1 : Int), .int .i64 (r.2.2 : Int)] := rfl

end Go.Proofs.Ytcljkkfpcomdcaa

set_option linter.unusedSimpArgs false
set_option linter.unusedVariables false
set_option maxRecDepth 100000
namespace Go.Proofs.Ytcljkkfpcomdcaa
open Go Go.Vc Go.RowKit Go.Proofs

/-- definitions whose places rise -/
def RiD (T : List Tk) : Int → List Df → Prop
  | _, [] => True
  | lo, d :: ds => lo ≤ d.at_ ∧ 0 ≤ d.at_ ∧ d.at_ < T.length ∧ (tkA T d.at_.toNat).kind = 1 ∧ (tkA T d.at_.toNat).text = d.name ∧ (∃ hi : Int, hi ≤ T.length ∧ Rise (d.at_ + 1) d.ty hi ∧ RiD T hi ds) ∧ ∀ y ∈ d.ty, NdOk T y
theorem RiD.lo {T : List Tk} {a b : Int} {D : List Df} (h : RiD T b D) (hab : a ≤ b) : RiD T a D := by
  cases D with
  | nil => trivial
  | cons d ds => exact ⟨Int.le_trans hab h.1, h.2⟩
/-- lengths -/
theorem Rise.len {L : List Ex} : ∀ {a b : Int}, Rise a L b → (L.length : Int) ≤ b - a := by
  induction L with
  | nil => intro a b h; have : a ≤ b := h; simp; omega
  | cons y l ih => intro a b h; have h1 := ih h.2; have h2 := h.1; rw [List.length_cons]; omega
end Go.Proofs.Ytcljkkfpcomdcaa

set_option linter.unusedSimpArgs false
set_option linter.unusedVariables false
set_option maxRecDepth 100000
namespace Go.Proofs.Ytcljkkfpcomdcaa
open Go Go.Vc Go.RowKit Go.Proofs
/-- the same, further behind -/
def shiftT (k : Nat) (t : Tk) : Tk := ⟨t.kind, t.text, t.n, k + t.at_, k + t.fin⟩
theorem runL_shift (p : UInt8 → Bool) (xs : List UInt8) (k j : Nat) : runL p xs (k + j) = k + runL p (xs.drop k) j := by
  unfold runL
  rw [List.drop_drop]; omega
theorem sub_shift (xs : List UInt8) (k l h : Nat) : sub xs (k + l) (k + h) = sub (xs.drop k) l h := by
  unfold sub
  rw [← List.drop_drop, List.drop_take, Nat.add_sub_cancel_left]
theorem oneL_shift (xs : List UInt8) (k j : Nat) (h : k + j < xs.length) (h' : j < (xs.drop k).length) : (oneL xs (k + j) h).1 = (oneL (xs.drop k) j h').1 ∧ ((oneL (xs.drop k) j h').1 = 0 → (oneL xs (k + j) h).2 = shiftT k (oneL (xs.drop k) j h').2) := by
  have he : (xs.drop k)[j] = xs[k + j] := by simp
  unfold oneL
  rw [he]
  by_cases h1 : letB xs[k + j] = true
  · rw [if_pos h1, if_pos h1, runL_shift, sub_shift]
    by_cases h2 : 32 < k + runL goeB (xs.drop k) j - (k + j)
    · rw [if_pos h2, if_pos (by omega)]; exact ⟨rfl, fun h => by simp at h⟩
    · rw [if_neg h2, if_neg (by omega)]; exact ⟨rfl, fun _ => rfl⟩
  · rw [if_neg h1, if_neg h1]
    by_cases h2 : digB xs[k + j] = true
    · rw [if_pos h2, if_pos h2, runL_shift, sub_shift]; exact ⟨rfl, fun _ => rfl⟩
    · rw [if_neg h2, if_neg h2]
      by_cases h3 : markB xs[k + j] = true
      · rw [if_pos h3, if_pos h3, Nat.add_assoc, sub_shift]; exact ⟨rfl, fun _ => rfl⟩
      · rw [if_neg h3, if_neg h3]; exact ⟨rfl, fun h => by simp at h⟩


theorem ca_ok {xs : List UInt8} (hl : xs.length ≤ 65536) (h : (cutL xs 0).2.1 = 0) : cutA xs = cutL xs 0 := by unfold cutA; rw [if_neg (by omega), if_pos h]
def Pr.sh {α β : Type} (m : Nat) (g : α → β) : Pr α → Pr β
  | .ok a i => .ok (g a) (m + i)
  | .bad e i => .bad e (m + i)
theorem bind_sh {α α' β β' : Type} {m : Nat} {g : α → α'} {h : β → β'} {r : Pr α} {F : α → Nat → Pr β} {F' : α' → Nat → Pr β'} (hF : ∀ a i, r = .ok a i → F' (g a) (m + i) = (F a i).sh m h) : (r.sh m g).bind F' = (r.bind F).sh m h := by
  cases r with
  | ok a i => exact hF a i rfl
  | bad e i => rfl
/-- tokens that differ in places alone, from the m-th on -/
structure Like (m : Nat) (T T2 : List Tk) : Prop where
  len : T.length = m + T2.length
  tok : ∀ i, (tkA T (m + i)).kind = (tkA T2 i).kind ∧ (tkA T (m + i)).text = (tkA T2 i).text ∧ (tkA T (m + i)).n = (tkA T2 i).n
def shE (m : Nat) (x : Ex) : Ex := if x.at_ < 0 then x else { x with at_ := x.at_ + m }
theorem Like.eqT {m : Nat} {T T2 : List Tk} (h : Like m T T2) (i k : Nat) (s : List UInt8) : isT (tkA T (m + i)) k s = isT (tkA T2 i) k s := by
  unfold isT; rw [(h.tok i).1, (h.tok i).2.1]
theorem Like.eqN {m : Nat} {T T2 : List Tk} (h : Like m T T2) (i : Nat) : nmT (tkA T (m + i)) = nmT (tkA T2 i) := by
  unfold nmT; rw [(h.tok i).1, (h.tok i).2.1]
theorem Like.bgn {m : Nat} {T T2 : List Tk} (h : Like m T T2) (i : Nat) : bgnT (tkA T (m + i)) = bgnT (tkA T2 i) := by
  unfold bgnT; rw [(h.tok i).1, (h.tok i).2.1]
theorem Like.want {m : Nat} {T T2 : List Tk} (h : Like m T T2) (i k : Nat) (s : List UInt8) : wantT T (m + i) k s = (wantT T2 i k s).sh m id := by
  unfold wantT; rw [h.eqT]; split <;> rfl
theorem Like.num {m : Nat} {T T2 : List Tk} (h : Like m T T2) (i : Nat) : numT T (m + i) = (numT T2 i).sh m id := by
  unfold numT; rw [(h.tok i).1, (h.tok i).2.2]; split <;> rfl
theorem Like.name {m : Nat} {T T2 : List Tk} (h : Like m T T2) (i : Nat) : nameT T (m + i) = (nameT T2 i).sh m id := by
  unfold nameT; rw [h.eqN, (h.tok i).2.1]; split <;> rfl
theorem shE_0 {m i : Nat} {x : Ex} (h : x.at_ = (i : Int)) : shE m x = { x with at_ := ((m + i : Nat) : Int) } := by
  obtain ⟨k, n, nm, l, t, kd, a⟩ := x
  have h : a = (i : Int) := h
  have h2 : ¬ a < 0 := by omega
  simp only [shE, h2, if_false, Ex.mk.injEq, true_and]; omega
theorem shE_exM {m : Nat} : shE m exM = exM := rfl
theorem shE_atE {m i : Nat} {x : Ex} : atE (m + i) (shE m x) = shE m (atE i x) := by
  obtain ⟨k, n, nm, l, t, kd, a⟩ := x
  by_cases h : a < 0
  · have h2 : ¬ (i : Int) < 0 := by omega
    simp only [shE, atE, h, h2, if_true, if_false, Ex.mk.injEq, true_and]; omega
  · have h2 : ¬ a + (m : Int) < 0 := by omega
    simp only [shE, atE, h, h2, if_true, if_false]
theorem shE_lf {m : Nat} {x : Ex} {a b : Int} : (shE m x).lf a b = shE m (x.lf a b) := by unfold shE Ex.lf; split <;> rfl
theorem shE_vec {m : Nat} {x : Ex} {b : Bool} {n : Int} : (shE m x).vec b n = shE m (x.vec b n) := by
  obtain ⟨kd, n', nm, l, t, kk, a⟩ := x
  by_cases h : a < 0 <;> simp [shE, Ex.vec, h]
theorem shE_opt {m : Nat} {x : Ex} : (shE m x).opt = shE m x.opt := by unfold shE Ex.opt; split <;> rfl
theorem shE_br {m : Nat} {x : Ex} {u : Bool} {n : Int} : (shE m x).br u n = shE m (x.br u n) := by
  obtain ⟨kd, n', nm, l, t, kk, a⟩ := x
  by_cases h : a < 0 <;> simp [shE, Ex.br, h]
theorem shE_nm {m : Nat} {x : Ex} {s : List UInt8} : (shE m x).nm s = shE m (x.nm s) := by unfold shE Ex.nm; split <;> rfl
theorem Like.head {m : Nat} {T T2 : List Tk} (h : Like m T T2) (u full : Bool) (i : Nat) : headT T u full (m + i) { ex0 with at_ := ((m + i : Nat) : Int) } = (headT T2 u full i { ex0 with at_ := (i : Int) }).sh m (shE m) := by
  cases u
  · rw [headT_s, headT_s, h.eqN]
    split
    · rfl
    · rw [h.name]
      refine bind_sh fun a j hh => ?_
      show Pr.ok _ _ = Pr.ok _ _
      rw [shE_0 (i := i) rfl]; rfl
  · rw [headT_u, headT_u, (h.tok i).1]
    split
    · rfl
    · rw [h.num]
      refine bind_sh fun a j hh => ?_
      show Pr.ok _ _ = Pr.ok _ _
      rw [shE_0 (i := i) rfl]; rfl
theorem Like.rows {m : Nat} {T T2 : List Tk} (h : Like m T T2) {u : Bool} {i0 : Nat} {E E2 : Nat → Ex → Pr (List Ex)} (hE : ∀ i x, i0 ≤ i → i ≤ T2.length → E (m + i) (shE m x) = (E2 i x).sh m (List.map (shE m))) (hE2 : ∀ i x N j, E2 i x = .ok N j → i < j ∧ j ≤ T2.length) :
    ∀ (g g2 i k : Nat), i0 ≤ i → i ≤ T2.length → T2.length + 2 ≤ g + i → T2.length + 2 ≤ g2 + i → rowsT E T u g (m + i) k = (rowsT E2 T2 u g2 i k).sh m (fun r => (r.1.map (shE m), r.2))
  | 0, g2, i, k, h0, hi, hg, hg2 => by omega
  | g + 1, 0, i, k, h0, hi, hg, hg2 => by omega
  | g + 1, g2 + 1, i, k, h0, hi, hg, hg2 => by
    rw [rowsT_s, rowsT_s, h.head]
    refine bind_sh fun y i1 h1 => ?_
    obtain ⟨rfl, hi1⟩ := headT_le h1
    rw [h.want]
    refine bind_sh fun _ i2 h2 => ?_
    obtain ⟨rfl, hi2⟩ := wantT_le (by decide) h2
    rw [hE _ _ (by omega) (by omega)]
    refine bind_sh fun N j h3 => ?_
    obtain ⟨b1, b2⟩ := hE2 _ _ _ _ h3
    rw [h.eqT]
    split
    · rename_i hm
      have hm2 := isT_lt (by decide) hm
      rw [show m + j + 1 = m + (j + 1) by omega, Like.rows h hE hE2 g g2 (j + 1) (k + 1) (by omega) (by omega) (by omega) (by omega)]
      refine bind_sh fun r j2 h4 => ?_
      show Pr.ok (_, _) _ = Pr.ok (List.map _ (_ ++ _), _) _
      rw [List.map_append]
    · rw [h.want]
      exact bind_sh fun _ j2 h4 => rfl
theorem Like.expr {m : Nat} {T T2 : List Tk} (h : Like m T T2) : ∀ (f f2 i : Nat) (x : Ex) (deep : Nat), i ≤ T2.length → T2.length + 2 ≤ f + i → T2.length + 2 ≤ f2 + i → exprT T f (m + i) (shE m x) deep = (exprT T2 f2 i x deep).sh m (List.map (shE m))
  | 0, f2, i, x, deep, hi, hf, hf2 => by omega
  | f + 1, 0, i, x, deep, hi, hf, hf2 => by omega
  | f + 1, f2 + 1, i, x, deep, hi, hf, hf2 => by
    rw [exprT_s, exprT_s, h.bgn, (h.tok i).2.1]
    split
    · rfl
    · rename_i hb
      have hil : i < T2.length := tkA_kind (by decide) (bgn_kind (by simpa using hb))
      split
      · rfl
      · split
        · show Pr.ok _ _ = Pr.ok _ _
          rw [shE_atE, shE_lf]; rfl
        · split
          · rw [show m + i + 1 = m + (i + 1) by omega, h.want]
            refine bind_sh fun _ i1 h1 => ?_
            obtain ⟨rfl, hi1⟩ := wantT_le (by decide) h1
            rw [← shE_exM (m := m), Like.expr h f f2 _ _ _ (by omega) (by omega) (by omega)]
            refine bind_sh fun N i2 h2 => ?_
            obtain ⟨b1, b2⟩ := expr_lt h2
            rw [h.want]
            refine bind_sh fun _ i3 h3 => ?_
            rw [h.num]
            refine bind_sh fun n i4 h4 => ?_
            rw [h.want]
            refine bind_sh fun _ i5 h5 => ?_
            show Pr.ok _ _ = Pr.ok _ _
            rw [shE_atE, shE_vec]; rfl
          · split
            · rw [show m + i + 1 = m + (i + 1) by omega, h.want]
              refine bind_sh fun _ i1 h1 => ?_
              obtain ⟨rfl, hi1⟩ := wantT_le (by decide) h1
              rw [← shE_exM (m := m), Like.expr h f f2 _ _ _ (by omega) (by omega) (by omega)]
              refine bind_sh fun N i2 h2 => ?_
              rw [h.want]
              refine bind_sh fun _ i3 h3 => ?_
              show Pr.ok _ _ = Pr.ok _ _
              rw [shE_atE, shE_opt]; rfl
            · have hrow : ∀ (u : Bool), (((wantT T (m + i + 1) 3 [123]).bind fun _ j => rowsT (fun i x => exprT T f i x (deep + 1)) T u f j 0).bind fun r j => (.ok ((atE (m + i) (shE m x)).br u (r.2 : Nat) :: r.1) j : Pr (List Ex))) =
                  (((wantT T2 (i + 1) 3 [123]).bind fun _ j => rowsT (fun i x => exprT T2 f2 i x (deep + 1)) T2 u f2 j 0).bind fun r j => (.ok ((atE i x).br u (r.2 : Nat) :: r.1) j : Pr (List Ex))).sh m (List.map (shE m)) := by
                intro u
                rw [show m + i + 1 = m + (i + 1) by omega, h.want]
                have := bind_sh (m := m) (g := id) (h := fun r : List Ex × Nat => (r.1.map (shE m), r.2)) (r := wantT T2 (i + 1) 3 [123]) (F := fun _ j => rowsT (fun i x => exprT T2 f2 i x (deep + 1)) T2 u f2 j 0) (F' := fun _ j => rowsT (fun i x => exprT T f i x (deep + 1)) T u f j 0) (fun _ i1 h1 => by
                  obtain ⟨rfl, hi1⟩ := wantT_le (by decide) h1
                  exact Like.rows h (i0 := i + 1 + 1) (fun i x h0 hi => Like.expr h f f2 i x _ hi (by omega) (by omega)) (fun i x N j hh => expr_lt hh) f f2 _ _ (Nat.le_refl _) (by omega) (by omega) (by omega))
                rw [this]
                refine bind_sh fun r j h2 => ?_
                show Pr.ok _ _ = Pr.ok _ _
                rw [shE_atE, shE_br]; rfl
              split
              · exact hrow true
              · split
                · exact hrow false
                · show Pr.ok _ _ = Pr.ok _ _
                  rw [shE_atE, shE_nm]; rfl
def shD (m : Nat) (d : Df) : Df := ⟨d.name, d.at_ + m, d.ty.map (shE m)⟩
theorem Like.defs {m : Nat} {T T2 : List Tk} (h : Like m T T2) : ∀ (g g2 i k k2 : Nat), i ≤ T2.length → T2.length + 2 ≤ g + i → T2.length + 2 ≤ g2 + i → k2 ≤ k → k ≤ 256 → (∃ j, defsT T g (m + i) k = .bad 5 j ∧ ∀ D e, defsT T2 g2 i k2 = .ok D e → 256 < k + D.length) ∨ defsT T g (m + i) k = (defsT T2 g2 i k2).sh m (List.map (shD m))
  | 0, g2, i, k, k2, hi, hf, hf2, hk, hkm => by omega
  | g + 1, 0, i, k, k2, hi, hf, hf2, hk, hkm => by omega
  | g + 1, g2 + 1, i, k, k2, hi, hf, hf2, hk, hkm => by
    have hlen := h.len
    rw [defsT_s, defsT_s]
    by_cases hi2 : T2.length ≤ i
    · rw [if_pos (by omega), if_pos hi2]; exact .inr rfl
    · rw [if_neg (by omega), if_neg hi2, h.eqT]
      by_cases hnm : k = 256 ∧ isT (tkA T2 i) 1 [116, 121, 112, 101] = true
      · rw [if_pos hnm]
        refine .inl ⟨_, rfl, fun D e hD => ?_⟩
        split at hD
        · cases hD
        · obtain ⟨_, i1, h1, hD⟩ := bind_ok hD
          obtain ⟨_, i1, h1, hD⟩ := bind_ok hD
          obtain ⟨_, i1, h1, hD⟩ := bind_ok hD
          obtain ⟨_, i1, h1, hD⟩ := bind_ok hD
          obtain ⟨_, i1, h1, hD⟩ := bind_ok hD
          obtain ⟨_, i1, h1, hD⟩ := bind_ok hD
          cases hD
          rw [List.length_cons]; omega
      · rw [if_neg hnm, if_neg (fun hh => hnm ⟨by omega, hh.2⟩), h.want]
        rcases hw : wantT T2 i 1 [116, 121, 112, 101] with ⟨_, i1⟩ | ⟨e, j⟩
        · obtain ⟨rfl, hi1⟩ := wantT_le (by decide) hw
          simp only [Pr.sh, Pr.bind_ok]
          rw [show m + (i + 1) = m + (i + 1) from rfl, h.name]
          rcases hn : nameT T2 (i + 1) with ⟨sn, i2⟩ | ⟨e, j⟩
          · obtain ⟨g2', -, rfl⟩ := nameT_ok hn
            have hi2' : i + 1 < T2.length := by simp only [nmT, Bool.and_eq_true, decide_eq_true_eq] at g2'; exact tkA_kind (by decide) g2'.1
            simp only [Pr.sh, Pr.bind_ok]
            rw [h.want]
            rcases he : wantT T2 (i + 1 + 1) 3 [61] with ⟨_, i3⟩ | ⟨e, j⟩
            · obtain ⟨rfl, hi3⟩ := wantT_le (by decide) he
              simp only [Pr.sh, Pr.bind_ok]
              have hx := h.expr (T.length + 2) (T2.length + 2) (i + 1 + 1 + 1) exM 0 (by omega) (by omega) (by omega)
              rw [shE_exM] at hx
              rw [hx]
              rcases hN : exprT T2 (T2.length + 2) (i + 1 + 1 + 1) exM 0 with ⟨N, j⟩ | ⟨e, j⟩
              · obtain ⟨b1, b2⟩ := expr_lt hN
                simp only [Pr.sh, Pr.bind_ok]
                rw [h.want]
                rcases hs : wantT T2 j 3 [59] with ⟨_, i5⟩ | ⟨e, j⟩
                · obtain ⟨rfl, hi5⟩ := wantT_le (by decide) hs
                  simp only [Pr.sh, Pr.bind_ok]
                  rcases Like.defs h g g2 (j + 1) (k + 1) (k2 + 1) (by omega) (by omega) (by omega) (by omega) (by
                    rcases Nat.lt_or_ge k 256 with h7 | h7
                    · exact h7
                    · exact absurd ⟨by omega, (wantT_ok hw).1⟩ hnm) with ⟨q, hq, hbig⟩ | hq
                  · refine .inl ⟨q, by rw [hq]; rfl, fun D e hD => ?_⟩
                    obtain ⟨D', e', h6, hD⟩ := bind_ok hD
                    cases hD
                    have := hbig _ _ h6
                    rw [List.length_cons]; omega
                  · refine .inr ?_
                    rw [hq]
                    refine bind_sh fun D q hD => ?_
                    show Pr.ok (_ :: _) _ = Pr.ok (_ :: _) _
                    congr 2
                    simp only [shD, id, Df.mk.injEq, true_and, and_true]
                    omega
                · exact .inr rfl
              · exact .inr rfl
            · exact .inr rfl
          · exact .inr rfl
        · exact .inr rfl
theorem bind_pre {α β : Type} {n : Nat} {r r2 : Pr α} {F F2 : α → Nat → Pr β} (hne : ∀ e, r2.bind F2 ≠ .bad e n) (hr : (∀ e, r2 ≠ .bad e n) → r = r2) (hF : ∀ a j, r2 = .ok a j → (∀ e, F2 a j ≠ .bad e n) → F a j = F2 a j) : r.bind F = r2.bind F2 := by
  cases r2 with
  | ok a i => rw [hr (fun e h => by cases h)]; exact hF a i rfl hne
  | bad e i => rw [hr (fun e' h => hne e' (by injection h with h1 h2; rw [h1, h2]; rfl))]; rfl
theorem bind_pre2 {α β γ : Type} {n : Nat} {r r2 : Pr α} {F : α → Nat → Pr γ} {F2 : α → Nat → Pr β} {G : α → Nat → Pr γ} (hne : ∀ e, r2.bind F2 ≠ .bad e n) (hr : (∀ e, r2 ≠ .bad e n) → r = r2) (hF : ∀ a j, r2 = .ok a j → (∀ e, F2 a j ≠ .bad e n) → F a j = G a j) : r.bind F = r2.bind G := by
  cases r2 with
  | ok a i => rw [hr (fun e h => by cases h)]; exact hF a i rfl hne
  | bad e i => rw [hr (fun e' h => hne e' (by injection h with h1 h2; rw [h1, h2]; rfl))]; rfl
structure Pre (T T2 : List Tk) : Prop where
  le : T2.length ≤ T.length
  tok : ∀ i, i < T2.length → tkA T i = tkA T2 i
theorem Pre.want {T T2 : List Tk} (h : Pre T T2) {i k : Nat} {s : List UInt8} (hk : 1 ≤ k) (hi : i ≤ T2.length) (hne : ∀ e, wantT T2 i k s ≠ .bad e T2.length) : wantT T i k s = wantT T2 i k s := by
  rcases Nat.lt_or_ge i T2.length with hl | hl
  · unfold wantT; rw [h.tok i hl]
  · have : i = T2.length := by omega
    subst this
    refine absurd ?_ (hne 60)
    unfold wantT
    rw [if_neg (fun hh => by have := isT_lt hk hh; omega)]
theorem Pre.num {T T2 : List Tk} (h : Pre T T2) {i : Nat} (hi : i ≤ T2.length) (hne : ∀ e, numT T2 i ≠ .bad e T2.length) : numT T i = numT T2 i := by
  rcases Nat.lt_or_ge i T2.length with hl | hl
  · unfold numT; rw [h.tok i hl]
  · have : i = T2.length := by omega
    subst this
    refine absurd ?_ (hne 60)
    unfold numT
    rw [if_neg (fun hh => by have := tkA_kind (by decide) hh; omega)]
theorem nmT_lt {T : List Tk} {i : Nat} (h : nmT (tkA T i) = true) : i < T.length := by
  simp only [nmT, Bool.and_eq_true, decide_eq_true_eq] at h; exact tkA_kind (by decide) h.1
theorem Pre.name {T T2 : List Tk} (h : Pre T T2) {i : Nat} (hi : i ≤ T2.length) (hne : ∀ e, nameT T2 i ≠ .bad e T2.length) : nameT T i = nameT T2 i := by
  rcases Nat.lt_or_ge i T2.length with hl | hl
  · unfold nameT; rw [h.tok i hl]
  · have : i = T2.length := by omega
    subst this
    refine absurd ?_ (hne 60)
    unfold nameT
    rw [if_neg (fun hh => by have := nmT_lt hh; omega)]
theorem Pre.head {T T2 : List Tk} (h : Pre T T2) {u full : Bool} {i : Nat} {x : Ex} (hi : i ≤ T2.length) (hne : ∀ e, headT T2 u full i x ≠ .bad e T2.length) : headT T u full i x = headT T2 u full i x := by
  rcases Nat.lt_or_ge i T2.length with hl | hl
  · cases u
    · rw [headT_s, headT_s]; unfold nameT; rw [h.tok i hl]
    · rw [headT_u, headT_u]; unfold numT; rw [h.tok i hl]
  · have : i = T2.length := by omega
    subst this
    cases u
    · refine absurd ?_ (hne 60)
      rw [headT_s, if_neg (fun hh => by have := nmT_lt hh.2; omega)]
      unfold nameT
      rw [if_neg (fun hh => by have := nmT_lt hh; omega)]
      rfl
    · refine absurd ?_ (hne 60)
      rw [headT_u, if_neg (fun hh => by have := tkA_kind (by decide) hh.2; omega)]
      unfold numT
      rw [if_neg (fun hh => by have := tkA_kind (by decide) hh; omega)]
      rfl
theorem Pre.rows {T T2 : List Tk} (h : Pre T T2) {u : Bool} {i0 : Nat} {E E2 : Nat → Ex → Pr (List Ex)} (hE : ∀ i x, i0 ≤ i → i ≤ T2.length → (∀ e, E2 i x ≠ .bad e T2.length) → E i x = E2 i x) (hE2 : ∀ i x N j, E2 i x = .ok N j → i < j ∧ j ≤ T2.length) :
    ∀ (g g2 i k : Nat), i0 ≤ i → i ≤ T2.length → T.length + 2 ≤ g + i → T2.length + 2 ≤ g2 + i → (∀ e, rowsT E2 T2 u g2 i k ≠ .bad e T2.length) → rowsT E T u g i k = rowsT E2 T2 u g2 i k
  | 0, g2, i, k, h0, hi, hg, hg2, hne => by have := h.le; omega
  | g + 1, 0, i, k, h0, hi, hg, hg2, hne => by omega
  | g + 1, g2 + 1, i, k, h0, hi, hg, hg2, hne => by
    rw [rowsT_s] at hne
    rw [rowsT_s, rowsT_s]
    refine bind_pre hne (fun hn => h.head hi hn) fun y i1 h1 hne => ?_
    obtain ⟨rfl, hi1⟩ := headT_le h1
    refine bind_pre hne (fun hn => h.want (by decide) (by omega) hn) fun _ i2 h2 hne => ?_
    obtain ⟨rfl, hi2⟩ := wantT_le (by decide) h2
    refine bind_pre hne (fun hn => hE _ _ (by omega) (by omega) hn) fun N j h3 hne => ?_
    obtain ⟨b1, b2⟩ := hE2 _ _ _ _ h3
    have hjl : j < T2.length := by
      rcases Nat.lt_or_ge j T2.length with hl | hl
      · exact hl
      · exfalso
        have hj : j = T2.length := by omega
        subst hj
        have hf : ∀ {k s}, 1 ≤ k → ¬ isT (tkA T2 T2.length) k s = true := fun hk hh => by have := isT_lt hk hh; omega
        rw [if_neg (hf (by decide))] at hne
        refine hne 60 ?_
        unfold wantT
        rw [if_neg (hf (by decide))]
        rfl
    rw [h.tok j hjl]
    split
    · rename_i hm
      rw [if_pos hm] at hne
      exact bind_pre hne (fun hn => Pre.rows h hE hE2 g g2 (j + 1) (k + 1) (by omega) (by omega) (by omega) (by omega) hn) fun r j2 h4 hne => rfl
    · rename_i hm
      rw [if_neg hm] at hne
      exact bind_pre hne (fun hn => h.want (by decide) b2 hn) fun _ j2 h4 hne => rfl
theorem Pre.expr {T T2 : List Tk} (h : Pre T T2) : ∀ (f f2 i : Nat) (x : Ex) (deep : Nat), i ≤ T2.length → T.length + 2 ≤ f + i → T2.length + 2 ≤ f2 + i → (∀ e, exprT T2 f2 i x deep ≠ .bad e T2.length) → exprT T f i x deep = exprT T2 f2 i x deep
  | 0, f2, i, x, deep, hi, hf, hf2, hne => by have := h.le; omega
  | f + 1, 0, i, x, deep, hi, hf, hf2, hne => by omega
  | f + 1, f2 + 1, i, x, deep, hi, hf, hf2, hne => by
    rw [exprT_s] at hne
    rw [exprT_s, exprT_s]
    have hil : i < T2.length := by
      rcases Nat.lt_or_ge i T2.length with hl | hl
      · exact hl
      · exfalso
        have hj : i = T2.length := by omega
        subst hj
        refine hne 60 ?_
        rw [if_pos]
        cases hb : bgnT (tkA T2 T2.length) with
        | false => rfl
        | true => have := tkA_kind (T := T2) (by decide) (bgn_kind hb); omega
    rw [h.tok i hil]
    split
    · rfl
    · rename_i hb
      rw [if_neg hb] at hne
      split
      · rfl
      · rename_i hd
        rw [if_neg hd] at hne
        split
        · rfl
        · rename_i hl
          rw [hl] at hne
          simp only at hne
          split
          · rename_i hv
            rw [if_pos hv] at hne
            refine bind_pre hne (fun hn => h.want (by decide) (by omega) hn) fun _ i1 h1 hne => ?_
            obtain ⟨rfl, hi1⟩ := wantT_le (by decide) h1
            refine bind_pre hne (fun hn => Pre.expr h f f2 _ _ _ (by omega) (by omega) (by omega) hn) fun N i2 h2 hne => ?_
            obtain ⟨b1, b2⟩ := expr_lt h2
            refine bind_pre hne (fun hn => h.want (by decide) (by omega) hn) fun _ i3 h3 hne => ?_
            obtain ⟨rfl, hi3⟩ := wantT_le (by decide) h3
            refine bind_pre hne (fun hn => h.num (by omega) hn) fun n i4 h4 hne => ?_
            obtain ⟨g4, -, rfl⟩ := numT_ok h4
            have hi4 := tkA_kind (by decide) g4
            exact bind_pre hne (fun hn => h.want (by decide) (by omega) hn) fun _ i5 h5 hne => rfl
          · rename_i hv
            rw [if_neg hv] at hne
            split
            · rename_i ho
              rw [if_pos ho] at hne
              refine bind_pre hne (fun hn => h.want (by decide) (by omega) hn) fun _ i1 h1 hne => ?_
              obtain ⟨rfl, hi1⟩ := wantT_le (by decide) h1
              refine bind_pre hne (fun hn => Pre.expr h f f2 _ _ _ (by omega) (by omega) (by omega) hn) fun N i2 h2 hne => ?_
              obtain ⟨b1, b2⟩ := expr_lt h2
              exact bind_pre hne (fun hn => h.want (by decide) (by omega) hn) fun _ i3 h3 hne => rfl
            · rename_i ho
              rw [if_neg ho] at hne
              have hrow : ∀ (u : Bool), (∀ e, (((wantT T2 (i + 1) 3 [123]).bind fun _ j => rowsT (fun i x => exprT T2 f2 i x (deep + 1)) T2 u f2 j 0).bind fun r j => (.ok ((atE i x).br u (r.2 : Nat) :: r.1) j : Pr (List Ex))) ≠ .bad e T2.length) → (((wantT T (i + 1) 3 [123]).bind fun _ j => rowsT (fun i x => exprT T f i x (deep + 1)) T u f j 0).bind fun r j => (.ok ((atE i x).br u (r.2 : Nat) :: r.1) j : Pr (List Ex))) =
                  (((wantT T2 (i + 1) 3 [123]).bind fun _ j => rowsT (fun i x => exprT T2 f2 i x (deep + 1)) T2 u f2 j 0).bind fun r j => (.ok ((atE i x).br u (r.2 : Nat) :: r.1) j : Pr (List Ex))) := by
                intro u hne
                refine bind_pre hne (fun hn => ?_) fun r j h2 hne => rfl
                refine bind_pre hn (fun hn => h.want (by decide) (by omega) hn) fun _ i1 h1 hne => ?_
                obtain ⟨rfl, hi1⟩ := wantT_le (by decide) h1
                exact Pre.rows h (i0 := i + 1 + 1) (fun i x h0 hi hn => Pre.expr h f f2 i x _ hi (by omega) (by omega) hn) (fun i x N j hh => expr_lt hh) f f2 _ _ (Nat.le_refl _) (by omega) (by omega) (by omega) hne
              split
              · rename_i hu
                rw [if_pos hu] at hne
                exact hrow true hne
              · rename_i hu
                rw [if_neg hu] at hne
                split
                · rename_i hs
                  rw [if_pos hs] at hne
                  exact hrow false hne
                · rfl
theorem bind_congr' {α β : Type} {r : Pr α} {F F2 : α → Nat → Pr β} (hF : ∀ a j, r = .ok a j → F a j = F2 a j) : r.bind F = r.bind F2 := by
  cases r with
  | ok a i => exact hF a i rfl
  | bad e i => rfl
theorem defs_fuel {T : List Tk} : ∀ (g g2 i k : Nat), i ≤ T.length → T.length + 2 ≤ g + i → T.length + 2 ≤ g2 + i → defsT T g i k = defsT T g2 i k
  | 0, g2, i, k, hi, hg, hg2 => by omega
  | g + 1, 0, i, k, hi, hg, hg2 => by omega
  | g + 1, g2 + 1, i, k, hi, hg, hg2 => by
    rw [defsT_s, defsT_s]
    split
    · rfl
    · split
      · rfl
      · refine bind_congr' fun _ i1 h1 => ?_
        obtain ⟨rfl, hi1⟩ := wantT_le (by decide) h1
        refine bind_congr' fun s i2 h2 => ?_
        obtain ⟨g2', -, rfl⟩ := nameT_ok h2
        have := nmT_lt g2'
        refine bind_congr' fun _ i3 h3 => ?_
        obtain ⟨rfl, hi3⟩ := wantT_le (by decide) h3
        refine bind_congr' fun N j h4 => ?_
        obtain ⟨b1, b2⟩ := expr_lt h4
        refine bind_congr' fun _ i5 h5 => ?_
        obtain ⟨rfl, hi5⟩ := wantT_le (by decide) h5
        rw [defs_fuel g g2 (j + 1) (k + 1) (by omega) (by omega) (by omega)]
theorem Pr.bind_assoc {α β γ : Type} {r : Pr α} {F : α → Nat → Pr β} {G : β → Nat → Pr γ} : (r.bind F).bind G = r.bind fun a j => (F a j).bind G := by cases r <;> rfl
theorem Pre.defs {T T2 : List Tk} (h : Pre T T2) : ∀ (g g2 i k : Nat), i ≤ T2.length → T.length + 2 ≤ g + i → T2.length + 2 ≤ g2 + i → (∀ e, defsT T2 g2 i k ≠ .bad e T2.length) →
    defsT T g i k = (defsT T2 g2 i k).bind fun D _ => (defsT T (T.length + 2) T2.length (k + D.length)).bind fun D' j => .ok (D ++ D') j
  | 0, g2, i, k, hi, hg, hg2, hne => by have := h.le; omega
  | g + 1, 0, i, k, hi, hg, hg2, hne => by omega
  | g + 1, g2 + 1, i, k, hi, hg, hg2, hne => by
    rw [defsT_s (T := T2)] at hne
    rw [defsT_s (T := T2)]
    by_cases hi2 : T2.length ≤ i
    · have hie : i = T2.length := by omega
      rw [if_pos hi2, hie, defs_fuel (g + 1) (T.length + 2) T2.length k h.le (by omega) (by omega), Pr.bind_ok]
      show _ = (defsT T (T.length + 2) T2.length (k + 0)).bind fun D' j => .ok ([] ++ D') j
      rw [Nat.add_zero]
      cases defsT T (T.length + 2) T2.length k <;> rfl
    · have hlt : i < T2.length := by omega
      have hle := h.le
      rw [if_neg hi2] at hne ⊢
      rw [defsT_s, if_neg (by omega), h.tok i hlt]
      by_cases hnm : k = 256 ∧ isT (tkA T2 i) 1 [116, 121, 112, 101] = true
      · rw [if_pos hnm, if_pos hnm]; rfl
      · rw [if_neg hnm] at hne ⊢
        rw [if_neg hnm]
        simp only [Pr.bind_assoc]
        refine bind_pre2 hne (fun hn => h.want (by decide) (by omega) hn) fun _ i1 h1 hne => ?_
        obtain ⟨rfl, hi1⟩ := wantT_le (by decide) h1
        refine bind_pre2 hne (fun hn => h.name (by omega) hn) fun s i2 h2 hne => ?_
        obtain ⟨g2', -, rfl⟩ := nameT_ok h2
        have := nmT_lt g2'
        refine bind_pre2 hne (fun hn => h.want (by decide) (by omega) hn) fun _ i3 h3 hne => ?_
        obtain ⟨rfl, hi3⟩ := wantT_le (by decide) h3
        refine bind_pre2 hne (fun hn => h.expr _ _ _ _ _ (by omega) (by omega) (by omega) hn) fun N j h4 hne => ?_
        obtain ⟨b1, b2⟩ := expr_lt h4
        refine bind_pre2 hne (fun hn => h.want (by decide) (by omega) hn) fun _ i5 h5 hne => ?_
        obtain ⟨rfl, hi5⟩ := wantT_le (by decide) h5
        rw [Pre.defs h g g2 (j + 1) (k + 1) (by omega) (by omega) (by omega) (fun e he => hne e (by rw [he]; rfl))]
        rw [Pr.bind_assoc]
        refine bind_congr' fun D q hD => ?_
        simp only [Pr.bind_assoc, Pr.bind_ok, List.length_cons]
        rw [show k + 1 + D.length = k + (D.length + 1) by omega]
        refine bind_congr' fun D' q hD' => rfl

end Go.Proofs.Ytcljkkfpcomdcaa

set_option linter.unusedSimpArgs false
set_option linter.unusedVariables false
set_option maxRecDepth 100000
namespace Go.Proofs.Ytcljkkfpcomdcaa
open Go Go.Vc Go.RowKit Go.Proofs

def bareE (x : Ex) : Ex := { x with at_ := 0 }
def bareD (d : Df) : Df := ⟨d.name, 0, d.ty.map bareE⟩
theorem parseA_ok {xs : List UInt8} (h : (cutA xs).2.1 = 0) {D : List Df} {j : Nat} (hd : defsT (cutA xs).1 ((cutA xs).1.length + 2) 0 0 = .ok D j) : parseA xs = (D.map (plD (cutA xs).1), 0, 0) := by
  unfold parseA; rw [if_pos h, hd]
end Go.Proofs.Ytcljkkfpcomdcaa

set_option linter.unusedSimpArgs false
set_option linter.unusedVariables false
set_option maxRecDepth 100000
namespace Go.Proofs.Ytcljkkfpcomdcaa
open Go Go.Vc Go.RowKit Go.Proofs

theorem rset {f g : Nat → List Value} {s : Nat} (hs : ∀ j, (f j).length = s) {k o : Nat} (ho : o < s) (v : Value) (hg : ∀ j, g j = if j = k then (f k).set o v else f j) : ∀ n, k < n → ((List.range n).flatMap f).set (k * s + o) v = (List.range n).flatMap g := by
  have hl : ∀ n, ((List.range n).flatMap f).length = n * s := by
    intro n
    induction n with
    | zero => rw [Nat.zero_mul]; rfl
    | succ n ih => rw [List.range_succ, List.flatMap_append, List.length_append, ih, List.flatMap_singleton, hs, Nat.succ_mul]
  intro n
  induction n with
  | zero => intro h; omega
  | succ n ih =>
    intro h
    rw [List.range_succ, List.flatMap_append, List.flatMap_append, List.flatMap_singleton, List.flatMap_singleton]
    by_cases hk : k = n
    · subst hk
      rw [List.set_append_right _ _ (by rw [hl]; omega), hl, Nat.add_sub_cancel_left, hg k, if_pos rfl]
      congr 1
      exact (dfm_congr fun j hj => by rw [hg j, if_neg (by have := List.mem_range.1 hj; omega)]).symm
    · have h1 : (k + 1) * s ≤ n * s := Nat.mul_le_mul_right _ (by omega)
      rw [Nat.succ_mul] at h1
      rw [List.set_append_left _ _ (by rw [hl]; omega), ih (by omega), hg n, if_neg (fun e => hk e.symm)]
def setAt (D : List Df) (k : Nat) (z : Int) : List Df := D.set k { D.getD k df0 with at_ := z }
theorem setAt_len {D : List Df} {k : Nat} {z : Int} : (setAt D k z).length = D.length := List.length_set ..
theorem setAt_at {D : List Df} {k : Nat} {z : Int} (j : Nat) : (setAt D k z).getD j df0 = if j = k ∧ k < D.length then { D.getD k df0 with at_ := z } else D.getD j df0 := by
  rw [setAt, List.getD_eq_getElem?_getD, List.getElem?_set]
  by_cases h : k = j
  · subst h
    by_cases h2 : k < D.length
    · simp [h2]
    · simp [h2, List.getD_eq_getElem?_getD]
  · rw [if_neg h, if_neg (fun hh => h hh.1.symm), List.getD_eq_getElem?_getD]
theorem drows_setAt {D : List Df} {V : Nat → Value} {k : Nat} {z : Int} (hk : k < D.length) : (drows D V).set (k * 3 + 1) (.int .i64 z) = drows (setAt D k z) V := by
  rw [drows, drows, setAt_len]
  refine rset (s := 3) (o := 1) (fun _ => rfl) (by decide) _ (fun j => ?_) _ hk
  rw [setAt_at]
  by_cases h : j = k
  · rw [if_pos ⟨h, hk⟩, if_pos h, h]; rfl
  · rw [if_neg (fun hh => h hh.1), if_neg h]
theorem Defs.setAt {w w' : World} {H : Nat} {D : List Df} {lv : Value} {V : Nat → Value} (h : Defs w H D lv V) {k : Nat} {z : Int} (hk : k < D.length) (ho : Only (fun b => lv.ownBlock = some b) w w') (hr : w'.ownsRow H 40 3 lv D.length ((drows D V).set (k * 3 + 1) (.int .i64 z))) : Defs w' H (setAt D k z) lv V := by
  have ht : ∀ j, tyD (Go.Proofs.Ytcljkkfpcomdcaa.setAt D k z) j = tyD D j := fun j => by
    rw [tyD, setAt_at]
    split
    · rename_i hh; rw [hh.1]; rfl
    · rfl
  refine ⟨by rw [setAt_len, ← drows_setAt hk]; exact hr, ?_⟩
  rw [setAt_len]
  exact ((h.tys.other h.row (by decide) ho)).congr (fun _ _ => rfl) (fun j _ => by rw [ht j]) (fun j _ => by rw [ht j])
theorem exs_setAt {L : List Ex} : ∀ {j : Nat} {z : Int} (hj : j < L.length), (exs L).set (j * 7 + 6) (.int .i64 z) = exs (L.set j { L[j] with at_ := z }) := by
  induction L with
  | nil => intro j z hj; simp at hj
  | cons a l ih =>
    intro j z hj
    cases j with
    | zero => rfl
    | succ j =>
      rw [show exs (a :: l) = exV a ++ exs l from rfl, List.set_append_right _ _ (by show 7 ≤ _; omega), show (j + 1) * 7 + 6 - (exV a).length = j * 7 + 6 by show (j + 1) * 7 + 6 - 7 = _; omega, ih (by simpa using hj)]
      rfl
/-- the first k without places -/
def BareTo (D E : List Df) (k : Nat) : Prop := E.length = D.length ∧ (∀ i, i < k → E.getD i df0 = bareD (D.getD i df0)) ∧ ∀ i, k ≤ i → E.getD i df0 = D.getD i df0
def BareIn (D E : List Df) (k j : Nat) : Prop := E.length = D.length ∧ (∀ i, i < k → E.getD i df0 = bareD (D.getD i df0)) ∧ (∀ i, k < i → E.getD i df0 = D.getD i df0) ∧ E.getD k df0 = ⟨(D.getD k df0).name, 0, ((tyD D k).take j).map bareE ++ (tyD D k).drop j⟩
theorem BareIn.ty {D E : List Df} {k j : Nat} (h : BareIn D E k j) : tyD E k = ((tyD D k).take j).map bareE ++ (tyD D k).drop j := by
  rw [tyD, h.2.2.2]
theorem BareIn.len {D E : List Df} {k j : Nat} (h : BareIn D E k j) (hj : j ≤ (tyD D k).length) : (tyD E k).length = (tyD D k).length := by
  rw [h.ty, List.length_append, List.length_map, List.length_take, List.length_drop]; omega
theorem BareIn.step {D E : List Df} {k j : Nat} (h : BareIn D E k j) (hk : k < D.length) (hj : j < (tyD D k).length) (x : Ex) (hx : (tyD E k)[j]? = some x) : BareIn D (setE E k j { x with at_ := 0 }) k (j + 1) := by
  obtain ⟨h1, h2, h3, h4⟩ := h
  have hE : tyD E k = ((tyD D k).take j).map bareE ++ (tyD D k).drop j := by rw [tyD, h4]
  have hx2 : x = (tyD D k)[j] := by
    rw [hE, List.getElem?_append_right (by simp; omega)] at hx
    simp only [List.length_map, List.length_take, Nat.min_eq_left (Nat.le_of_lt hj), Nat.sub_self, List.getElem?_drop, Nat.add_zero, List.getElem?_eq_getElem hj, Option.some.injEq] at hx
    exact hx.symm
  refine ⟨by rw [setE_len, h1], fun i hi => ?_, fun i hi => ?_, ?_⟩
  · rw [setE_at, if_neg (by omega)]; exact h2 i hi
  · rw [setE_at, if_neg (by omega)]; exact h3 i hi
  · rw [setE_at, if_pos ⟨rfl, by omega⟩, hE, h4]
    simp only [Df.mk.injEq, true_and]
    rw [List.set_append_right _ _ (by simp; omega)]
    simp only [List.length_map, List.length_take, Nat.min_eq_left (Nat.le_of_lt hj), Nat.sub_self]
    rw [← List.getElem_cons_drop hj, List.set_cons_zero, List.take_add_one, List.getElem?_eq_getElem hj, List.map_append, List.append_assoc, hx2]
    rfl
theorem BareIn.done {D E : List Df} {k : Nat} (h : BareIn D E k (tyD D k).length) : BareTo D E (k + 1) := by
  obtain ⟨h1, h2, h3, h4⟩ := h
  refine ⟨h1, fun i hi => ?_, fun i hi => h3 i (by omega)⟩
  rcases Nat.lt_or_ge i k with hl | hl
  · exact h2 i hl
  · obtain rfl : i = k := by omega
    rw [h4, List.take_length, List.drop_length, List.append_nil]; rfl
theorem DOk.tyD {D : List Df} (h : DOk D) {k : Nat} (hk : k < D.length) : (tyD D k).length * 72 ≤ 140737488351232 := by
  rw [tyD_at hk]; exact h.ty _ (List.getElem_mem hk)
end Go.Proofs.Ytcljkkfpcomdcaa

set_option linter.unusedSimpArgs false
set_option linter.unusedVariables false
set_option maxRecDepth 100000
namespace Go.Proofs.Ytcljkkfpcomdcaa
open Go Go.Vc Go.RowKit Go.Proofs
/-- blanks and remarks; does a remark stand open at the end? -/
def gapS : Bool → List UInt8 → Option Bool
  | rm, [] => some rm
  | true, c :: cs => gapS (!decide (c.toNat = 10)) cs
  | false, c :: cs => if c.toNat = 35 then gapS true cs else if blankB c then gapS false cs else none
theorem gap_skip (xs : List UInt8) (m : Nat) (hm : m ≤ xs.length) (j : Nat) (hj : j ≤ m) (rm : Bool) (h : gapS rm ((xs.take m).drop j) = some false) : cutL xs (if rm then runL nnlB xs j else j) = cutL xs m := by
  by_cases hl : j < m
  · have h3 : j < (xs.take m).length := by simp; omega
    have hx : j < xs.length := by omega
    have hd : (xs.take m).drop j = xs[j] :: (xs.take m).drop (j + 1) := by
      rw [← List.getElem_cons_drop h3]; simp
    have hc := cutL_eq xs j
    rw [dif_pos hx] at hc
    rw [hd] at h
    cases rm with
    | true =>
      rw [gapS] at h
      by_cases h10 : (xs[j]).toNat = 10
      · simp [h10] at h
        have ih := gap_skip xs m hm (j + 1) (by omega) false h
        rw [if_pos rfl, runL_stop hx (by simp [nnlB, h10]), hc, if_neg (by omega), if_pos (by simp [blankB, h10])]
        exact ih
      · simp [h10] at h
        have ih := gap_skip xs m hm (j + 1) (by omega) true h
        rw [if_pos rfl, runL_go hx (by simp [nnlB, h10])]
        exact ih
    | false =>
      rw [gapS] at h
      rw [if_neg (by decide), hc]
      by_cases h35 : (xs[j]).toNat = 35
      · rw [if_pos h35] at h ⊢
        exact gap_skip xs m hm (j + 1) (by omega) true h
      · rw [if_neg h35] at h ⊢
        by_cases hb : blankB xs[j] = true
        · rw [if_pos hb] at h ⊢
          exact gap_skip xs m hm (j + 1) (by omega) false h
        · rw [if_neg hb] at h; cases h
  · have : j = m := by omega
    subst this
    rw [List.drop_eq_nil_of_le (by simp; omega)] at h
    cases rm with
    | true => cases h
    | false => rfl
termination_by m - j
theorem take_get {xs zs : List UInt8} {a k : Nat} (hp : zs.take a = xs.take a) (hk : k < a) (hx : k < xs.length) (hz : k < zs.length) : zs[k] = xs[k] := by
  have h1 : (zs.take a)[k]? = (xs.take a)[k]? := by rw [hp]
  simpa [List.getElem?_take, hk, hx, hz] using h1
theorem runL_front {p : UInt8 → Bool} {xs zs : List UInt8} {a : Nat} (hp : zs.take a = xs.take a) (hx : a ≤ xs.length) (hz : a ≤ zs.length) (k : Nat) (hk : k ≤ a) (hr : runL p xs k ≤ a)
    (hs : zs.length = a ∨ (∃ h : a < zs.length, p zs[a] = false) ∨ runL p xs k < a) : runL p zs k = runL p xs k := by
  by_cases hka : k < a
  · have he := take_get hp hka (by omega) (by omega)
    cases hc : p xs[k] with
    | true =>
      rw [runL_go (by omega) hc] at hr hs ⊢
      rw [runL_go (xs := zs) (by omega) (by rw [he]; exact hc)]
      exact runL_front hp hx hz (k + 1) (by omega) hr hs
    | false => rw [runL_stop (xs := xs) (by omega) hc, runL_stop (xs := zs) (by omega) (by rw [he]; exact hc)]
  · have hka : k = a := by omega
    subst hka
    have h1 := (runL_le (p := p) hx).1
    have h2 : runL p xs k = k := by omega
    rw [h2]
    rcases hs with hs | ⟨h, hs⟩ | hs
    · exact runL_end (by omega)
    · exact runL_stop h hs
    · omega
termination_by a - k
theorem sub_front {xs zs : List UInt8} {a : Nat} (hp : zs.take a = xs.take a) (l h : Nat) (hh : h ≤ a) : sub zs l h = sub xs l h := by
  unfold sub
  have : ∀ ys : List UInt8, ys.take h = (ys.take a).take h := fun ys => by rw [List.take_take, Nat.min_eq_left hh]
  rw [this zs, this xs, hp]
theorem oneL_front {xs zs : List UInt8} {a : Nat} (hp : zs.take a = xs.take a) (hx : a ≤ xs.length) (hz : a ≤ zs.length) (hs : zs.length = a ∨ ∃ h : a < zs.length, goeB zs[a] = false) (k : Nat) (hk : k < a) (hk1 : k < xs.length) (hk2 : k < zs.length)
    (h0 : (oneL xs k hk1).1 = 0) (hf : (oneL xs k hk1).2.fin ≤ a) : oneL zs k hk2 = oneL xs k hk1 := by
  have he := take_get hp hk hk1 hk2
  have st : ∀ p : UInt8 → Bool, (∀ c : UInt8, goeB c = false → p c = false) → runL p xs k ≤ a → runL p zs k = runL p xs k := fun p hp32 hr =>
    runL_front hp hx hz k (by omega) hr (by rcases hs with hs | ⟨h, hs⟩; exact .inl hs; exact .inr (.inl ⟨h, hp32 _ hs⟩))
  unfold oneL at h0 hf ⊢
  rw [he]
  by_cases h1 : letB xs[k] = true
  · rw [if_pos h1] at h0 hf ⊢
    rw [if_pos h1]
    have hr : runL goeB xs k ≤ a := by split at hf <;> exact hf
    have hg := st goeB (fun _ h => h) hr
    rw [hg, sub_front hp _ _ hr]
  · rw [if_neg h1] at h0 hf ⊢
    rw [if_neg h1]
    by_cases h2 : digB xs[k] = true
    · rw [if_pos h2] at h0 hf ⊢
      rw [if_pos h2]
      have hr : runL digB xs k ≤ a := hf
      have hg := st digB (by intro c hc; simp [goeB] at hc; exact hc.1.2) hr
      rw [hg, sub_front hp _ _ hr]
    · rw [if_neg h2] at h0 hf ⊢
      rw [if_neg h2]
      by_cases h3 : markB xs[k] = true
      · rw [if_pos h3] at h0 hf ⊢
        rw [if_pos h3]
        have hr : k + 1 ≤ a := hf
        rw [sub_front hp _ _ hr]
      · rw [if_neg h3] at h0; simp at h0


theorem oneL_in {xs : List UInt8} {k : Nat} {h : k < xs.length} (he : (oneL xs k h).1 = 0) : blankB xs[k] = false ∧ ¬ (xs[k]).toNat = 35 := by
  have h3 : letB xs[k] = true ∨ digB xs[k] = true ∨ markB xs[k] = true := by
    unfold oneL at he
    by_cases h1 : letB xs[k] = true
    · exact .inl h1
    · by_cases h2 : digB xs[k] = true
      · exact .inr (.inl h2)
      · by_cases h3 : markB xs[k] = true
        · exact .inr (.inr h3)
        · rw [if_neg h1, if_neg h2, if_neg h3] at he; cases he
  generalize xs[k] = c at h3
  rw [mark_or] at h3
  simp only [letB, digB, blankB, Bool.and_eq_true, Bool.or_eq_true, decide_eq_true_eq, Bool.or_eq_false_iff, decide_eq_false_iff_not] at h3 ⊢
  omega
/-- blanks, then a token's bytes: cut asx the token -/
theorem put_step (B F T Z : List UInt8) (t' : Tk) (hT : 0 < T.length) (h1 : gapS false F = some false) (hfr : ∀ h, oneL (T ++ Z) 0 h = (0, t')) (hf : t'.fin = T.length) :
    cutL (B ++ F ++ T ++ Z) B.length = (⟨t'.kind, t'.text, t'.n, B.length + F.length + t'.at_, B.length + F.length + T.length⟩ :: (cutL (B ++ F ++ T ++ Z) (B ++ F ++ T).length).1, (cutL (B ++ F ++ T ++ Z) (B ++ F ++ T).length).2) := by
  generalize hX : B ++ F ++ T ++ Z = X
  have hXl : X.length = B.length + F.length + T.length + Z.length := by subst hX; simp; omega
  have e1 : (X.take (B.length + F.length)).drop B.length = F := by
    subst hX
    rw [show B ++ F ++ T ++ Z = (B ++ F) ++ (T ++ Z) by simp, ← List.length_append, List.take_left, List.drop_left]
  have s1 := gap_skip X (B.length + F.length) (by omega) B.length (by omega) false (by rw [e1]; exact h1)
  rw [if_neg (by decide)] at s1
  have hdr : X.drop (B.length + F.length) = T ++ Z := by
    subst hX
    rw [show B ++ F ++ T ++ Z = (B ++ F) ++ (T ++ Z) by simp, ← List.length_append, List.drop_left]
  have hp : B.length + F.length + 0 < X.length := by omega
  have hq : 0 < (X.drop (B.length + F.length)).length := by simp; omega
  have hsh := oneL_shift X (B.length + F.length) 0 hp hq
  have hq2 : oneL (X.drop (B.length + F.length)) 0 hq = (0, t') := by
    have : ∀ (Y : List UInt8) (h : 0 < Y.length), Y = T ++ Z → oneL Y 0 h = (0, t') := by rintro Y h rfl; exact hfr h
    exact this _ _ hdr
  rw [hq2] at hsh
  have hs2 := hsh.2 rfl
  have hone : oneL X (B.length + F.length) (by omega) = (0, shiftT (B.length + F.length) t') := Prod.ext hsh.1 hs2
  obtain ⟨hbl, h35⟩ := oneL_in (by rw [hone])
  have hc := cutL_eq X (B.length + F.length)
  rw [dif_pos (by omega), if_neg h35, if_neg (by simp [hbl]), dif_pos (by rw [hone]), hone] at hc
  have hfin : (shiftT (B.length + F.length) t').fin = B.length + F.length + T.length := by show B.length + F.length + t'.fin = _; rw [hf]
  simp only [hfin] at hc
  rw [s1, hc, show (B ++ F ++ T).length = B.length + F.length + T.length by simp; omega]
  congr 1
  show Tk.mk _ _ _ _ _ :: _ = _
  congr 2
def Stops (Z : List UInt8) : Prop := Z = [] ∨ ∃ c cs, Z = c :: cs ∧ goeB c = false
theorem tok_front {T Z : List UInt8} {t' : Tk} {hT : 0 < T.length} (ho : oneL T 0 hT = (0, t')) (hf : t'.fin = T.length) (hZ : Stops Z) : ∀ h, oneL (T ++ Z) 0 h = (0, t') := by
  intro h
  have := oneL_front (xs := T) (zs := T ++ Z) (a := T.length) (by rw [List.take_left, List.take_length]) (Nat.le_refl _) (by simp) (by
    rcases hZ with rfl | ⟨c, cs, rfl, hg⟩
    · exact .inl (by simp)
    · exact .inr ⟨by simp, by simp [hg]⟩) 0 hT hT h (by rw [ho]) (by rw [ho]; exact Nat.le_of_eq hf)
  rw [this, ho]
def tkey (t : Tk) : Nat × List UInt8 × Nat := (t.kind, t.text, t.n)
end Go.Proofs.Ytcljkkfpcomdcaa

set_option linter.unusedSimpArgs false
set_option linter.unusedVariables false
set_option maxRecDepth 100000
namespace Go.Proofs.Ytcljkkfpcomdcaa
open Go Go.Vc Go.RowKit Go.Proofs

inductive Sy where
  | schema | name | number | type | field | arm | fields | arms | shut
  | tk (k : Nat) (s : List UInt8)
def syS : Sy → List UInt8
  | .schema => [40, 115, 99, 104, 101, 109, 97, 41]
  | .name => [40, 110, 97, 109, 101, 41]
  | .number => [40, 110, 117, 109, 98, 101, 114, 41]
  | .type => [40, 116, 121, 112, 101, 41]
  | .field => [40, 102, 105, 101, 108, 100, 41]
  | .arm => [40, 97, 114, 109, 41]
  | .fields => [40, 102, 105, 101, 108, 100, 115, 41]
  | .arms => [40, 97, 114, 109, 115, 41]
  | .shut => [40, 115, 104, 117, 116, 41]
  | .tk _ s => s
structure Rd where
  at_ : Nat
  stk : List Sy
  opn : List Nat
  defs : Nat
inductive Ou where
  | er (e : Nat)
  | go (s : Rd)
def insS (t : Tk) : List Sy :=
  if t.text = [118, 101, 99, 116, 111, 114] ∨ t.text = [108, 105, 115, 116] then [.tk 3 [60], .type, .tk 3 [44], .number, .tk 3 [62], .shut]
  else if t.text = [111, 112, 116, 105, 111, 110] then [.tk 3 [60], .type, .tk 3 [62], .shut]
  else if t.text = [117, 110, 105, 111, 110] then [.tk 3 [123], .arm, .arms, .shut]
  else if t.text = [115, 116, 114, 117, 99, 116] then [.tk 3 [123], .field, .fields, .shut]
  else []
def isR (t : Tk) (s : List UInt8) : Bool := !decide (t.kind = 2) && decide (t.text = s)
def bgnR (t : Tk) : Bool := decide (t.kind = 1) && !decide (t.text = [116, 121, 112, 101])
def moreO (o : List Nat) : List Nat := (o.headD 0 + 1) :: o.tail
def stepF (T : List Tk) (i : Nat) (y : Sy) (S : List Sy) (o : List Nat) (d : Nat) : Ou :=
  match y with
  | .shut => .go ⟨i, S, o.tail, d⟩
  | .schema => if i = T.length then .go ⟨i, S, o, d⟩ else if isR (tkA T i) [116, 121, 112, 101] = false then .er 60 else if 256 < d + 1 then .er 5 else .go ⟨i, .tk 1 [116, 121, 112, 101] :: .name :: .tk 3 [61] :: .type :: .tk 3 [59] :: .schema :: S, o, d + 1⟩
  | .type => if i = T.length then .er 60 else if bgnR (tkA T i) = false then .er 60 else if 16 < o.length then .er 61 else .go ⟨i + 1, insS (tkA T i) ++ S, if insS (tkA T i) = [] then o else 0 :: o, d⟩
  | .field => if i = T.length then .er 60 else if nmT (tkA T i) = false then .er 60 else if 64 < o.headD 0 + 1 then .er 5 else .go ⟨i, .name :: .tk 3 [58] :: .type :: S, moreO o, d⟩
  | .arm => if i = T.length then .er 60 else if (tkA T i).kind ≠ 2 then .er 60 else if 64 < o.headD 0 + 1 then .er 5 else .go ⟨i, .number :: .tk 3 [58] :: .type :: S, moreO o, d⟩
  | .fields => if i = T.length then .er 60 else if isR (tkA T i) [44] = true then .go ⟨i, .tk 3 [44] :: .field :: .fields :: S, o, d⟩ else .go ⟨i, .tk 3 [125] :: S, o, d⟩
  | .arms => if i = T.length then .er 60 else if isR (tkA T i) [44] = true then .go ⟨i, .tk 3 [44] :: .arm :: .arms :: S, o, d⟩ else .go ⟨i, .tk 3 [125] :: S, o, d⟩
  | .name => if i = T.length then .er 60 else if nmT (tkA T i) = false then .er 60 else .go ⟨i + 1, S, o, d⟩
  | .number => if i = T.length then .er 60 else if (tkA T i).kind ≠ 2 then .er 60 else .go ⟨i + 1, S, o, d⟩
  | .tk _ s => if i = T.length then .er 60 else if isR (tkA T i) s = false then .er 60 else .go ⟨i + 1, S, o, d⟩
def OkY : Sy → List Nat → Prop
  | .field, o => ∃ k o', o = k :: o' ∧ k ≤ 64
  | .arm, o => ∃ k o', o = k :: o' ∧ k ≤ 64
  | .shut, o => ∃ k o', o = k :: o'
  | .tk _ s, _ => s.head? ≠ some 40
  | _, _ => True
inductive Run (T : List Tk) : Rd → Nat → Nat → Nat → Prop
  | fin {i d : Nat} {o : List Nat} : Run T ⟨i, [], o, d⟩ 0 0 i
  | er {i d e : Nat} {y : Sy} {S : List Sy} {o : List Nat} (h : stepF T i y S o d = .er e) (hk : OkY y o) : Run T ⟨i, y :: S, o, d⟩ 1 e i
  | go {i d e k j : Nat} {y : Sy} {S : List Sy} {o : List Nat} {s : Rd} (h : stepF T i y S o d = .go s) (hr : Run T s k e j) (hk : OkY y o) : Run T ⟨i, y :: S, o, d⟩ (k + 1) e j
def Runs (T : List Tk) (s : Rd) (e j : Nat) : Prop := ∃ k, Run T s k e j
theorem Runs.step {T : List Tk} {i d e j : Nat} {y : Sy} {S : List Sy} {o : List Nat} {s : Rd} (h : stepF T i y S o d = .go s) (hr : Runs T s e j) (hy : OkY y o) : Runs T ⟨i, y :: S, o, d⟩ e j := by
  obtain ⟨k, hk⟩ := hr
  exact ⟨k + 1, .go h hk hy⟩
/-- what a parse says, the machine says -/
def Sim {α : Type} (T : List Tk) (r : Pr α) (s : Rd) (c : Nat → Rd) : Prop := match r with
  | .ok _ j => ∀ e q, Runs T (c j) e q → Runs T s e q
  | .bad e j => Runs T s e j
theorem Sim.bind {α β : Type} {T : List Tk} {r : Pr α} {F : α → Nat → Pr β} {s : Rd} {c c2 : Nat → Rd} (h : Sim T r s c) (hF : ∀ a j, r = .ok a j → Sim T (F a j) (c j) c2) : Sim T (r.bind F) s c2 := by
  cases r with
  | ok a j =>
    have h2 := hF a j rfl
    show Sim T (F a j) s c2
    cases hq : F a j with
    | ok b q => rw [hq] at h2; exact fun e p hp => h e p (h2 e p hp)
    | bad e q => rw [hq] at h2; exact h e q h2
  | bad e j => exact h
theorem Sim.go {α : Type} {T : List Tk} {r : Pr α} {i d : Nat} {y : Sy} {S : List Sy} {o : List Nat} {s : Rd} {c : Nat → Rd} (hs : stepF T i y S o d = .go s) (h : Sim T r s c) (hy : OkY y o := by trivial) : Sim T r ⟨i, y :: S, o, d⟩ c := by
  cases r with
  | ok b q => exact fun e p hp => Runs.step hs (h e p hp) hy
  | bad e q => exact Runs.step hs h hy
theorem Sim.er {α : Type} {T : List Tk} {i d e : Nat} {y : Sy} {S : List Sy} {o : List Nat} {c : Nat → Rd} (hs : stepF T i y S o d = .er e) (hy : OkY y o := by trivial) : Sim T (.bad e i : Pr α) ⟨i, y :: S, o, d⟩ c := ⟨1, .er hs hy⟩
theorem Sim.ok {α : Type} {T : List Tk} {a : α} {j : Nat} {s : Rd} {c : Nat → Rd} (h : c j = s) : Sim T (.ok a j) s c := fun e q hq => h ▸ hq
end Go.Proofs.Ytcljkkfpcomdcaa

set_option linter.unusedSimpArgs false
set_option linter.unusedVariables false
set_option maxRecDepth 100000
namespace Go.Proofs.Ytcljkkfpcomdcaa
open Go Go.Vc Go.RowKit Go.Proofs
def sySt (y : Sy) : Value := st (syS y)
structure RdM (w : World) (H p : Nat) (lv sv ov : Value) (T : List Tk) (s : Rd) : Prop where
  cell : w.heap[p]? = some (.cells #[lv, .int .i64 (s.at_ : Int), sv, ov, .int .i64 (s.defs : Int)] 92 (0, 0))
  toks : w.ownsRow 0 58 5 lv T.length (flat T)
  stk : w.ownsRow H 9 1 sv s.stk.length (s.stk.reverse.map sySt)
  opn : w.ownsRow H 3 1 ov s.opn.length (s.opn.reverse.map (fun k : Nat => Value.int .i64 (k : Int)))
  hp : H ≤ p
  lt : ∀ b, lv.ownBlock = some b → b < H
  le : H ≤ w.heap.size
theorem RdM.ext {w w' : World} {H p : Nat} {lv sv ov : Value} {T : List Tk} {s : Rd} (h : RdM w H p lv sv ov T s) (ho : Ext w w') : RdM w' H p lv sv ov T s :=
  ⟨ho.blk h.cell (fun h => h), own_ext h.toks ho, own_ext h.stk ho, own_ext h.opn ho, h.hp, h.lt, Nat.le_trans h.le ho.size⟩
theorem RdM.sp {w : World} {H p : Nat} {lv sv ov : Value} {T : List Tk} {s : Rd} (h : RdM w H p lv sv ov T s) : ¬ sv.ownBlock = some p := own_off h.stk h.cell (by decide)
theorem RdM.op {w : World} {H p : Nat} {lv sv ov : Value} {T : List Tk} {s : Rd} (h : RdM w H p lv sv ov T s) : ¬ ov.ownBlock = some p := own_off h.opn h.cell (by decide)
/-- the cell is written -/
theorem RdM.put {w w' : World} {H p i d : Nat} {lv sv ov sv2 ov2 : Value} {T : List Tk} {s : Rd} {S : List Sy} {o : List Nat} (h : RdM w H p lv sv ov T s) (hc : w'.heap[p]? = some (.cells #[lv, .int .i64 (i : Int), sv2, ov2, .int .i64 (d : Int)] 92 (0, 0))) (ho : Only (fun k => k = p) w w')
    (hs : w.ownsRow H 9 1 sv2 S.length (S.reverse.map sySt)) (hn : w.ownsRow H 3 1 ov2 o.length (o.reverse.map (fun k : Nat => Value.int .i64 (k : Int)))) : RdM w' H p lv sv2 ov2 T ⟨i, S, o, d⟩ :=
  ⟨hc, own_only h.toks ho (fun k hk he => by subst he; have := h.lt k hk; have := h.hp; omega), own_only hs ho (fun k hk he => by subst he; exact own_off hs h.cell (by decide) hk), own_only hn ho (fun k hk he => by subst he; exact own_off hn h.cell (by decide) hk), h.hp, h.lt, Nat.le_trans h.le ho.size⟩
end Go.Proofs.Ytcljkkfpcomdcaa

set_option linter.unusedSimpArgs false
set_option linter.unusedVariables false
set_option maxRecDepth 100000
namespace Go.Proofs.Ytcljkkfpcomdcaa
open Go Go.Vc Go.RowKit Go.Proofs

theorem RdM.hO {w w' : World} {H p : Nat} {lv sv ov : Value} {T : List Tk} {s : Rd} (h : RdM w H p lv sv ov T s) {w0 : World} (hO : Only (fun k => H ≤ k) w0 w) (ho : Only (fun k => k = p) w w') : Only (fun k => H ≤ k) w0 w' := hO.trans' ho (fun _ h => h) (fun k _ he => by subst he; exact h.hp)
theorem RdM.on {w : World} {H p : Nat} {lv sv ov : Value} {T : List Tk} {i d : Nat} {S : List Sy} {o : List Nat} (h : RdM w H p lv sv ov T ⟨i, S, o, d⟩) : w.ownsRow H 3 1 ov o.length (o.reverse.map (fun k : Nat => Value.int .i64 (k : Int))) := h.opn
theorem RdM.sn {w : World} {H p : Nat} {lv sv ov : Value} {T : List Tk} {i d : Nat} {S : List Sy} {o : List Nat} (h : RdM w H p lv sv ov T ⟨i, S, o, d⟩) : w.ownsRow H 9 1 sv S.length (S.reverse.map sySt) := h.stk
end Go.Proofs.Ytcljkkfpcomdcaa

set_option linter.unusedSimpArgs false
set_option linter.unusedVariables false
set_option maxRecDepth 100000
namespace Go.Proofs.Ytcljkkfpcomdcaa
open Go Go.Vc Go.RowKit Go.Proofs

def mk8 : List (List UInt8) := [[61], [59], [60], [62], [44], [58], [123], [125]]
def wt : Sy → Nat
  | .schema => 0
  | .shut => 0
  | .name => 1
  | .number => 1
  | .type => 1
  | .field => 3
  | .arm => 3
  | .fields => 1
  | .arms => 1
  | .tk _ _ => 1
def wtS : List Sy → Nat
  | [] => 0
  | y :: S => wt y + wtS S
def shuts : List Sy → Nat
  | [] => 0
  | .shut :: S => shuts S + 1
  | _ :: S => shuts S
def okS : Nat → List Sy → Prop
  | _, [] => True
  | _, .shut :: S => okS 5 S
  | _, .schema :: S => S = []
  | b, .fields :: S => 1 ≤ b ∧ (∃ S', S = .shut :: S') ∧ okS (b - 1) S
  | b, .arms :: S => 1 ≤ b ∧ (∃ S', S = .shut :: S') ∧ okS (b - 1) S
  | b, .field :: S => 3 ≤ b ∧ 0 < shuts S ∧ okS (b - 3) S
  | b, .arm :: S => 3 ≤ b ∧ 0 < shuts S ∧ okS (b - 3) S
  | b, .tk k s :: S => k = 3 ∧ s ∈ mk8 ∧ 1 ≤ b ∧ okS (b - 1) S
  | b, .name :: S => 1 ≤ b ∧ okS (b - 1) S
  | b, .number :: S => 1 ≤ b ∧ okS (b - 1) S
  | b, .type :: S => 1 ≤ b ∧ okS (b - 1) S
inductive Rch (T : List Tk) : Rd → Rd → Prop
  | refl {s : Rd} : Rch T s s
  | step {i d : Nat} {y : Sy} {S : List Sy} {o : List Nat} {s s2 : Rd} (h : stepF T i y S o d = .go s) (hy : OkY y o) (hn : ¬ (y = .schema ∧ i = T.length)) (hi : i ≤ T.length) (hr : Rch T s s2) : Rch T ⟨i, y :: S, o, d⟩ s2
theorem Rch.trans {T : List Tk} {a b c : Rd} (h : Rch T a b) (k : Rch T b c) : Rch T a c := by
  induction h with
  | refl => exact k
  | step h hy hn hi _ ih => exact .step h hy hn hi (ih k)
theorem tkA_app {T : List Tk} {t : Tk} {i : Nat} (h : i < T.length) : tkA (T ++ [t]) i = tkA T i := by
  rw [tkA, List.getD_eq_getElem?_getD, List.getElem?_append_left h, tkA, List.getD_eq_getElem?_getD]
theorem step_app {T : List Tk} {t : Tk} {i d : Nat} {y : Sy} {S : List Sy} {o : List Nat} {s : Rd} (h : stepF T i y S o d = .go s) (hn : ¬ (y = .schema ∧ i = T.length)) (hi : i ≤ T.length) : stepF (T ++ [t]) i y S o d = .go s := by
  by_cases he : i = T.length
  · cases y <;> simp only [stepF, if_pos he] at h <;> first | (cases h; done) | exact h | exact absurd ⟨rfl, he⟩ hn
  · have hl : i < T.length := by omega
    have h1 : ¬ i = (T ++ [t]).length := by simp; omega
    cases y <;> simp only [stepF, if_neg he, if_neg h1, tkA_app hl] at h ⊢ <;> exact h
theorem Rch.app {T : List Tk} {t : Tk} {a b : Rd} (h : Rch T a b) : Rch (T ++ [t]) a b := by
  induction h with
  | refl => exact .refl
  | step h hy hn hi _ ih => exact .step (step_app h hn hi) hy (fun hh => by have := hh.2; simp at this; omega) (by simp; omega) ih
/-- a state at the end that something must follow -/
structure StkE (y : Sy) (S : List Sy) (o : List Nat) : Prop where
  pos : 0 < wt y
  ok : okS 5 (y :: S)
  sh : shuts (y :: S) = o.length
  len : o.length ≤ 17
  val : ∀ k ∈ o, k ≤ 64
theorem StkE.oky {y : Sy} {S : List Sy} {o : List Nat} (h : StkE y S o) : OkY y o := by
  obtain ⟨hp, hok, hsh, hln, hvl⟩ := h
  have h1 : 0 < shuts S → shuts S = o.length → ∃ k o', o = k :: o' ∧ k ≤ 64 := fun h1 h2 => by
    cases o with
    | nil => simp only [List.length_nil] at h2; omega
    | cons k o => exact ⟨k, o, rfl, hvl k (List.mem_cons_self ..)⟩
  cases y <;> simp only [wt] at hp <;> simp only [okS] at hok <;> simp only [shuts] at hsh <;> simp only [OkY]
  case field => exact h1 hok.2.1 hsh
  case arm => exact h1 hok.2.1 hsh
  case tk k s => obtain ⟨-, h, -⟩ := hok; simp only [mk8, List.mem_cons, List.not_mem_nil, or_false] at h; rcases h with rfl | rfl | rfl | rfl | rfl | rfl | rfl | rfl <;> decide
  all_goals omega
/-- .. at the end, with nothing that must follow, it is done; else it is stuck -/
theorem settle {T : List Tk} : ∀ (S : List Sy) (o : List Nat) (d : Nat), okS 5 S → shuts S = o.length → o.length ≤ 17 → (∀ k ∈ o, k ≤ 64) → Runs T ⟨T.length, S, o, d⟩ 0 T.length ∨ ∃ y S' o', StkE y S' o' ∧ wtS (y :: S') ≤ wtS S ∧ Rch T ⟨T.length, S, o, d⟩ ⟨T.length, y :: S', o', d⟩ ∧ Runs T ⟨T.length, S, o, d⟩ 60 T.length
  | [], o, d, _, _, _, _ => .inl ⟨0, .fin⟩
  | y :: S, o, d, hok, hsh, hln, hvl => by
    by_cases hp : 0 < wt y
    · refine .inr ⟨y, S, o, ⟨hp, hok, hsh, hln, hvl⟩, Nat.le_refl _, .refl, ?_⟩
      refine ⟨1, .er ?_ (StkE.oky ⟨hp, hok, hsh, hln, hvl⟩)⟩
      cases y <;> first | (simp [stepF]; done) | (simp only [wt] at hp; omega)
    · cases y <;> simp only [wt] at hp <;> first | omega | skip
      · simp only [okS] at hok
        subst hok
        exact .inl ⟨1, .go (s := ⟨T.length, [], o, d⟩) (by simp [stepF]) .fin trivial⟩
      · simp only [okS] at hok
        simp only [shuts] at hsh
        cases o with
        | nil => simp only [List.length_nil] at hsh; omega
        | cons k o =>
          have hst : stepF T T.length .shut S (k :: o) d = .go ⟨T.length, S, o, d⟩ := rfl
          rcases settle S o d hok (by simpa using hsh) (by simp only [List.length_cons] at hln; omega) (fun m hm => hvl m (List.mem_cons_of_mem _ hm)) with h | ⟨y, S', o', h1, h2, h3, h4⟩
          · exact .inl (Runs.step hst h ⟨_, _, rfl⟩)
          · exact .inr ⟨y, S', o', h1, by simp only [wtS, wt] at h2 ⊢; omega, .step hst ⟨_, _, rfl⟩ (fun h => by cases h.1) (Nat.le_refl _) h3, Runs.step hst h4 ⟨_, _, rfl⟩⟩
end Go.Proofs.Ytcljkkfpcomdcaa

set_option linter.unusedSimpArgs false
set_option linter.unusedVariables false
set_option maxRecDepth 100000
namespace Go.Proofs.Ytcljkkfpcomdcaa
open Go Go.Vc Go.RowKit Go.Proofs

mutual
inductive Tr where
  | node (y : Ex) (ks : Trs)
inductive Trs where
  | nil
  | cons (t : Tr) (ts : Trs)
end
def Tr.top : Tr → Ex
  | .node y _ => y
def Trs.len : Trs → Nat
  | .nil => 0
  | .cons _ ts => ts.len + 1
mutual
def Tr.flat : Tr → List Ex
  | .node y ks => y :: ks.flat
def Trs.flat : Trs → List Ex
  | .nil => []
  | .cons t ts => t.flat ++ ts.flat
end
mutual
def Tr.wf (above : Int) (deep : Nat) : Tr → Prop
  | .node y ks => deep ≤ 16 ∧ manyB y = false ∧ rightB y above = true ∧ (ks.len : Int) = y.kids ∧ ks.wf y.kind (deep + 1)
def Trs.wf (above : Int) (deep : Nat) : Trs → Prop
  | .nil => True
  | .cons t ts => t.wf above deep ∧ ts.wf above deep
end
theorem chk_tr : ∀ (n : Nat) (L : List Ex), L.length ≤ n → ∀ (o : Opn) (S : List Opn) (k deep : Nat), 0 < o.left → o.deep = (deep : Int) → (chkE (o :: S) k L).2 = 0 →
    ∃ t rest, L = Tr.flat t ++ rest ∧ t.wf o.kind deep ∧ (chkE ({ o with left := o.left - 1 } :: S) (k + (Tr.flat t).length) rest).2 = 0 := by
  intro n
  induction n with
  | zero =>
    intro L hL o S k deep hl hd h
    have : L = [] := List.eq_nil_of_length_eq_zero (by omega)
    subst this
    rw [chkE_nil, if_pos (by simp [leftB, hl])] at h
    cases h
  | succ n ih =>
    intro L hL o S k deep hl hd h
    cases L with
    | nil =>
      rw [chkE_nil, if_pos (by simp [leftB, hl])] at h
      cases h
    | cons x xs =>
      rw [chkE_o (popZ_n (by omega))] at h
      by_cases h16 : 16 < o.deep
      · rw [if_pos h16] at h; cases h
      · rw [if_neg h16] at h
        by_cases hm : manyB x = true
        · rw [if_pos hm] at h; cases h
        · rw [if_neg hm] at h
          by_cases hr : rightB x o.kind = false
          · rw [if_pos hr] at h; cases h
          · rw [if_neg hr] at h
            have hm : manyB x = false := by simpa using hm
            have hr : rightB x o.kind = true := by simpa using hr
            obtain ⟨hk0, hk1⟩ := rightB_kids hr hm
            -- the kids
            have many : ∀ (m : Nat) (M : List Ex), M.length ≤ n → ∀ (o2 : Opn) (S2 : List Opn) (k2 : Nat), o2.left = (m : Int) → o2.deep = ((deep + 1 : Nat) : Int) → (chkE (o2 :: S2) k2 M).2 = 0 →
                ∃ ts rest, M = Trs.flat ts ++ rest ∧ ts.wf o2.kind (deep + 1) ∧ ts.len = m ∧ (chkE ({ o2 with left := 0 } :: S2) (k2 + (Trs.flat ts).length) rest).2 = 0 := by
              intro m
              induction m with
              | zero =>
                intro M hM o2 S2 k2 h1 h2 h3
                refine ⟨.nil, M, rfl, trivial, rfl, ?_⟩
                have : ({ o2 with left := 0 } : Opn) = o2 := by obtain ⟨a, b, c⟩ := o2; simp only at h1; simp [h1]
                rw [this]; exact h3
              | succ m ihm =>
                intro M hM o2 S2 k2 h1 h2 h3
                obtain ⟨t, rest, rfl, g2, g3⟩ := ih M hM o2 S2 k2 (deep + 1) (by omega) h2 h3
                have hlen : rest.length ≤ n := by rw [List.length_append] at hM; omega
                obtain ⟨ts, rest2, rfl, e2, e3, e4⟩ := ihm rest hlen { o2 with left := o2.left - 1 } S2 _ (by simp only; omega) h2 g3
                exact ⟨.cons t ts, rest2, by simp [Trs.flat], ⟨g2, e2⟩, by simp only [Trs.len, e3], by simp only [Trs.flat, List.length_append]; rw [← Nat.add_assoc]; exact e4⟩
            obtain ⟨ts, rest, rfl, e2, e3, e4⟩ := many x.kids.toNat xs (by simpa using hL) ⟨x.kind, x.kids, o.deep + 1⟩ _ _ (by simp only; omega) (by simp only; omega) h
            refine ⟨.node x ts, rest, by simp [Tr.flat], ⟨by omega, hm, hr, by omega, e2⟩, ?_⟩
            rw [chkE_pz0] at e4
            simp only [Tr.flat, List.length_cons]
            rw [show k + ((Trs.flat ts).length + 1) = k + 1 + (Trs.flat ts).length by omega]
            exact e4
/-- what Check takes is a tree -/
theorem chkT_tr {l : List Ex} (h : (chkT l).2 = 0) : ∃ t : Tr, l = t.flat ∧ t.wf 0 0 := by
  obtain ⟨t, rest, h1, h2, h3⟩ := chk_tr l.length l (Nat.le_refl _) ⟨0, 1, 0⟩ [] 0 0 (by decide) rfl h
  have hr : rest = [] := by
    cases rest with
    | nil => rfl
    | cons x xs =>
      rw [chkE_z (by simp [popZ])] at h3
      cases h3
  subst hr
  exact ⟨t, by rw [h1, List.append_nil], h2⟩
abbrev Key := Nat × List UInt8 × Nat
def kN (s : List UInt8) : Key := (1, s, 0)
def kM (s : List UInt8) : Key := (3, s, 0)
def kD (n : Nat) : Key := (2, [], n)
def uWord (n : Int) : List UInt8 := if n = 1 then [117, 56] else if n = 2 then [117, 49, 54] else if n = 4 then [117, 51, 50] else [117, 54, 52]
def hdK (u : Bool) (y : Ex) : List Key := [if u then kD y.tag.toNat else kN y.label, kM [58]]
mutual
def Tr.keys : Tr → List Key
  | .node y ks =>
    if y.kind = 1 then [kN (uWord y.n)]
    else if y.kind = 2 then [kN [98, 111, 111, 108]]
    else if y.kind = 3 then [kN [118, 97, 114, 105, 110, 116]]
    else if y.kind = 9 then [kN y.name]
    else if y.kind = 4 ∨ y.kind = 5 then kN (if y.kind = 5 then [108, 105, 115, 116] else [118, 101, 99, 116, 111, 114]) :: kM [60] :: (ks.keys ++ [kM [44], kD y.n.toNat, kM [62]])
    else if y.kind = 6 then kN [111, 112, 116, 105, 111, 110] :: kM [60] :: (ks.keys ++ [kM [62]])
    else kN (if y.kind = 7 then [117, 110, 105, 111, 110] else [115, 116, 114, 117, 99, 116]) :: kM [123] :: (ks.rows (decide (y.kind = 7)) ++ [kM [125]])
/-- of types one behind the other -/
def Trs.keys : Trs → List Key
  | .nil => []
  | .cons t ts => t.keys ++ ts.keys
/-- of rows, a comma ahead of each but the first -/
def Trs.rows (u : Bool) : Trs → List Key
  | .nil => []
  | .cons t ts => hdK u t.top ++ t.keys ++ ts.more u
def Trs.more (u : Bool) : Trs → List Key
  | .nil => []
  | .cons t ts => kM [44] :: (hdK u t.top ++ t.keys ++ ts.more u)
end

end Go.Proofs.Ytcljkkfpcomdcaa

set_option linter.unusedSimpArgs false
set_option linter.unusedVariables false
set_option maxRecDepth 100000
namespace Go.Proofs.Ytcljkkfpcomdcaa
open Go Go.Vc Go.RowKit Go.Proofs

mutual
def Tr.idx (i a : Nat) : Tr → List Ex
  | .node y ks => { y with at_ := (a : Int) } :: (if y.kind = 7 ∨ y.kind = 8 then ks.idxR (i + 2) else ks.idxK (i + 2))
def Trs.idxK (i : Nat) : Trs → List Ex
  | .nil => []
  | .cons t ts => t.idx i i ++ ts.idxK (i + t.keys.length)
def Trs.idxR (i : Nat) : Trs → List Ex
  | .nil => []
  | .cons t ts => t.idx (i + 2) i ++ ts.idxR (i + 2 + t.keys.length + 1)
end
def AtK (T : List Tk) (i : Nat) (ks : List Key) : Prop := ∀ k (h : k < ks.length), tkey (tkA T (i + k)) = ks[k]
theorem AtK.cons {T : List Tk} {i : Nat} {a : Key} {ks : List Key} (h : AtK T i (a :: ks)) : tkey (tkA T i) = a ∧ AtK T (i + 1) ks :=
  ⟨h 0 (by simp), fun k hk => by have := h (k + 1) (by simpa using hk); rw [show i + 1 + k = i + (k + 1) by omega]; exact this⟩
theorem AtK.app {T : List Tk} {i : Nat} {a b : List Key} (h : AtK T i (a ++ b)) : AtK T i a ∧ AtK T (i + a.length) b :=
  ⟨fun k hk => by have := h k (by rw [List.length_append]; omega); rw [this, List.getElem_append_left hk], fun k hk => by
    have := h (a.length + k) (by rw [List.length_append]; omega)
    rw [Nat.add_assoc, this, List.getElem_append_right (by omega)]; simp⟩
theorem key_N {t : Tk} {s : List UInt8} (h : tkey t = kN s) : t.kind = 1 ∧ t.text = s ∧ t.n = 0 := by
  simp only [tkey, kN, Prod.mk.injEq] at h; exact h
theorem key_M {t : Tk} {s : List UInt8} (h : tkey t = kM s) : isT t 3 s = true := by
  simp only [tkey, kM, Prod.mk.injEq] at h; simp [isT, h.1, h.2.1]
theorem key_D {t : Tk} {n : Nat} (h : tkey t = kD n) : t.kind = 2 ∧ t.n = n := by
  simp only [tkey, kD, Prod.mk.injEq] at h; exact ⟨h.1, h.2.2⟩
theorem more_rows {u : Bool} {t : Tr} {ts : Trs} : (Trs.cons t ts).more u = kM [44] :: (Trs.cons t ts).rows u := rfl
theorem name_not {s : List UInt8} (h : nameB s = true) : leafE s = none ∧ ¬ (s = [118, 101, 99, 116, 111, 114] ∨ s = [108, 105, 115, 116]) ∧ ¬ s = [111, 112, 116, 105, 111, 110] ∧ ¬ s = [117, 110, 105, 111, 110] ∧ ¬ s = [115, 116, 114, 117, 99, 116] := by
  have h2 : ∀ x ∈ words, ¬ s = x := fun x hx he => by
    subst he
    have : wordB s = true := decide_eq_true hx
    simp [nameB, this] at h
  refine ⟨?_, ?_, h2 _ (by decide), h2 _ (by decide), h2 _ (by decide)⟩
  · unfold leafE
    rw [if_neg (h2 _ (by decide)), if_neg (h2 _ (by decide)), if_neg (h2 _ (by decide)), if_neg (h2 _ (by decide)), if_neg (h2 _ (by decide)), if_neg (h2 _ (by decide))]
  · exact fun h => h.elim (h2 _ (by decide)) (h2 _ (by decide))
theorem okB_cases {x : Ex} (h : okB x = true) : (x.kind = 1 ∧ (x.n = 1 ∨ x.n = 2 ∨ x.n = 4 ∨ x.n = 8) ∧ x.kids = 0) ∨ ((x.kind = 2 ∨ x.kind = 3 ∨ x.kind = 9) ∧ x.n = 0 ∧ x.kids = 0) ∨ ((x.kind = 4 ∨ x.kind = 5) ∧ 0 ≤ x.n ∧ x.n ≤ 2147483647 ∧ x.kids = 1) ∨ (x.kind = 6 ∧ x.n = 0 ∧ x.kids = 1) ∨ ((x.kind = 7 ∨ x.kind = 8) ∧ x.n = 0 ∧ 1 ≤ x.kids) := by
  unfold okB at h
  repeat' split at h
  all_goals first | (cases h; done) | (simp only [Bool.and_eq_true, Bool.or_eq_true, decide_eq_true_eq] at h; omega)
theorem trs_one {ts : Trs} (h : ts.len = 1) : ∃ t, ts = .cons t .nil := by
  cases ts with
  | nil => cases h
  | cons t ts => cases ts with
    | nil => exact ⟨t, rfl⟩
    | cons t2 ts2 => simp only [Trs.len] at h; omega
theorem trs_nil {ts : Trs} (h : ts.len = 0) : ts = .nil := by
  cases ts with
  | nil => rfl
  | cons t ts => simp only [Trs.len] at h; omega
theorem rightB_iff {x : Ex} {a : Int} (h : rightB x a = true) : okB x = true ∧ namB x = true ∧ labB x a = true ∧ tagB x a = true := by
  simp only [rightB, Bool.and_eq_true] at h; exact ⟨h.1.1.1, h.1.1.2, h.1.2, h.2⟩
mutual
theorem px_tr {T : List Tk} : ∀ (t : Tr) (above : Int) (deep i a : Nat) (x : Ex), t.wf above deep → AtK T i t.keys → atE i x = ⟨0, 0, [], t.top.label, t.top.tag, 0, (a : Int)⟩ → PX T none deep i x (t.idx i a) 0 (i + t.keys.length)
  | .node y ks, above, deep, i, a, x, hw, hk, hx => by
    obtain ⟨hd, hm, hr, hl, hks⟩ := hw
    obtain ⟨hok, hnm, -, -⟩ := rightB_iff hr
    simp only [Tr.top] at hx
    rcases okB_cases hok with ⟨k1, hn, k0⟩ | ⟨k1, hn, k0⟩ | ⟨k1, hn, hn2, k0⟩ | ⟨k1, hn, k0⟩ | ⟨k1, hn, k0⟩
    · have hnil := trs_nil (ts := ks) (by omega)
      subst hnil
      simp only [Tr.keys, if_pos k1] at hk ⊢
      obtain ⟨h1, h2, -⟩ := key_N hk.cons.1
      have hname : y.name = [] := by unfold namB at hnm; rw [if_neg (by omega)] at hnm; simpa using hnm
      have hlf : leafE (tkA T i).text = some (1, y.n) := by rw [h2]; rcases hn with e | e | e | e <;> (rw [e]; rfl)
      have hb : bgnT (tkA T i) = true := by simp [bgnT, h1, hlf]
      have hN : [(atE i x).lf 1 y.n] = Tr.idx i a (.node y .nil) := by
        rw [hx]; obtain ⟨a1, a2, a3, a4, a5, a6, a7⟩ := y
        simp only at k1 k0 hname; subst k1 k0 hname; simp [Tr.idx, Trs.idxK, Ex.lf]
      rw [← hN]
      exact .leaf (kn := (1, y.n)) hb hd hlf
    · have hnil := trs_nil (ts := ks) (by omega)
      subst hnil
      rcases k1 with k1 | k1 | k1
      · simp only [Tr.keys, if_neg (show ¬ y.kind = 1 by omega), if_pos k1] at hk ⊢
        obtain ⟨h1, h2, -⟩ := key_N hk.cons.1
        have hname : y.name = [] := by unfold namB at hnm; rw [if_neg (by omega)] at hnm; simpa using hnm
        have hlf : leafE (tkA T i).text = some (2, 0) := by rw [h2]; rfl
        have hb : bgnT (tkA T i) = true := by simp [bgnT, h1, hlf]
        have hN : [(atE i x).lf 2 0] = Tr.idx i a (.node y .nil) := by
          rw [hx]; obtain ⟨a1, a2, a3, a4, a5, a6, a7⟩ := y
          simp only at k1 k0 hname hn; subst k1 k0 hname hn; simp [Tr.idx, Trs.idxK, Ex.lf]
        rw [← hN]
        exact .leaf (kn := (2, 0)) hb hd hlf
      · simp only [Tr.keys, if_neg (show ¬ y.kind = 1 by omega), if_neg (show ¬ y.kind = 2 by omega), if_pos k1] at hk ⊢
        obtain ⟨h1, h2, -⟩ := key_N hk.cons.1
        have hname : y.name = [] := by unfold namB at hnm; rw [if_neg (by omega)] at hnm; simpa using hnm
        have hlf : leafE (tkA T i).text = some (3, 0) := by rw [h2]; rfl
        have hb : bgnT (tkA T i) = true := by simp [bgnT, h1, hlf]
        have hN : [(atE i x).lf 3 0] = Tr.idx i a (.node y .nil) := by
          rw [hx]; obtain ⟨a1, a2, a3, a4, a5, a6, a7⟩ := y
          simp only at k1 k0 hname hn; subst k1 k0 hname hn; simp [Tr.idx, Trs.idxK, Ex.lf]
        rw [← hN]
        exact .leaf (kn := (3, 0)) hb hd hlf
      · simp only [Tr.keys, if_neg (show ¬ y.kind = 1 by omega), if_neg (show ¬ y.kind = 2 by omega), if_neg (show ¬ y.kind = 3 by omega), if_pos k1] at hk ⊢
        obtain ⟨h1, h2, -⟩ := key_N hk.cons.1
        have hname : nameB y.name = true := by unfold namB at hnm; rw [if_pos k1] at hnm; exact hnm
        obtain ⟨n1, n2, n3, n4, n5⟩ := name_not hname
        have hb : bgnT (tkA T i) = true := by simp [bgnT, h1, h2, hname]
        have hN : [(atE i x).nm (tkA T i).text] = Tr.idx i a (.node y .nil) := by
          rw [hx, h2]; obtain ⟨a1, a2, a3, a4, a5, a6, a7⟩ := y
          simp only at k1 k0 hn; subst k1 k0 hn; simp [Tr.idx, Trs.idxK, Ex.nm]
        rw [← hN]
        exact .nm hb hd (by rw [h2]; exact n1) (by rw [h2]; exact n2) (by rw [h2]; exact n3) (by rw [h2]; exact n4) (by rw [h2]; exact n5)
    · obtain ⟨t, rfl⟩ := trs_one (ts := ks) (by omega)
      simp only [Tr.keys, if_neg (show ¬ y.kind = 1 by omega), if_neg (show ¬ y.kind = 2 by omega), if_neg (show ¬ y.kind = 3 by omega), if_neg (show ¬ y.kind = 9 by omega), if_pos k1, Trs.keys, List.append_nil] at hk ⊢
      obtain ⟨q1, hk⟩ := hk.cons
      obtain ⟨q2, hk⟩ := hk.cons
      obtain ⟨hkt, hk⟩ := hk.app
      obtain ⟨q3, hk⟩ := hk.cons
      obtain ⟨q4, hk⟩ := hk.cons
      obtain ⟨q5, -⟩ := hk.cons
      obtain ⟨h1, h2, -⟩ := key_N q1
      obtain ⟨d1, d2⟩ := key_D q4
      have hv : (tkA T i).text = [118, 101, 99, 116, 111, 114] ∨ (tkA T i).text = [108, 105, 115, 116] := by rw [h2]; by_cases e : y.kind = 5 <;> simp [e]
      have hlf : leafE (tkA T i).text = none := by rcases hv with e | e <;> (rw [e]; rfl)
      have hb : bgnT (tkA T i) = true := by rcases hv with e | e <;> simp [bgnT, h1, e]
      have hname : y.name = [] := by unfold namB at hnm; rw [if_neg (by omega)] at hnm; simpa using hnm
      have hkid := px_tr t y.kind (deep + 1) (i + 2) (i + 2) exM hks.1 hkt (by
        obtain ⟨-, -, g1, g2⟩ := rightB_iff (show rightB t.top y.kind = true by cases t; exact hks.1.2.2.1)
        unfold labB at g1; rw [if_neg (by omega)] at g1
        have e1 : t.top.label = [] := by simpa using g1
        have e2 : t.top.tag = 0 := by
          unfold tagB at g2
          simp only [Bool.or_eq_true, Bool.and_eq_true, decide_eq_true_eq] at g2
          rcases g2 with g2 | g2
          · exact g2
          · omega
        rw [e1, e2]; rfl)
      have hN : (atE i x).vec (decide ((tkA T i).text = [108, 105, 115, 116])) (tkA T (i + 2 + t.keys.length + 1)).n :: t.idx (i + 2) (i + 2) = Tr.idx i a (.node y (.cons t .nil)) := by
        have hdl : decide ((tkA T i).text = [108, 105, 115, 116]) = decide (y.kind = 5) := by rw [h2]; by_cases e : y.kind = 5 <;> simp [e]
        rw [hdl, d2, hx]
        simp only [Tr.idx, Trs.idxK, if_neg (show ¬ (y.kind = 7 ∨ y.kind = 8) by omega), List.append_nil, Ex.vec]
        congr 1
        obtain ⟨a1, a2, a3, a4, a5, a6, a7⟩ := y
        simp only at k1 k0 hname hn hn2 ⊢
        subst k0 hname
        rw [Ex.mk.injEq]
        refine ⟨?_, by omega, rfl, rfl, rfl, rfl, rfl⟩
        rcases k1 with e | e <;> simp [e]
      rw [← hN]
      have := PX.vec (x := x) hb hd hlf hv (key_M q2) hkid (key_M q3) d1 (key_M q5)
      simp only [List.length_cons, List.length_append, List.length_nil]
      rw [show i + (t.keys.length + (0 + 1 + 1 + 1) + 1 + 1) = i + 2 + t.keys.length + 3 by omega]
      exact this
    · obtain ⟨t, rfl⟩ := trs_one (ts := ks) (by omega)
      simp only [Tr.keys, if_neg (show ¬ y.kind = 1 by omega), if_neg (show ¬ y.kind = 2 by omega), if_neg (show ¬ y.kind = 3 by omega), if_neg (show ¬ y.kind = 9 by omega), if_neg (show ¬ (y.kind = 4 ∨ y.kind = 5) by omega), if_pos k1, Trs.keys, List.append_nil] at hk ⊢
      obtain ⟨q1, hk⟩ := hk.cons
      obtain ⟨q2, hk⟩ := hk.cons
      obtain ⟨hkt, hk⟩ := hk.app
      obtain ⟨q3, -⟩ := hk.cons
      obtain ⟨h1, h2, -⟩ := key_N q1
      have hlf : leafE (tkA T i).text = none := by rw [h2]; rfl
      have hb : bgnT (tkA T i) = true := by simp [bgnT, h1, h2]
      have hname : y.name = [] := by unfold namB at hnm; rw [if_neg (by omega)] at hnm; simpa using hnm
      have hkid := px_tr t y.kind (deep + 1) (i + 2) (i + 2) exM hks.1 hkt (by
        obtain ⟨-, -, g1, g2⟩ := rightB_iff (show rightB t.top y.kind = true by cases t; exact hks.1.2.2.1)
        unfold labB at g1; rw [if_neg (by omega)] at g1
        have e1 : t.top.label = [] := by simpa using g1
        have e2 : t.top.tag = 0 := by
          unfold tagB at g2
          simp only [Bool.or_eq_true, Bool.and_eq_true, decide_eq_true_eq] at g2
          rcases g2 with g2 | g2
          · exact g2
          · omega
        rw [e1, e2]; rfl)
      have hN : (atE i x).opt :: t.idx (i + 2) (i + 2) = Tr.idx i a (.node y (.cons t .nil)) := by
        rw [hx]
        simp only [Tr.idx, Trs.idxK, if_neg (show ¬ (y.kind = 7 ∨ y.kind = 8) by omega), List.append_nil, Ex.opt]
        congr 1
        obtain ⟨a1, a2, a3, a4, a5, a6, a7⟩ := y
        simp only at k1 k0 hname hn ⊢
        subst k0 hname hn k1
        rfl
      rw [← hN]
      have := PX.opt (x := x) hb hd hlf h2 (key_M q2) hkid (key_M q3)
      simp only [List.length_cons, List.length_append, List.length_nil]
      rw [show i + (t.keys.length + (0 + 1) + 1 + 1) = i + 2 + t.keys.length + 1 by omega]
      exact this
    · have hm64 : y.kids ≤ 64 := (rightB_kids hr hm).2
      obtain ⟨u, hu⟩ : ∃ u : Bool, u = decide (y.kind = 7) := ⟨_, rfl⟩
      have hku : y.kind = if u then 7 else 8 := by rcases k1 with e | e <;> simp [hu, e]
      simp only [Tr.keys, if_neg (show ¬ y.kind = 1 by omega), if_neg (show ¬ y.kind = 2 by omega), if_neg (show ¬ y.kind = 3 by omega), if_neg (show ¬ y.kind = 9 by omega), if_neg (show ¬ (y.kind = 4 ∨ y.kind = 5) by omega), if_neg (show ¬ y.kind = 6 by omega), ← hu] at hk ⊢
      obtain ⟨q1, hk⟩ := hk.cons
      obtain ⟨q2, hk⟩ := hk.cons
      obtain ⟨h1, h2, -⟩ := key_N q1
      have hw2 : (tkA T i).text = if u then [117, 110, 105, 111, 110] else [115, 116, 114, 117, 99, 116] := by rw [h2]; rcases k1 with e | e <;> simp [hu, e]
      have hlf : leafE (tkA T i).text = none := by rw [hw2]; cases u <;> rfl
      have hb : bgnT (tkA T i) = true := by rw [bgnT, hw2]; cases u <;> simp [h1]
      have hname : y.name = [] := by unfold namB at hnm; rw [if_neg (by omega)] at hnm; simpa using hnm
      have hrow := px_trs ks u deep (i + 2) 0 (fun e => by rw [e] at hl; simp only [Trs.len] at hl; omega) (by omega) (by rw [← hku]; exact hks) hk
      have hN : (atE i x).br u ((0 + ks.len : Nat) : Int) :: ks.idxR (i + 2) = Tr.idx i a (.node y ks) := by
        rw [hx]
        simp only [Tr.idx, if_pos k1, Ex.br]
        congr 1
        obtain ⟨a1, a2, a3, a4, a5, a6, a7⟩ := y
        simp only at k1 k0 hname hn hku hl ⊢
        subst hname hn
        rw [Ex.mk.injEq]
        exact ⟨hku.symm, rfl, rfl, rfl, rfl, by omega, rfl⟩
      rw [← hN]
      have := PX.br (x := x) u hb hd hlf hw2 (key_M q2) hrow
      simp only [List.length_cons, List.length_append, List.length_nil]
      rw [show i + ((ks.rows u).length + (0 + 1) + 1 + 1) = i + 2 + (ks.rows u).length + 1 by omega]
      exact this
theorem px_trs {T : List Tk} : ∀ (ts : Trs) (u : Bool) (deep i k : Nat), ts ≠ .nil → k + ts.len ≤ 64 → ts.wf (if u then 7 else 8) (deep + 1) → AtK T i (ts.rows u ++ [kM [125]]) → PX T (some (u, k)) deep i ex0 (ts.idxR i) (k + ts.len) (i + (ts.rows u).length + 1)
  | .nil, u, deep, i, k, hne, _, _, _ => absurd rfl hne
  | .cons t ts, u, deep, i, k, hne, hlen, hw, hk => by
    simp only [Trs.rows, List.append_assoc] at hk ⊢
    obtain ⟨hkh, hk⟩ := hk.app
    have hhl : (hdK u t.top).length = 2 := rfl
    rw [hhl] at hk
    obtain ⟨hkt, hk⟩ := hk.app
    have q1 := hkh.cons.1
    have q2 := hkh.cons.2.cons.1
    have hrt := rightB_iff (show rightB t.top (if u then 7 else 8) = true by cases t; exact hw.1.2.2.1)
    obtain ⟨-, -, g1, g2⟩ := hrt
    have hh : hdOk T u i := by
      cases u
      · obtain ⟨e1, e2, -⟩ := key_N q1
        unfold labB at g1
        have g1 : nameB t.top.label = true := by simpa using g1
        show nmT (tkA T i) = true
        simp [nmT, e1, e2, g1]
      · exact (key_D q1).1
    have hx : atE (i + 2) (hdE T u i) = ⟨0, 0, [], t.top.label, t.top.tag, 0, (i : Int)⟩ := by
      have ha : ¬ ((i : Int)) < 0 := by omega
      cases u
      · obtain ⟨e1, e2, -⟩ := key_N q1
        have e3 : t.top.tag = 0 := by
          unfold tagB at g2
          simpa using g2
        simp only [atE, hdE, ex0, ha, if_false, Bool.false_eq_true, e2, e3]
      · obtain ⟨e1, e2⟩ := key_D q1
        have e3 : t.top.label = [] := by unfold labB at g1; simpa using g1
        have e4 : (t.top.tag.toNat : Int) = t.top.tag := by
          unfold tagB at g2
          simp only [Bool.or_eq_true, Bool.and_eq_true, decide_eq_true_eq] at g2
          omega
        simp only [atE, hdE, ex0, ha, if_false, if_true, e2, e3, e4]
    have hkid := px_tr t _ (deep + 1) (i + 2) i (hdE T u i) hw.1 hkt hx
    simp only [Trs.len] at hlen ⊢
    cases ts with
    | nil =>
      simp only [Trs.more, List.nil_append] at hk ⊢
      have q3 := key_M hk.cons.1
      have hc : isT (tkA T (i + 2 + t.keys.length)) 3 [44] = false := by
        simp only [isT, Bool.and_eq_true, decide_eq_true_eq] at q3
        simp [isT, q3.2]
      have := PX.last (show k < 64 by simp only [Trs.len] at hlen; omega) hh (key_M q2) hkid hc q3
      simp only [Trs.idxR, Trs.len, List.append_nil, List.length_append, hhl, List.length_nil]
      rw [show i + (2 + t.keys.length) + 1 = i + 2 + t.keys.length + 1 by omega]
      exact this
    | cons t2 ts2 =>
      rw [more_rows] at hk ⊢
      obtain ⟨q3, hk⟩ := hk.cons
      have hrest := px_trs (.cons t2 ts2) u deep (i + 2 + t.keys.length + 1) (k + 1) (fun h => by cases h) (by omega) hw.2 hk
      have := PX.more (show k < 64 by omega) hh (key_M q2) hkid (key_M q3) hrest
      rw [show (Trs.cons t (.cons t2 ts2)).idxR i = t.idx (i + 2) i ++ (Trs.cons t2 ts2).idxR (i + 2 + t.keys.length + 1) from rfl]
      simp only [List.length_append, List.length_cons, hhl]
      rw [show k + ((Trs.cons t2 ts2).len + 1) = k + 1 + (Trs.cons t2 ts2).len by omega, show i + (2 + (t.keys.length + (((Trs.cons t2 ts2).rows u).length + 1))) + 1 = i + 2 + t.keys.length + 1 + ((Trs.cons t2 ts2).rows u).length + 1 by omega]
      exact this
end

end Go.Proofs.Ytcljkkfpcomdcaa

set_option linter.unusedSimpArgs false
set_option linter.unusedVariables false
set_option maxRecDepth 100000
namespace Go.Proofs.Ytcljkkfpcomdcaa
open Go Go.Vc Go.RowKit Go.Proofs

theorem want_is {T : List Tk} {i k : Nat} {s : List UInt8} (h : isT (tkA T i) k s = true) : wantT T i k s = .ok () (i + 1) := by unfold wantT; rw [if_pos h]
theorem num_is {T : List Tk} {i : Nat} (h : (tkA T i).kind = 2) : numT T i = .ok (tkA T i).n (i + 1) := by unfold numT; rw [if_pos h]
theorem name_is {T : List Tk} {i : Nat} (h : nmT (tkA T i) = true) : nameT T i = .ok (tkA T i).text (i + 1) := by unfold nameT; rw [if_pos h]
theorem head_is {T : List Tk} {u : Bool} {i k : Nat} (hk : k < 64) (hh : hdOk T u i) : headT T u (decide (k = 64)) i { ex0 with at_ := i } = .ok (hdE T u i) (i + 1) := by
  have h0 : decide (k = 64) = false := decide_eq_false (by omega)
  cases u
  · rw [headT_s, if_neg (by simp [h0]), name_is hh, Pr.bind_ok]; rfl
  · rw [headT_u, if_neg (by simp [h0]), num_is hh, Pr.bind_ok]; rfl
def PxM (T : List Tk) (r : Option (Bool × Nat)) (deep i : Nat) (x : Ex) (N : List Ex) (n j : Nat) : Prop := match r with
  | none => ∀ f, T.length + 2 ≤ f + i → exprT T f i x deep = .ok N j
  | some (u, k) => ∀ f g, T.length + 1 ≤ f + i → T.length + 2 ≤ g + i → rowsT (fun i x => exprT T f i x (deep + 1)) T u g i k = .ok (N, n) j
theorem px_expr {T : List Tk} {r : Option (Bool × Nat)} {deep i : Nat} {x : Ex} {N : List Ex} {n j : Nat} (h : PX T r deep i x N n j) : PxM T r deep i x N n j := by
  induction h with
  | @leaf deep i x kn hb hd hl =>
    intro f hf
    have hil := tkA_kind (by decide) (bgn_kind hb)
    obtain ⟨f, rfl⟩ : ∃ g, f = g + 1 := ⟨f - 1, by omega⟩
    rw [exprT_s, if_neg (by simp [hb]), if_neg (by omega), hl]
  | @nm deep i x hb hd hl hv ho hu hs =>
    intro f hf
    have hil := tkA_kind (by decide) (bgn_kind hb)
    obtain ⟨f, rfl⟩ : ∃ g, f = g + 1 := ⟨f - 1, by omega⟩
    rw [exprT_s, if_neg (by simp [hb]), if_neg (by omega), hl]
    simp only
    rw [if_neg hv, if_neg ho, if_neg hu, if_neg hs]
  | @vec deep i x N j hb hd hl hv h1 hN h2 h3 h4 ih =>
    intro f hf
    have hil := tkA_kind (by decide) (bgn_kind hb)
    obtain ⟨f, rfl⟩ : ∃ g, f = g + 1 := ⟨f - 1, by omega⟩
    rw [exprT_s, if_neg (by simp [hb]), if_neg (by omega), hl]
    simp only
    rw [if_pos hv, want_is h1, Pr.bind_ok, ih f (by omega), Pr.bind_ok, want_is h2, Pr.bind_ok, num_is h3, Pr.bind_ok, want_is h4, Pr.bind_ok]
  | @opt deep i x N j hb hd hl ho h1 hN h2 ih =>
    intro f hf
    have hil := tkA_kind (by decide) (bgn_kind hb)
    obtain ⟨f, rfl⟩ : ∃ g, f = g + 1 := ⟨f - 1, by omega⟩
    have hv : ¬ ((tkA T i).text = [118, 101, 99, 116, 111, 114] ∨ (tkA T i).text = [108, 105, 115, 116]) := by rw [ho]; decide
    rw [exprT_s, if_neg (by simp [hb]), if_neg (by omega), hl]
    simp only
    rw [if_neg hv, if_pos ho, want_is h1, Pr.bind_ok, ih f (by omega), Pr.bind_ok, want_is h2, Pr.bind_ok]
  | @br deep i x u M n j hb hd hl hw h1 hM ih =>
    intro f hf
    have hil := tkA_kind (by decide) (bgn_kind hb)
    have hil2 := isT_lt (by decide) h1
    obtain ⟨f, rfl⟩ : ∃ g, f = g + 1 := ⟨f - 1, by omega⟩
    have hv : ¬ ((tkA T i).text = [118, 101, 99, 116, 111, 114] ∨ (tkA T i).text = [108, 105, 115, 116]) := by rw [hw]; cases u <;> decide
    have ho : ¬ (tkA T i).text = [111, 112, 116, 105, 111, 110] := by rw [hw]; cases u <;> decide
    rw [exprT_s, if_neg (by simp [hb]), if_neg (by omega), hl]
    simp only
    rw [if_neg hv, if_neg ho]
    have := ih f f (by omega) (by omega)
    cases u
    · rw [if_neg (by rw [hw]; decide), if_pos (by rw [hw]; rfl), want_is h1, Pr.bind_ok, this, Pr.bind_ok]
    · rw [if_pos (by rw [hw]; rfl), want_is h1, Pr.bind_ok, this, Pr.bind_ok]
  | @last deep i u k N j hk hh hc hN hm hr ih =>
    intro f g hf hg
    have hil := isT_lt (by decide) hc
    obtain ⟨g, rfl⟩ : ∃ q, g = q + 1 := ⟨g - 1, by omega⟩
    rw [rowsT_s, head_is hk hh, Pr.bind_ok, want_is hc, Pr.bind_ok, ih f (by omega), Pr.bind_ok, if_neg (by simp [hm]), want_is hr, Pr.bind_ok]
  | @more deep i u k N M j n e hk hh hc hN hm hR ih1 ih2 =>
    intro f g hf hg
    have hil := isT_lt (by decide) hc
    have hij := (px_rise hN).1
    obtain ⟨g, rfl⟩ : ∃ q, g = q + 1 := ⟨g - 1, by omega⟩
    rw [rowsT_s, head_is hk hh, Pr.bind_ok, want_is hc, Pr.bind_ok, ih1 f (by omega), Pr.bind_ok, if_pos hm, ih2 f g (by omega) (by omega), Pr.bind_ok]
theorem pd_defs {T : List Tk} {i k : Nat} {D : List Df} (h : PD T i k D) : ∀ g, i ≤ T.length → T.length + 2 ≤ g + i → ∃ j, defsT T g i k = .ok D j := by
  induction h with
  | @nil i k h hk =>
    intro g hi hg
    obtain ⟨g, rfl⟩ : ∃ q, g = q + 1 := ⟨g - 1, by omega⟩
    exact ⟨i, by rw [defsT_s, if_pos h]⟩
  | @cons i k j N D hk h0 h1 h2 hN h3 hD ih =>
    intro g hi hg
    have hil := isT_lt (by decide) h0
    have hij := (px_rise hN).1
    have hjl := isT_lt (by decide) h3
    obtain ⟨g, rfl⟩ : ∃ q, g = q + 1 := ⟨g - 1, by omega⟩
    obtain ⟨q, hq⟩ := ih g (by omega) (by omega)
    refine ⟨q, ?_⟩
    rw [defsT_s, if_neg (by omega), if_neg (by omega), want_is h0, Pr.bind_ok, name_is h1, Pr.bind_ok, want_is h2, Pr.bind_ok, px_expr hN _ (by omega), Pr.bind_ok, want_is h3, Pr.bind_ok, hq, Pr.bind_ok]
abbrev DefT := List UInt8 × Tr
def defK (p : DefT) : List Key := kN [116, 121, 112, 101] :: kN p.1 :: kM [61] :: (p.2.keys ++ [kM [59]])
def defsK : List DefT → List Key
  | [] => []
  | p :: l => defK p ++ defsK l
def defIdx (i : Nat) : List DefT → List Df
  | [] => []
  | p :: l => ⟨p.1, ((i + 1 : Nat) : Int), p.2.idx (i + 3) (i + 3)⟩ :: defIdx (i + (defK p).length) l
def DefW (p : DefT) : Prop := nameB p.1 = true ∧ p.2.wf 0 0
theorem wf_top {t : Tr} {a : Int} {deep : Nat} (h : t.wf a deep) : rightB t.top a = true := by cases t; exact h.2.2.1
theorem top_plain {t : Tr} {a : Int} {deep : Nat} (h : t.wf a deep) (h7 : ¬ a = 7) (h8 : ¬ a = 8) : t.top.label = [] ∧ t.top.tag = 0 := by
  obtain ⟨-, -, g1, g2⟩ := rightB_iff (wf_top h)
  unfold labB at g1; rw [if_neg h8] at g1
  refine ⟨by simpa using g1, ?_⟩
  unfold tagB at g2
  simp only [Bool.or_eq_true, Bool.and_eq_true, decide_eq_true_eq] at g2
  rcases g2 with g2 | g2
  · exact g2
  · exact absurd g2.1.1 h7
theorem key_ty {t : Tk} (h : tkey t = kN [116, 121, 112, 101]) : isT t 1 [116, 121, 112, 101] = true := by
  obtain ⟨h1, h2, -⟩ := key_N h; simp [isT, h1, h2]
theorem pd_of {T : List Tk} : ∀ (l : List DefT) (i k : Nat), (∀ p ∈ l, DefW p) → k + l.length ≤ 256 → AtK T i (defsK l) → T.length = i + (defsK l).length → PD T i k (defIdx i l)
  | [], i, k, _, hk, _, hl => .nil (by simp only [defsK, List.length_nil] at hl; omega) (by simpa using hk)
  | p :: l, i, k, hw, hk, hat, hl => by
    obtain ⟨hn, ht⟩ := hw p (List.mem_cons_self ..)
    simp only [defsK] at hat hl
    obtain ⟨h1, h2⟩ := hat.app
    simp only [defK] at h1
    obtain ⟨q1, h1⟩ := h1.cons
    obtain ⟨q2, h1⟩ := h1.cons
    obtain ⟨q3, h1⟩ := h1.cons
    obtain ⟨h3, h4⟩ := h1.app
    have q4 := h4.cons.1
    obtain ⟨e1, e2, -⟩ := key_N q2
    have hnm : nmT (tkA T (i + 1)) = true := by simp [nmT, e1, e2, hn]
    obtain ⟨p1, p2⟩ := top_plain ht (by decide) (by decide)
    have hX := px_tr p.2 0 0 (i + 3) (i + 3) exM ht h3 (by rw [p1, p2]; rfl)
    have hdl : (defK p).length = p.2.keys.length + 4 := by simp [defK]
    have ih := pd_of l (i + (defK p).length) (k + 1) (fun q hq => hw q (List.mem_cons_of_mem _ hq)) (by simp only [List.length_cons] at hk; omega) h2 (by rw [List.length_append] at hl; omega)
    have hjj : i + 3 + p.2.keys.length + 1 = i + (defK p).length := by omega
    have := PD.cons (by simp only [List.length_cons] at hk; omega) (key_ty q1) hnm (key_M q3) hX (key_M q4) (hjj ▸ ih)
    rw [e2, hjj] at this
    exact this
/-- a text whose tokens are those of checked definitions -/
theorem parse_keys {xs : List UInt8} {T : List Tk} {l : List DefT} (hc : cutA xs = (T, 0, 0)) (hk : T.map tkey = defsK l) (hw : ∀ p ∈ l, DefW p) (hl : l.length ≤ 256) : parseA xs = ((defIdx 0 l).map (plD T), 0, 0) := by
  have hlen : T.length = (defsK l).length := by rw [← hk, List.length_map]
  have hat : AtK T 0 (defsK l) := fun k h => by
    have h2 : (T.map tkey)[k]? = (defsK l)[k]? := by rw [hk]
    rw [List.getElem?_map, List.getElem?_eq_getElem (by omega), List.getElem?_eq_getElem h] at h2
    simp only [Option.map_some, Option.some.injEq] at h2
    rw [Nat.zero_add, tkA_lt (by omega)]
    exact h2
  obtain ⟨j, hj⟩ := pd_defs (pd_of l 0 0 hw (by omega) hat (by omega)) (T.length + 2) (Nat.zero_le _) (by omega)
  have h0 : (cutA xs).2.1 = 0 := by rw [hc]
  have := @parseA_ok xs h0 (defIdx 0 l) j (by rw [hc]; exact hj)
  rw [hc] at this
  exact this
/-- what Check takes: names and trees -/
theorem chkA_trees : ∀ (D : List Df) (i : Nat), (chkA i D).2.2 = 0 → ∃ l : List DefT, (∀ p ∈ l, DefW p) ∧ D.map (fun d => (d.name, d.ty)) = l.map (fun p => (p.1, p.2.flat))
  | [], _, _ => ⟨[], fun p h => (by cases h), rfl⟩
  | d :: D, i, h => by
    rw [chkA_cons] at h
    by_cases h1 : nameB d.name = false
    · rw [if_pos h1] at h; cases h
    · rw [if_neg h1] at h
      by_cases h2 : (chkT d.ty).2 = 0
      · rw [if_pos h2] at h
        obtain ⟨l, g1, g2⟩ := chkA_trees D (i + 1) h
        obtain ⟨t, t1, t2⟩ := chkT_tr h2
        refine ⟨(d.name, t) :: l, fun p hp => ?_, ?_⟩
        · rcases List.mem_cons.1 hp with rfl | hp
          · exact ⟨by simpa using h1, t2⟩
          · exact g1 p hp
        · rw [List.map_cons, List.map_cons, g2, t1]
      · rw [if_neg h2] at h; exact absurd h h2
theorem chkS_trees {D : List Df} (h : (chkS D).2.2 = 0) : D.length ≤ 256 ∧ ∃ l : List DefT, (∀ p ∈ l, DefW p) ∧ D.map (fun d => (d.name, d.ty)) = l.map (fun p => (p.1, p.2.flat)) := by
  unfold chkS at h
  by_cases hl : 256 < D.length
  · rw [if_pos hl] at h; cases h
  · rw [if_neg hl] at h
    exact ⟨by omega, chkA_trees D 0 h⟩

end Go.Proofs.Ytcljkkfpcomdcaa

set_option linter.unusedSimpArgs false
set_option linter.unusedVariables false
set_option maxRecDepth 100000
namespace Go.Proofs.Ytcljkkfpcomdcaa
open Go Go.Vc Go.RowKit Go.Proofs

def digL (n : Nat) : List UInt8 := if n < 10 then [UInt8.ofNat (48 + n)] else digL (n / 10) ++ [UInt8.ofNat (48 + n % 10)]
termination_by n
decreasing_by omega
theorem digL_lt {n : Nat} (h : n < 10) : digL n = [UInt8.ofNat (48 + n)] := by rw [digL, if_pos h]
theorem digL_ge {n : Nat} (h : ¬ n < 10) : digL n = digL (n / 10) ++ [UInt8.ofNat (48 + n % 10)] := by rw [digL, if_neg h]
theorem d8 {k : Nat} (h : k < 10) : (UInt8.ofNat (48 + k)).toNat = 48 + k := by simp; omega
theorem digL_dig : ∀ n, (digL n).all digB = true := by
  intro n
  induction n using Nat.strongRecOn with
  | _ n ih =>
    by_cases h : n < 10
    · rw [digL_lt h]; simp only [List.all_cons, List.all_nil, Bool.and_true, digB, d8 h]; simp; omega
    · rw [digL_ge h, List.all_append, ih (n / 10) (by omega)]
      simp only [List.all_cons, List.all_nil, Bool.and_true, digB, d8 (show n % 10 < 10 by omega)]; simp; omega
theorem valF_snoc (n : Nat) (xs : List UInt8) (c : UInt8) : valF n (xs ++ [c]) = 10 * valF n xs + (c.toNat - 48) := by
  simp only [valF, List.foldl_append, List.foldl_cons, List.foldl_nil]
theorem digL_val : ∀ n, valF 0 (digL n) = n := by
  intro n
  induction n using Nat.strongRecOn with
  | _ n ih =>
    by_cases h : n < 10
    · rw [digL_lt h, show [UInt8.ofNat (48 + n)] = [] ++ [UInt8.ofNat (48 + n)] from rfl, valF_snoc, d8 h]
      show 10 * 0 + _ = n; omega
    · rw [digL_ge h, valF_snoc, ih (n / 10) (by omega), d8 (show n % 10 < 10 by omega)]; omega
theorem digL_head : ∀ n, 1 ≤ n → ∃ c cs, digL n = c :: cs ∧ 49 ≤ c.toNat := by
  intro n
  induction n using Nat.strongRecOn with
  | _ n ih =>
    intro h1
    by_cases h : n < 10
    · exact ⟨_, _, digL_lt h, by rw [d8 h]; omega⟩
    · obtain ⟨c, cs, g1, g2⟩ := ih (n / 10) (by omega) (by omega)
      exact ⟨c, cs ++ [UInt8.ofNat (48 + n % 10)], by rw [digL_ge h, g1]; rfl, g2⟩
theorem digL_pos (n : Nat) : 0 < (digL n).length := by
  by_cases h : n < 10
  · rw [digL_lt h]; exact Nat.one_pos
  · rw [digL_ge h]; simp
theorem digL_num {n : Nat} (h : n ≤ 2147483647) : numL (digL n) = (n, 0) := by
  have hl : lead (digL n) = false := by
    by_cases h0 : n < 10
    · rw [digL_lt h0]; rfl
    · obtain ⟨c, cs, g1, g2⟩ := digL_head n (by omega)
      rw [g1]
      have : ¬ c.toNat = 48 := by omega
      simp [lead, this]
  rw [numL_val _ hl, digL_val, if_pos h]
def Own (b : List UInt8) (k : Key) : Prop := ∃ hT : 0 < b.length, oneL b 0 hT = (0, ⟨k.1, k.2.1, k.2.2, 0, b.length⟩)
theorem sub_whole (b : List UInt8) : sub b 0 b.length = b := by unfold sub; simp
theorem own_name {s : List UInt8} (h1 : s.head?.any letB = true) (h2 : s.length ≤ 32) (h3 : s.all goeB = true) : Own s (kN s) := by
  cases s with
  | nil => cases h1
  | cons c cs =>
    have hT : 0 < (c :: cs).length := by simp
    have hc : letB (c :: cs)[0] = true := h1
    have hr : runL goeB (c :: cs) 0 = (c :: cs).length := (runL_all goeB _).2 h3
    refine ⟨hT, ?_⟩
    unfold oneL
    rw [if_pos hc, hr, if_neg (by omega), sub_whole]
    rfl
theorem own_nameB {s : List UInt8} (h : nameB s = true) : Own s (kN s) := by
  simp only [nameB, Bool.and_eq_true, decide_eq_true_eq] at h
  exact own_name h.1.1.2 h.1.1.1.2 h.1.2
theorem own_num {n : Nat} (h : n ≤ 2147483647) : Own (digL n) (kD n) := by
  have hT := digL_pos n
  have hd : digB (digL n)[0] = true := List.all_eq_true.1 (digL_dig n) _ (List.getElem_mem hT)
  have hl : ¬ letB (digL n)[0] = true := by
    generalize (digL n)[0] = c at hd
    simp only [digB, letB, Bool.and_eq_true, decide_eq_true_eq] at hd ⊢
    omega
  have hr : runL digB (digL n) 0 = (digL n).length := (runL_all digB _).2 (digL_dig n)
  refine ⟨hT, ?_⟩
  unfold oneL
  rw [if_neg hl, if_pos hd, hr, sub_whole, digL_num h]
  rfl
theorem mark_goe {c : UInt8} (h : markB c = true) : goeB c = false ∧ letB c = false ∧ digB c = false := by
  rw [mark_or] at h
  simp only [Bool.or_eq_true, decide_eq_true_eq] at h
  simp only [goeB, letB, digB, Bool.or_eq_false_iff, Bool.and_eq_false_iff, decide_eq_false_iff_not]
  omega
theorem own_mark {c : UInt8} (h : markB c = true) (Z : List UInt8) : ∀ hT, oneL ([c] ++ Z) 0 hT = (0, ⟨3, [c], 0, 0, 1⟩) := by
  intro hT
  obtain ⟨h1, h2, h3⟩ := mark_goe h
  unfold oneL
  rw [if_neg (by show ¬ letB c = true; simp [h2]), if_neg (by show ¬ digB c = true; simp [h3]), if_pos (show markB ([c] ++ Z)[0] = true from h)]
  rfl
def Cut2 (bs : List UInt8) (us : List Tk) (m : Bool) : Prop := ∀ Z, (m = true ∨ Stops Z) → cutL (bs ++ Z) 0 = (us ++ (cutL (bs ++ Z) bs.length).1, (cutL (bs ++ Z) bs.length).2)
theorem c2_nil : Cut2 [] [] true := fun Z _ => rfl
theorem Cut2.weak {bs : List UInt8} {us : List Tk} {m : Bool} (h : Cut2 bs us m) : Cut2 bs us false := fun Z hZ => h Z (.inr (hZ.resolve_left (by decide)))
theorem Cut2.gap {bs F : List UInt8} {us : List Tk} {m : Bool} (h : Cut2 bs us m) (hg : gapS false F = some false) (hF : ∃ c cs, F = c :: cs ∧ goeB c = false) : Cut2 (bs ++ F) us true := by
  intro Z _
  obtain ⟨c, cs, rfl, hc⟩ := hF
  have h1 := h ((c :: cs) ++ Z) (.inr (.inr ⟨c, cs ++ Z, rfl, hc⟩))
  rw [← List.append_assoc] at h1
  have e1 : ((bs ++ (c :: cs) ++ Z).take (bs ++ (c :: cs)).length).drop bs.length = c :: cs := by rw [List.take_left, List.drop_left]
  have s1 := gap_skip (bs ++ (c :: cs) ++ Z) (bs ++ (c :: cs)).length (by simp) bs.length (by simp) false (by rw [e1]; exact hg)
  rw [if_neg (by decide)] at s1
  rw [h1, s1]
def tkP (p : Nat) (b : List UInt8) (k : Key) : Tk := ⟨k.1, k.2.1, k.2.2, p, p + b.length⟩
theorem tkP_key (p : Nat) (b : List UInt8) (k : Key) : tkey (tkP p b k) = k := rfl
theorem Cut2.tok {bs b : List UInt8} {us : List Tk} {k : Key} (h : Cut2 bs us true) (ho : Own b k) : Cut2 (bs ++ b) (us ++ [tkP bs.length b k]) false := by
  intro Z hZ
  have hZ := hZ.resolve_left (by decide)
  obtain ⟨hT, ho⟩ := ho
  have h1 := h (b ++ Z) (.inl rfl)
  rw [← List.append_assoc] at h1
  have h2 := put_step bs [] b Z _ hT rfl (tok_front ho rfl hZ) rfl
  simp only [List.append_nil, List.length_nil, Nat.add_zero] at h2
  rw [h1, h2]
  simp only [tkP, List.append_assoc, List.cons_append, List.nil_append]
theorem Cut2.mark {bs : List UInt8} {us : List Tk} {m : Bool} (h : Cut2 bs us m) (c : UInt8) (hc : markB c = true) : Cut2 (bs ++ [c]) (us ++ [tkP bs.length [c] (kM [c])]) true := by
  intro Z _
  have h1 := h ([c] ++ Z) (.inr (.inr ⟨c, Z, rfl, (mark_goe hc).1⟩))
  rw [← List.append_assoc] at h1
  have h2 := put_step bs [] [c] Z _ (by simp) rfl (own_mark hc Z) rfl
  simp only [List.append_nil, List.length_nil, Nat.add_zero] at h2
  rw [h1, h2]
  simp only [tkP, kM, List.append_assoc, List.cons_append, List.nil_append, List.length_singleton]
theorem Cut2.done {bs : List UInt8} {us : List Tk} {m : Bool} (h : Cut2 bs us m) : cutL bs 0 = (us, 0, 0) := by
  have := h [] (.inr (.inl rfl))
  rw [List.append_nil, show cutL bs bs.length = ([], 0, 0) by rw [cutL_eq, dif_neg (by omega)], List.append_nil] at this
  exact this

end Go.Proofs.Ytcljkkfpcomdcaa

set_option linter.unusedSimpArgs false
set_option linter.unusedVariables false
set_option maxRecDepth 100000
namespace Go.Proofs.Ytcljkkfpcomdcaa
open Go Go.Vc Go.RowKit Go.Proofs

def wrHead (s first : Bool) (y : Ex) (bs : List UInt8) : List UInt8 := (if first then bs else bs ++ [44]) ++ (if s then y.label ++ [58, 32] else digL y.tag.toNat ++ [58])
mutual
def Tr.wr (bs : List UInt8) : Tr → List UInt8
  | .node y ks =>
    if y.kind = 1 then bs ++ ([117] ++ digL (8 * y.n).toNat)
    else if y.kind = 2 then bs ++ [98, 111, 111, 108]
    else if y.kind = 3 then bs ++ [118, 97, 114, 105, 110, 116]
    else if y.kind = 9 then bs ++ y.name
    else if y.kind = 4 ∨ y.kind = 5 then ks.wrK (bs ++ (if y.kind = 4 then [118, 101, 99, 116, 111, 114, 60] else [108, 105, 115, 116, 32, 60])) ++ ([44, 32] ++ digL y.n.toNat ++ [62])
    else if y.kind = 6 then ks.wrK (bs ++ [111, 112, 116, 105, 111, 110, 60]) ++ [62]
    else ks.wrR (decide (y.kind = 8)) true (bs ++ (if y.kind = 8 then [115, 116, 114, 117, 99, 116, 32, 123] else [117, 110, 105, 111, 110, 123])) ++ [125]
def Trs.wrK (bs : List UInt8) : Trs → List UInt8
  | .nil => bs
  | .cons t ts => ts.wrK (t.wr bs)
def Trs.wrR (s first : Bool) (bs : List UInt8) : Trs → List UInt8
  | .nil => bs
  | .cons t ts => ts.wrR s false (t.wr (wrHead s first t.top bs))
end
mutual
/-- the nodes, each at the place where it is written -/
def Tr.pl (p : Nat) (bs : List UInt8) : Tr → List Ex
  | .node y ks => { y with at_ := (p : Int) } ::
    (if y.kind = 7 ∨ y.kind = 8 then ks.plR (decide (y.kind = 8)) true (bs ++ (if y.kind = 8 then [115, 116, 114, 117, 99, 116, 32, 123] else [117, 110, 105, 111, 110, 123]))
     else ks.plK (bs ++ (if y.kind = 4 then [118, 101, 99, 116, 111, 114, 60] else if y.kind = 5 then [108, 105, 115, 116, 32, 60] else [111, 112, 116, 105, 111, 110, 60])))
def Trs.plK (bs : List UInt8) : Trs → List Ex
  | .nil => []
  | .cons t ts => t.pl bs.length bs ++ ts.plK (t.wr bs)
def Trs.plR (s first : Bool) (bs : List UInt8) : Trs → List Ex
  | .nil => []
  | .cons t ts => t.pl (if first then bs else bs ++ [44]).length (wrHead s first t.top bs) ++ ts.plR s false (t.wr (wrHead s first t.top bs))
end
def Pf (T L : List Tk) : Prop := ∀ k, k < L.length → tkA T k = tkA L k
theorem Pf.app {T a b : List Tk} (h : Pf T (a ++ b)) : Pf T a := fun k hk => by
  rw [h k (by rw [List.length_append]; omega), tkA, List.getD_eq_getElem?_getD, List.getElem?_append_left hk, tkA, List.getD_eq_getElem?_getD]
theorem Pf.at {T a : List Tk} {v : Tk} {b : List Tk} (h : Pf T (a ++ v :: b)) : tkA T a.length = v := by
  rw [h a.length (by simp), tkA, List.getD_eq_getElem?_getD, List.getElem?_append_right (Nat.le_refl _)]; simp
theorem plE_at' {T : List Tk} {y : Ex} {ai p : Nat} (h : (tkA T ai).at_ = p) : plE T { y with at_ := (ai : Int) } = { y with at_ := (p : Int) } := by
  unfold plE
  rw [if_neg (show ¬ ((ai : Int)) < 0 by omega)]
  simp [h]
theorem own_word {s : List UInt8} (h : (decide (s.length ≤ 32) && s.head?.any letB && s.all goeB) = true) : Own s (kN s) := by
  simp only [Bool.and_eq_true, decide_eq_true_eq] at h
  exact own_name h.1.2 h.1.1 h.2
mutual
theorem wr_tr : ∀ (t : Tr) (above : Int) (deep : Nat) (bs : List UInt8) (us : List Tk), t.wf above deep → Cut2 bs us true →
    ∃ v vs, Cut2 (t.wr bs) (us ++ v :: vs) false ∧ (v :: vs).map tkey = t.keys ∧ v.at_ = bs.length ∧ ∀ T, Pf T (us ++ v :: vs) → ∀ ai p, (tkA T ai).at_ = p → (t.idx us.length ai).map (plE T) = t.pl p bs
  | .node y ks, above, deep, bs, us, hw, hc => by
    obtain ⟨hd, hm, hr, hl, hks⟩ := hw
    obtain ⟨hok, hnm, -, -⟩ := rightB_iff hr
    rcases okB_cases hok with ⟨k1, hn, k0⟩ | ⟨k1, hn, k0⟩ | ⟨k1, hn, hn2, k0⟩ | ⟨k1, hn, k0⟩ | ⟨k1, hn, k0⟩
    · have hnil := trs_nil (ts := ks) (by omega)
      subst hnil
      have hw8 : [117] ++ digL (8 * y.n).toNat = uWord y.n := by
        rcases hn with e | e | e | e <;> rw [e]
        · show _ ++ digL 8 = _; rw [digL_lt (by decide)]; rfl
        · show _ ++ digL 16 = _; rw [digL_ge (by decide), digL_lt (by decide)]; rfl
        · show _ ++ digL 32 = _; rw [digL_ge (by decide), digL_lt (by decide)]; rfl
        · show _ ++ digL 64 = _; rw [digL_ge (by decide), digL_lt (by decide)]; rfl
      have ho : Own (uWord y.n) (kN (uWord y.n)) := by rcases hn with e | e | e | e <;> (rw [e]; exact own_word (by decide))
      refine ⟨tkP bs.length (uWord y.n) (kN (uWord y.n)), [], ?_, ?_, ?_, fun T hT ai p hp => ?_⟩
      · simp only [Tr.wr, if_pos k1, hw8]; exact hc.tok ho
      · simp only [Tr.keys, if_pos k1]; rfl
      · rfl
      · simp only [Tr.idx, Tr.pl, if_neg (show ¬ (y.kind = 7 ∨ y.kind = 8) by omega), Trs.idxK, Trs.plK, List.map_cons, List.map_nil, plE_at' hp]
    · have hnil := trs_nil (ts := ks) (by omega)
      subst hnil
      rcases k1 with k1 | k1 | k1
      · refine ⟨tkP bs.length [98, 111, 111, 108] (kN [98, 111, 111, 108]), [], ?_, ?_, ?_, fun T hT ai p hp => ?_⟩
        · simp only [Tr.wr, if_neg (show ¬ y.kind = 1 by omega), if_pos k1]; exact hc.tok (own_word (by decide))
        · simp only [Tr.keys, if_neg (show ¬ y.kind = 1 by omega), if_pos k1]; rfl
        · rfl
        · simp only [Tr.idx, Tr.pl, if_neg (show ¬ (y.kind = 7 ∨ y.kind = 8) by omega), Trs.idxK, Trs.plK, List.map_cons, List.map_nil, plE_at' hp]
      · refine ⟨tkP bs.length [118, 97, 114, 105, 110, 116] (kN [118, 97, 114, 105, 110, 116]), [], ?_, ?_, ?_, fun T hT ai p hp => ?_⟩
        · simp only [Tr.wr, if_neg (show ¬ y.kind = 1 by omega), if_neg (show ¬ y.kind = 2 by omega), if_pos k1]; exact hc.tok (own_word (by decide))
        · simp only [Tr.keys, if_neg (show ¬ y.kind = 1 by omega), if_neg (show ¬ y.kind = 2 by omega), if_pos k1]; rfl
        · rfl
        · simp only [Tr.idx, Tr.pl, if_neg (show ¬ (y.kind = 7 ∨ y.kind = 8) by omega), Trs.idxK, Trs.plK, List.map_cons, List.map_nil, plE_at' hp]
      · have hname : nameB y.name = true := by unfold namB at hnm; rw [if_pos k1] at hnm; exact hnm
        refine ⟨tkP bs.length y.name (kN y.name), [], ?_, ?_, ?_, fun T hT ai p hp => ?_⟩
        · simp only [Tr.wr, if_neg (show ¬ y.kind = 1 by omega), if_neg (show ¬ y.kind = 2 by omega), if_neg (show ¬ y.kind = 3 by omega), if_pos k1]; exact hc.tok (own_nameB hname)
        · simp only [Tr.keys, if_neg (show ¬ y.kind = 1 by omega), if_neg (show ¬ y.kind = 2 by omega), if_neg (show ¬ y.kind = 3 by omega), if_pos k1]; rfl
        · rfl
        · simp only [Tr.idx, Tr.pl, if_neg (show ¬ (y.kind = 7 ∨ y.kind = 8) by omega), Trs.idxK, Trs.plK, List.map_cons, List.map_nil, plE_at' hp]
    · obtain ⟨t, rfl⟩ := trs_one (ts := ks) (by omega)
      -- the word and its bracket
      obtain ⟨b1, hb1, v1, v2, hc1, hk1, hv1⟩ : ∃ b1, b1 = bs ++ (if y.kind = 4 then [118, 101, 99, 116, 111, 114, 60] else [108, 105, 115, 116, 32, 60]) ∧ ∃ v1 v2, Cut2 b1 (us ++ [v1, v2]) true ∧ [v1, v2].map tkey = [kN (if y.kind = 5 then [108, 105, 115, 116] else [118, 101, 99, 116, 111, 114]), kM [60]] ∧ v1.at_ = bs.length := by
        rcases k1 with e | e
        · refine ⟨_, rfl, tkP bs.length [118, 101, 99, 116, 111, 114] (kN [118, 101, 99, 116, 111, 114]), tkP (bs ++ [118, 101, 99, 116, 111, 114]).length [60] (kM [60]), ?_, ?_, ?_⟩
          · have := (hc.tok (own_word (s := [118, 101, 99, 116, 111, 114]) (by decide))).mark 60 (by decide)
            rw [List.append_assoc, List.append_assoc] at this
            rw [if_pos e]; exact this
          · rw [e]; rfl
          · rfl
        · refine ⟨_, rfl, tkP bs.length [108, 105, 115, 116] (kN [108, 105, 115, 116]), tkP (bs ++ [108, 105, 115, 116] ++ [32]).length [60] (kM [60]), ?_, ?_, ?_⟩
          · have := (((hc.tok (own_word (s := [108, 105, 115, 116]) (by decide)))).gap (F := [32]) (by decide) ⟨_, _, rfl, by decide⟩).mark 60 (by decide)
            rw [List.append_assoc, List.append_assoc, List.append_assoc] at this
            rw [if_neg (by omega)]; exact this
          · rw [e]; rfl
          · rfl
      obtain ⟨v, vs, hc2, hk2, hv2, hp2⟩ := wr_tr t y.kind (deep + 1) b1 (us ++ [v1, v2]) hks.1 hc1
      have hc3 := (((hc2.mark 44 (by decide)).gap (F := [32]) (by decide) ⟨_, _, rfl, by decide⟩).tok (own_num (n := y.n.toNat) (by omega))).mark 62 (by decide)
      have e1 : ∀ {a b c : Tk}, us ++ [v1, v2] ++ v :: vs ++ [a] ++ [b] ++ [c] = us ++ v1 :: (v2 :: (v :: vs ++ [a, b, c])) := by intros; simp
      rw [e1] at hc3
      have e2 : t.wr b1 ++ [44] ++ [32] ++ digL y.n.toNat ++ [62] = Tr.wr bs (.node y (.cons t .nil)) := by
        simp only [Tr.wr, if_neg (show ¬ y.kind = 1 by omega), if_neg (show ¬ y.kind = 2 by omega), if_neg (show ¬ y.kind = 3 by omega), if_neg (show ¬ y.kind = 9 by omega), if_pos k1, Trs.wrK, ← hb1]
        simp
      rw [e2] at hc3
      refine ⟨v1, _, hc3.weak, ?_, hv1, fun T hT ai p hp => ?_⟩
      · simp only [Tr.keys, if_neg (show ¬ y.kind = 1 by omega), if_neg (show ¬ y.kind = 2 by omega), if_neg (show ¬ y.kind = 3 by omega), if_neg (show ¬ y.kind = 9 by omega), if_pos k1, Trs.keys, List.append_nil, ← hk2]
        simp only [List.map_cons, List.map_nil, List.cons.injEq, and_true] at hk1
        simp [hk1.1, hk1.2, tkP_key]
      · have hT2 : Pf T (us ++ [v1, v2] ++ v :: vs) := by
          have : us ++ v1 :: (v2 :: (v :: vs ++ [tkP (t.wr b1).length [44] (kM [44]), tkP (t.wr b1 ++ [44] ++ [32]).length (digL y.n.toNat) (kD y.n.toNat), tkP (t.wr b1 ++ [44] ++ [32] ++ digL y.n.toNat).length [62] (kM [62])])) = (us ++ [v1, v2] ++ v :: vs) ++ [tkP (t.wr b1).length [44] (kM [44]), tkP (t.wr b1 ++ [44] ++ [32]).length (digL y.n.toNat) (kD y.n.toNat), tkP (t.wr b1 ++ [44] ++ [32] ++ digL y.n.toNat).length [62] (kM [62])] := by simp
          rw [this] at hT
          exact hT.app
        have hk := hp2 T hT2 (us ++ [v1, v2]).length b1.length (by rw [hT2.at]; exact hv2)
        rw [show (us ++ [v1, v2]).length = us.length + 2 by simp] at hk
        simp only [Tr.idx, Tr.pl, if_neg (show ¬ (y.kind = 7 ∨ y.kind = 8) by omega), Trs.idxK, Trs.plK, List.append_nil, List.map_cons, plE_at' hp]
        rw [hk, hb1]
        rcases k1 with e | e <;> simp [e]
    · obtain ⟨t, rfl⟩ := trs_one (ts := ks) (by omega)
      have hc1 := (hc.tok (own_word (s := [111, 112, 116, 105, 111, 110]) (by decide))).mark 60 (by decide)
      rw [List.append_assoc, List.append_assoc] at hc1
      obtain ⟨v, vs, hc2, hk2, hv2, hp2⟩ := wr_tr t y.kind (deep + 1) _ _ hks.1 hc1
      have hc3 := hc2.mark 62 (by decide)
      obtain ⟨v1, hv1⟩ : ∃ v, v = tkP bs.length [111, 112, 116, 105, 111, 110] (kN [111, 112, 116, 105, 111, 110]) := ⟨_, rfl⟩
      obtain ⟨v2, hv2'⟩ : ∃ v, v = tkP (bs ++ [111, 112, 116, 105, 111, 110]).length [60] (kM [60]) := ⟨_, rfl⟩
      rw [← hv1, ← hv2'] at hc2 hp2 hc3
      have e1 : ∀ {a : Tk}, us ++ ([v1] ++ [v2]) ++ v :: vs ++ [a] = us ++ v1 :: (v2 :: (v :: vs ++ [a])) := by intros; simp
      rw [e1] at hc3
      have e2 : Tr.wr (bs ++ ([111, 112, 116, 105, 111, 110] ++ [60])) t ++ [62] = Tr.wr bs (.node y (.cons t .nil)) := by
        simp only [Tr.wr, if_neg (show ¬ y.kind = 1 by omega), if_neg (show ¬ y.kind = 2 by omega), if_neg (show ¬ y.kind = 3 by omega), if_neg (show ¬ y.kind = 9 by omega), if_neg (show ¬ (y.kind = 4 ∨ y.kind = 5) by omega), if_pos k1, Trs.wrK]
        rfl
      rw [e2] at hc3
      refine ⟨v1, _, hc3.weak, ?_, by subst hv1; rfl, fun T hT ai p hp => ?_⟩
      · simp only [Tr.keys, if_neg (show ¬ y.kind = 1 by omega), if_neg (show ¬ y.kind = 2 by omega), if_neg (show ¬ y.kind = 3 by omega), if_neg (show ¬ y.kind = 9 by omega), if_neg (show ¬ (y.kind = 4 ∨ y.kind = 5) by omega), if_pos k1, Trs.keys, List.append_nil, ← hk2]
        simp [hv1, hv2', tkP_key]
      · have hT2 : Pf T (us ++ ([v1] ++ [v2]) ++ v :: vs) := by rw [← e1] at hT; exact hT.app
        have hk := hp2 T hT2 (us ++ ([v1] ++ [v2])).length (bs ++ ([111, 112, 116, 105, 111, 110] ++ [60])).length (by rw [hT2.at]; exact hv2)
        rw [show (us ++ ([v1] ++ [v2])).length = us.length + 2 by simp] at hk
        simp only [Tr.idx, Tr.pl, if_neg (show ¬ (y.kind = 7 ∨ y.kind = 8) by omega), Trs.idxK, Trs.plK, List.append_nil, List.map_cons, plE_at' hp]
        rw [hk, if_neg (show ¬ y.kind = 4 by omega), if_neg (show ¬ y.kind = 5 by omega)]
        rfl
    · obtain ⟨s, hs⟩ : ∃ s : Bool, s = decide (y.kind = 8) := ⟨_, rfl⟩
      have hsu : decide (y.kind = 7) = !s := by rcases k1 with e | e <;> simp [hs, e]
      have hks2 : y.kind = if s then 8 else 7 := by rcases k1 with e | e <;> simp [hs, e]
      obtain ⟨b1, hb1, v1, v2, hc1, hk1, hv1⟩ : ∃ b1, b1 = bs ++ (if y.kind = 8 then [115, 116, 114, 117, 99, 116, 32, 123] else [117, 110, 105, 111, 110, 123]) ∧ ∃ v1 v2, Cut2 b1 (us ++ [v1, v2]) true ∧ [v1, v2].map tkey = [kN (if y.kind = 7 then [117, 110, 105, 111, 110] else [115, 116, 114, 117, 99, 116]), kM [123]] ∧ v1.at_ = bs.length := by
        rcases k1 with e | e
        · refine ⟨_, rfl, tkP bs.length [117, 110, 105, 111, 110] (kN [117, 110, 105, 111, 110]), tkP (bs ++ [117, 110, 105, 111, 110]).length [123] (kM [123]), ?_, ?_, ?_⟩
          · have := (hc.tok (own_word (s := [117, 110, 105, 111, 110]) (by decide))).mark 123 (by decide)
            rw [List.append_assoc, List.append_assoc] at this
            rw [if_neg (by omega)]; exact this
          · rw [e]; rfl
          · rfl
        · refine ⟨_, rfl, tkP bs.length [115, 116, 114, 117, 99, 116] (kN [115, 116, 114, 117, 99, 116]), tkP (bs ++ [115, 116, 114, 117, 99, 116] ++ [32]).length [123] (kM [123]), ?_, ?_, ?_⟩
          · have := (((hc.tok (own_word (s := [115, 116, 114, 117, 99, 116]) (by decide)))).gap (F := [32]) (by decide) ⟨_, _, rfl, by decide⟩).mark 123 (by decide)
            rw [List.append_assoc, List.append_assoc, List.append_assoc] at this
            rw [if_pos e]; exact this
          · rw [e]; rfl
          · rfl
      obtain ⟨vs, hc2, hk2, hp2⟩ := wr_trs ks s true (deep + 1) b1 (us ++ [v1, v2]) (by rw [← hks2]; exact hks) hc1
      have hc3 := hc2.mark 125 (by decide)
      have e1 : ∀ {a : Tk}, us ++ [v1, v2] ++ vs ++ [a] = us ++ v1 :: (v2 :: (vs ++ [a])) := by intros; simp
      rw [e1] at hc3
      have e2 : ks.wrR s true b1 ++ [125] = Tr.wr bs (.node y ks) := by
        simp only [Tr.wr, if_neg (show ¬ y.kind = 1 by omega), if_neg (show ¬ y.kind = 2 by omega), if_neg (show ¬ y.kind = 3 by omega), if_neg (show ¬ y.kind = 9 by omega), if_neg (show ¬ (y.kind = 4 ∨ y.kind = 5) by omega), if_neg (show ¬ y.kind = 6 by omega), ← hb1, ← hs]
      rw [e2] at hc3
      refine ⟨v1, _, hc3.weak, ?_, hv1, fun T hT ai p hp => ?_⟩
      · simp only [Tr.keys, if_neg (show ¬ y.kind = 1 by omega), if_neg (show ¬ y.kind = 2 by omega), if_neg (show ¬ y.kind = 3 by omega), if_neg (show ¬ y.kind = 9 by omega), if_neg (show ¬ (y.kind = 4 ∨ y.kind = 5) by omega), if_neg (show ¬ y.kind = 6 by omega), hsu]
        simp only [List.map_cons, List.map_nil, List.cons.injEq, and_true] at hk1
        simp only [if_true] at hk2
        simp [hk1.1, hk1.2, tkP_key, hk2]
      · have hT2 : Pf T (us ++ [v1, v2] ++ vs) := by rw [← e1] at hT; exact hT.app
        have hk := hp2 T hT2
        simp only [if_true, Nat.add_zero] at hk
        rw [show (us ++ [v1, v2]).length = us.length + 2 by simp] at hk
        simp only [Tr.idx, Tr.pl, if_pos k1, List.map_cons, plE_at' hp, ← hs]
        rw [hk, hb1]
theorem wr_trs : ∀ (ts : Trs) (s first : Bool) (deep : Nat) (bs : List UInt8) (us : List Tk), ts.wf (if s then 8 else 7) deep → Cut2 bs us first →
    ∃ vs, Cut2 (ts.wrR s first bs) (us ++ vs) false ∧ vs.map tkey = (if first then ts.rows (!s) else ts.more (!s)) ∧ ∀ T, Pf T (us ++ vs) → (ts.idxR (us.length + (if first then 0 else 1))).map (plE T) = ts.plR s first bs
  | .nil, s, first, deep, bs, us, hw, hc => ⟨[], by rw [List.append_nil]; exact hc.weak, by cases first <;> rfl, fun T _ => rfl⟩
  | .cons t ts, s, first, deep, bs, us, hw, hc => by
    obtain ⟨-, -, g1, g2⟩ := rightB_iff (wf_top hw.1)
    -- the comma
    obtain ⟨b1, hb1, us1, hu1, hc1, hkk⟩ : ∃ b1, b1 = (if first then bs else bs ++ [44]) ∧ ∃ us1, us1 = (if first then us else us ++ [tkP bs.length [44] (kM [44])]) ∧ Cut2 b1 us1 true ∧ us1.length = us.length + (if first then 0 else 1) := by
      cases first
      · exact ⟨_, rfl, _, rfl, hc.mark 44 (by decide), by simp⟩
      · exact ⟨_, rfl, _, rfl, hc, by simp⟩
    -- what stands ahead of the colon
    obtain ⟨b2, hb2, v1, v2, hc2, hk2, hv1⟩ : ∃ b2, b2 = wrHead s first t.top bs ∧ ∃ v1 v2, Cut2 b2 (us1 ++ [v1, v2]) true ∧ [v1, v2].map tkey = hdK (!s) t.top ∧ v1.at_ = b1.length := by
      cases s
      · have htag : t.top.tag.toNat ≤ 2147483647 := by
          unfold tagB at g2
          simp only [Bool.or_eq_true, Bool.and_eq_true, decide_eq_true_eq] at g2
          omega
        refine ⟨_, rfl, tkP b1.length (digL t.top.tag.toNat) (kD t.top.tag.toNat), tkP (b1 ++ digL t.top.tag.toNat).length [58] (kM [58]), ?_, ?_, ?_⟩
        · have := (hc1.tok (own_num (n := t.top.tag.toNat) htag)).mark 58 (by decide)
          rw [List.append_assoc, List.append_assoc] at this
          rw [wrHead, ← hb1]; exact this
        · rfl
        · rfl
      · have hlab : nameB t.top.label = true := by unfold labB at g1; simpa using g1
        refine ⟨_, rfl, tkP b1.length t.top.label (kN t.top.label), tkP (b1 ++ t.top.label).length [58] (kM [58]), ?_, ?_, ?_⟩
        · have := ((hc1.tok (own_nameB hlab)).mark 58 (by decide)).gap (F := [32]) (by decide) ⟨_, _, rfl, by decide⟩
          rw [List.append_assoc, List.append_assoc, List.append_assoc] at this
          rw [wrHead, ← hb1]; exact this
        · rfl
        · rfl
    obtain ⟨v, vs, hc3, hk3, hv3, hp3⟩ := wr_tr t _ deep b2 (us1 ++ [v1, v2]) hw.1 hc2
    obtain ⟨ws, hc4, hk4, hp4⟩ := wr_trs ts s false deep (t.wr b2) (us1 ++ [v1, v2] ++ v :: vs) hw.2 hc3
    have hall : us1 ++ [v1, v2] ++ v :: vs ++ ws = us ++ ((if first then [] else [tkP bs.length [44] (kM [44])]) ++ [v1, v2] ++ v :: vs ++ ws) := by
      rw [hu1]; cases first <;> simp
    refine ⟨(if first then [] else [tkP bs.length [44] (kM [44])]) ++ [v1, v2] ++ v :: vs ++ ws, ?_, ?_, fun T hT => ?_⟩
    · rw [← hall]
      simp only [Trs.wrR, ← hb2]
      exact hc4
    · have hh : (([v1, v2] ++ v :: vs) ++ ws).map tkey = (Trs.cons t ts).rows (!s) := by
        rw [List.map_append, List.map_append, hk2, hk3, hk4]
        simp [Trs.rows]
      cases first
      · simp only [Bool.false_eq_true, if_false, more_rows]
        rw [← hh]
        simp [tkP_key]
      · simp only [if_true]
        rw [← hh]
        simp
    · rw [← hall] at hT
      have hT3 : Pf T (us1 ++ [v1, v2] ++ v :: vs) := hT.app
      have hT1 : Pf T (us1 ++ v1 :: [v2]) := hT3.app
      have hk := hp3 T hT3 us1.length b1.length (by rw [hT1.at]; exact hv1)
      have hr := hp4 T hT
      rw [show (us1 ++ [v1, v2]).length = us1.length + 2 by simp] at hk
      rw [← hkk]
      simp only [Trs.idxR, Trs.plR, List.map_append, ← hb1, ← hb2]
      rw [hk]
      congr 1
      have hkl : (v :: vs).length = t.keys.length := by rw [← hk3, List.length_map]
      rw [show us1.length + 2 + t.keys.length + 1 = (us1 ++ [v1, v2] ++ v :: vs).length + (if false = true then 0 else 1) by rw [List.length_append, List.length_append, hkl]; simp]
      exact hr
end

end Go.Proofs.Ytcljkkfpcomdcaa

set_option linter.unusedSimpArgs false
set_option linter.unusedVariables false
set_option maxRecDepth 100000
namespace Go.Proofs.Ytcljkkfpcomdcaa
open Go Go.Vc Go.RowKit Go.Proofs

def wrHd (bs : List UInt8) (p : DefT) : List UInt8 := bs ++ [116, 121, 112, 101, 32] ++ (p.1 ++ [32, 61, 32])
def wrDef (bs : List UInt8) (p : DefT) : List UInt8 := p.2.wr (wrHd bs p) ++ [59, 10]
def plDef (bs : List UInt8) (p : DefT) : Df := ⟨p.1, ((bs ++ [116, 121, 112, 101, 32]).length : Int), p.2.pl (wrHd bs p).length (wrHd bs p)⟩
def wrDefs (bs : List UInt8) : List DefT → List UInt8
  | [] => bs
  | p :: l => wrDefs (wrDef bs p) l
def plDefs (bs : List UInt8) : List DefT → List Df
  | [] => []
  | p :: l => plDef bs p :: plDefs (wrDef bs p) l
theorem wr_defs : ∀ (l : List DefT) (bs : List UInt8) (us : List Tk), (∀ p ∈ l, DefW p) → Cut2 bs us true →
    ∃ vs, Cut2 (wrDefs bs l) (us ++ vs) true ∧ vs.map tkey = defsK l ∧ ∀ T, Pf T (us ++ vs) → (defIdx us.length l).map (plD T) = plDefs bs l
  | [], bs, us, _, hc => ⟨[], by rw [List.append_nil]; exact hc, rfl, fun _ _ => rfl⟩
  | p :: l, bs, us, hw, hc => by
    obtain ⟨hn, ht⟩ := hw p (List.mem_cons_self ..)
    have h1 := ((hc.tok (own_word (s := [116, 121, 112, 101]) (by decide))).gap (F := [32]) (by decide) ⟨_, _, rfl, by decide⟩).tok (own_nameB hn)
    have h2 := ((h1.gap (F := [32]) (by decide) ⟨_, _, rfl, by decide⟩).mark 61 (by decide)).gap (F := [32]) (by decide) ⟨_, _, rfl, by decide⟩
    have eb : bs ++ [116, 121, 112, 101] ++ [32] ++ p.1 ++ [32] ++ [61] ++ [32] = wrHd bs p := by simp [wrHd]
    have ea : bs ++ [116, 121, 112, 101] ++ [32] = bs ++ [116, 121, 112, 101, 32] := by simp
    rw [eb, ea] at h2
    obtain ⟨v1, e1⟩ : ∃ v, v = tkP bs.length [116, 121, 112, 101] (kN [116, 121, 112, 101]) := ⟨_, rfl⟩
    obtain ⟨v2, e2⟩ : ∃ v, v = tkP (bs ++ [116, 121, 112, 101, 32]).length p.1 (kN p.1) := ⟨_, rfl⟩
    obtain ⟨v3, e3⟩ : ∃ v, v = tkP (bs ++ [116, 121, 112, 101, 32] ++ p.1 ++ [32]).length [61] (kM [61]) := ⟨_, rfl⟩
    rw [← e1, ← e2, ← e3] at h2
    obtain ⟨v, vs, h3, hk3, hv3, hp3⟩ := wr_tr p.2 0 0 _ _ ht h2
    have h4 := (h3.mark 59 (by decide)).gap (F := [10]) (by decide) ⟨_, _, rfl, by decide⟩
    have ec : Tr.wr (wrHd bs p) p.2 ++ [59] ++ [10] = wrDef bs p := by simp [wrDef]
    rw [ec] at h4
    obtain ⟨v4, e4⟩ : ∃ v, v = tkP (Tr.wr (wrHd bs p) p.2).length [59] (kM [59]) := ⟨_, rfl⟩
    rw [← e4] at h4
    obtain ⟨ws, h5, hk5, hp5⟩ := wr_defs l _ _ (fun q hq => hw q (List.mem_cons_of_mem _ hq)) h4
    have hall : us ++ [v1] ++ [v2] ++ [v3] ++ v :: vs ++ [v4] ++ ws = us ++ (v1 :: v2 :: v3 :: (v :: vs ++ [v4] ++ ws)) := by simp
    refine ⟨v1 :: v2 :: v3 :: (v :: vs ++ [v4] ++ ws), by rw [← hall]; exact h5, ?_, fun T hT => ?_⟩
    · simp only [defsK, defK, ← hk3, ← hk5]
      simp [e1, e2, e3, e4, tkP_key]
    · rw [← hall] at hT
      have hT4 : Pf T (us ++ [v1] ++ [v2] ++ [v3] ++ v :: vs) := by
        have := hT.app
        exact this.app
      have hT2 : Pf T (us ++ [v1] ++ v2 :: [v3]) := by
        have := hT4.app
        rw [show us ++ [v1] ++ [v2] ++ [v3] = us ++ [v1] ++ v2 :: [v3] by simp] at this
        exact this
      have hl3 : (us ++ [v1] ++ [v2] ++ [v3]).length = us.length + 3 := by simp
      have hk := hp3 T hT4 (us ++ [v1] ++ [v2] ++ [v3]).length (wrHd bs p).length (by rw [hT4.at]; exact hv3)
      rw [hl3] at hk
      have hr := hp5 T hT
      have hkl : (v :: vs).length = p.2.keys.length := by rw [← hk3, List.length_map]
      have hdl : (defK p).length = p.2.keys.length + 4 := by simp [defK]
      rw [show (us ++ [v1] ++ [v2] ++ [v3] ++ v :: vs ++ [v4]).length = us.length + (defK p).length by rw [hdl, List.length_append, List.length_append, hl3, hkl]; simp; omega] at hr
      simp only [defIdx, plDefs, List.map_cons]
      rw [hr]
      congr 1
      have hv2 : (tkA T (us.length + 1)).at_ = (bs ++ [116, 121, 112, 101, 32]).length := by
        have := hT2.at
        rw [show (us ++ [v1]).length = us.length + 1 by simp] at this
        rw [this, e2]; rfl
      simp only [plD, plDef, Df.mk.injEq, true_and]
      exact ⟨by rw [Int.toNat_natCast, hv2], hk⟩
/-- what is written down is parsed back, each node where it was written -/
theorem parse_back {l : List DefT} (hw : ∀ p ∈ l, DefW p) (hl : l.length ≤ 256) (hlen : (wrDefs [] l).length ≤ 65536) : parseA (wrDefs [] l) = (plDefs [] l, 0, 0) := by
  obtain ⟨vs, h1, h2, h3⟩ := wr_defs l [] [] hw c2_nil
  rw [List.nil_append] at h1 h3
  have hd := h1.done
  have hc : cutA (wrDefs [] l) = (vs, 0, 0) := by rw [ca_ok hlen (by rw [hd]), hd]
  rw [parse_keys hc h2 hw hl, ← h3 vs (fun k _ => rfl)]
  rfl
theorem digL_len : ∀ (k n : Nat), n < 10 ^ k → 0 < k → (digL n).length ≤ k := by
  intro k
  induction k with
  | zero => intro n h h0; omega
  | succ k ih =>
    intro n h _
    by_cases h10 : n < 10
    · rw [digL_lt h10]; simp
    · rw [digL_ge h10, List.length_append, List.length_singleton]
      have hk : 0 < k := by
        rcases Nat.eq_zero_or_pos k with h0 | h0
        · subst h0; simp at h; omega
        · exact h0
      have := ih (n / 10) (by rw [Nat.pow_succ] at h; omega) hk
      omega

end Go.Proofs.Ytcljkkfpcomdcaa

set_option linter.unusedSimpArgs false
set_option linter.unusedVariables false
set_option maxRecDepth 100000
namespace Go.Proofs.Ytcljkkfpcomdcaa
open Go Go.Vc Go.RowKit Go.Proofs

theorem o_quoN {P : Program} {e : Env} {w : World} {K : Value → World → Prop} {ty : TypeId} {x y : Operand} {t u : TypeId} {a b : Nat} (hx : ev e x = .int .i64 (a : Int)) (hy : ev e y = .int .i64 (b : Int)) (hb : 0 < b) (ha : a < 9223372036854775808) (kk : K (.int .i64 ((a / b : Nat) : Int)) w) : OP P e (.binOp .quo t x y u) ty w K := by
  refine o_quo hx hy (by omega) ?_
  have h1 : (a : Int).tdiv (b : Int) = ((a / b : Nat) : Int) := by rw [Int.tdiv_eq_ediv_of_nonneg (by omega)]; simp
  have h2 : a / b ≤ a := Nat.div_le_self _ _
  obtain ⟨q, hq⟩ : ∃ q, q = a / b := ⟨_, rfl⟩
  rw [← hq] at h1 h2 kk
  rw [h1, wrap64' _ (by omega)]
  exact kk
structure WrM (w : World) (H p : Nat) (v : Value) (bs : List UInt8) : Prop where
  cell : w.heap[p]? = some (.cells #[v] 45 (0, 0))
  row : w.ownsRow H 5 1 v bs.length (bs.map bv)
  hp : H ≤ p
theorem WrM.ext {w w' : World} {H p : Nat} {v : Value} {bs : List UInt8} (h : WrM w H p v bs) (ho : Ext w w') : WrM w' H p v bs := ⟨ho.blk h.cell (fun h => h), own_ext h.row ho, h.hp⟩
theorem WrM.off {w : World} {H p : Nat} {v : Value} {bs : List UInt8} (h : WrM w H p v bs) : ¬ v.ownBlock = some p := own_off h.row h.cell (by decide)
theorem WrM.only {w w' : World} {F : Nat → Prop} {H p : Nat} {v : Value} {bs : List UInt8} (h : WrM w H p v bs) (ho : Only F w w') (hF : ∀ k, F k → k < H) : WrM w' H p v bs :=
  ⟨ho.blk h.cell (fun hk => by have := hF _ hk; have := h.hp; omega), own_only h.row ho (fun k hk hF2 => by have := hF _ hF2; have := (h.row.lt k hk).1; omega), h.hp⟩
theorem WrM.lt {w : World} {H p : Nat} {v : Value} {bs : List UInt8} (h : WrM w H p v bs) : H ≤ w.heap.size := by
  have := (Array.getElem?_eq_some_iff.1 h.cell).1; have := h.hp; omega

theorem digits_step (n : Nat) (IH : ∀ (m : Nat) (w0 : World), m < n → Ca Try.prog 29 #[.int .i64 (m : Int)] w0 (fun v w' => v = st (digL m) ∧ Ext w0 w')) (hn : n ≤ 9223372036854775807) (w0 : World) : Ca Try.prog 29 #[.int .i64 (n : Int)] w0 (fun v w' => v = st (digL n) ∧ Ext w0 w') := by
  have hx : Ext w0 w0 := Only.refl _ _
  refine Ca.of Try.func29 Try.ntmps29 rfl rfl ?_
  refine W.seq ?_
  refine W.region ?_
  refine WL.c rfl (o_ash (show _ = Value.string _ from rfl) ?_)
  refine WL.nil ?_
  refine W.seq ?_
  refine W.seq ?_
  refine W.region ?_
  refine WL.c rfl (o_mvh (show _ = Value.int _ _ from rfl) ?_)
  refine WL.c rfl (o_lt rfl rfl ?_)
  refine WL.nil ?_
  refine W.cond rfl (fun c4 => ?_) (fun c4 => ?_)
  · try simp only [decide_eq_true_eq, decide_eq_false_iff_not, Bool.not_eq_true', Bool.not_eq_false', Bool.and_eq_true, Bool.or_eq_true, Bool.and_eq_false_iff, Bool.or_eq_false_iff] at c4
    have h10 : n < 10 := by omega
    refine W.seq ?_
    refine W.region ?_
    refine WL.c rfl (o_mvh (show _ = Value.int _ _ from rfl) ?_)
    refine WL.c rfl (o_addi rfl rfl (by omega) ?_)
    refine WL.c rfl (o_cvB8 (n := 48 + n) TI3 TI5 rfl (by omega) (by omega) ?_)
    refine WL.c rfl (o_bs1 (v := bv (UInt8.ofNat (48 + n))) TI43 TI5 rfl (by decide) (by decide) rfl ?_)
    have hS8 : Sl (w0.alloc (.cells (bv (UInt8.ofNat (48 + n))).cells 5)) 1 (.slice (some ⟨w0.heap.size, 0, none⟩) 1 1) 1 ([UInt8.ofNat (48 + n)].map bv) := Sl.one rfl
    have hx8 := Only.alloc w0 (.cells (bv (UInt8.ofNat (48 + n))).cells 5)
    generalize w0.alloc (.cells (bv (UInt8.ofNat (48 + n))).cells 5) = w8 at hS8 hx8 ⊢
    replace hx := hx.tr hx8
    refine WL.c rfl (o_cvBS (xs := [UInt8.ofNat (48 + n)]) TI43 TI5 TI9 rfl hS8 ?_)
    refine WL.c rfl (o_ash (show _ = Value.string _ from rfl) ?_)
    refine WL.nil ?_
    refine W.ret ?_
    refine ret1v rfl (show _ = st [UInt8.ofNat (48 + n)] from rfl) ?_
    exact ⟨by rw [digL_lt h10], hx⟩
  · try simp only [decide_eq_true_eq, decide_eq_false_iff_not, Bool.not_eq_true', Bool.not_eq_false', Bool.and_eq_true, Bool.or_eq_true, Bool.and_eq_false_iff, Bool.or_eq_false_iff] at c4
    have h10n : ¬ n < 10 := by omega
    refine W.skip ?_
    refine W.seq ?_
    obtain ⟨wd, hwd⟩ : ∃ wd, wd = w0.drew := ⟨_, rfl⟩
    have hxd : Ext w0 wd := hwd ▸ Only.drew w0
    replace hx := hx.tr hxd
    have hm10 := Nat.mod_lt n (show 0 < 10 by decide)
    refine W.drawT 9 (Ext) [(0, fun v _ => v = _)] rfl (by kernel_rfl) (Only.refl No) (fun _ _ _ h k => h.trans k) ⟨Mono.eq, trivial⟩ ⟨rfl, trivial⟩ ?_
    refine WD.p rfl (fun e w hR hh => by obtain ⟨h0, -⟩ := hh; exact SG.n (o_mvh h0 ⟨rfl, Only.refl No _⟩)) ?_
    refine WD.p rfl (fun e w hR hh => by obtain ⟨h10, -⟩ := hh; exact SG.n (o_quoN (a := n) (b := 10) h10 rfl (by decide) (by omega) ⟨rfl, Only.refl No _⟩)) ?_
    refine WD.p rfl (fun e w hR hh => by obtain ⟨h11, -⟩ := hh; exact SG.n (o_call Try.call29 (lc h11 ln) ((IH (n / 10) _ (by omega)).mono (fun v w' hh => ⟨hh.1, hh.2⟩)))) ?_
    refine WD.p rfl (fun e w hR hh => by obtain ⟨h0, -⟩ := hh; exact SG.n (o_mvh h0 ⟨rfl, Only.refl No _⟩)) ?_
    refine WD.p rfl (fun e w hR hh => by obtain ⟨h13, -⟩ := hh; exact SG.n (o_remN (a := n) (b := 10) h13 rfl (by decide) (by omega) ⟨rfl, Only.refl No _⟩)) ?_
    refine WD.p rfl (fun e w hR hh => by obtain ⟨h14, -⟩ := hh; exact SG.n (o_addi rfl h14 (by omega) ⟨rfl, Only.refl No _⟩)) ?_
    refine WD.p rfl (fun e w hR hh => by obtain ⟨h15, -⟩ := hh; exact SG.n (o_cvB8 (n := 48 + n % 10) TI3 TI5 h15 (by omega) (by omega) ⟨rfl, Only.refl No _⟩)) ?_
    refine WD.q (fun u w => Sl w 1 u 1 ([UInt8.ofNat (48 + n % 10)].map bv)) (fun u w w2 hR hh => hh.ext hR) rfl (fun e w hR hh => by obtain ⟨h16, -⟩ := hh; exact SG.n (o_bs1 (v := bv (UInt8.ofNat (48 + n % 10))) TI43 TI5 h16 (by decide) (by decide) rfl ⟨Sl.one rfl, Only.alloc _ _⟩)) ?_
    refine WD.p rfl (fun e w hR hh => by obtain ⟨h17, -⟩ := hh; exact SG.n (o_cvBS (xs := [UInt8.ofNat (48 + n % 10)]) TI43 TI5 TI9 rfl h17 ⟨rfl, Only.refl No _⟩)) ?_
    rintro e w hR ⟨h18, h17, h16, h15, h14, h13, h12, h11, h10, h0, -⟩
    rw [← hwd] at hR
    replace hx := hx.tr hR
    refine WL.c rfl (o_addT (xs := digL (n / 10)) (ys := [UInt8.ofNat (48 + n % 10)]) h12 h18 (by have := digL_len 19 (n / 10) (by omega) (by decide); simp only [List.length_append, List.length_singleton]; omega) ?_)
    refine WL.c rfl (o_ash (show _ = Value.string _ from rfl) ?_)
    refine WL.nil ?_
    refine W.ret ?_
    refine ret1v rfl (show _ = Value.string _ from rfl) ?_
    exact ⟨by rw [digL_ge h10n], hx⟩

theorem digits_spec (n : Nat) (hn : n ≤ 9223372036854775807) (w0 : World) : Ca Try.prog 29 #[.int .i64 (n : Int)] w0 (fun v w' => v = st (digL n) ∧ Ext w0 w') := by
  induction n using Nat.strongRecOn generalizing w0 with
  | _ n ih => exact digits_step n (fun m w hm => ih m hm (by omega) w) hn w0

theorem put_spec (H p : Nat) (v0 : Value) (bs s : List UInt8) (w0 : World) (hM : WrM w0 H p v0 bs) (hl : bs.length + s.length ≤ 140737488355328) : Ca Try.prog 17 #[.pointer (some ⟨p, 0, none⟩), st s] w0 (fun v w' => ∃ v1, WrM w' H p v1 (bs ++ s) ∧ Only (fun k => H ≤ k ∧ ∀ c d, ¬ w0.heap[k]? = some (.cells c 30 d)) w0 w') := by
  refine Ca.of Try.func17 Try.ntmps17 rfl rfl ?_
  refine W.region ?_
  refine WL.c rfl (o_mvh (by first | exact (show _ = Value.pointer _ from rfl) | exact rfl) ?_)
  refine WL.c rfl (o_mvh (by first | exact (show _ = Value.pointer _ from rfl) | exact rfl) ?_)
  refine WL.c rfl (o_nil rfl ?_)
  refine WL.c rfl (o_fa 0 TI45 rfl TI43 rfl rfl ?_)
  refine WL.c rfl (o_ld TI43 rfl rfl (cell_of hM.cell rfl) ?_)
  refine WL.c rfl (o_mvh (show _ = Value.string _ from rfl) ?_)
  refine WL.c rfl (o_apS (H) TI43 TI5 TI9 rfl rfl hM.row rfl (by rw [maxLen_eq]; omega) (by omega) hM.lt ?_)
  intro v10 w10 hr10 ho10
  rw [← List.map_append, ← List.length_append] at hr10
  have hc10 := ho10.blk hM.cell hM.off
  have hge := fun k hk => (hM.row.lt k hk).1
  have hHp := hM.hp
  refine WL.c rfl (o_nil rfl ?_)
  refine WL.c rfl (o_fa 0 TI45 rfl TI43 rfl rfl ?_)
  refine WL.u (o_stB TI43 rfl (show _ = v10 from rfl) (own_one hr10) hc10 (show 0 < 1 by decide) ?_)
  intro w12 hB12 ho12 hs12
  have hM2 : WrM w12 H p v10 (bs ++ s) := ⟨hB12, own_only hr10 ho12 (fun k hk he => by subst he; exact own_off hr10 hc10 (by decide) hk), hHp⟩
  have hO : Only (fun k => H ≤ k ∧ ∀ c d, ¬ w0.heap[k]? = some (.cells c 30 d)) w0 w12 := (ho10.mono (fun k _ hk => ⟨hge k hk, fun c d hC => own_off hM.row hC (by decide) hk⟩)).trans' ho12 (fun _ h => h) (fun k _ he => by subst he; exact ⟨hHp, fun c d hC => by rw [hM.cell] at hC; cases hC⟩)
  refine WL.nil ?_
  refine ret0 rfl ?_
  exact ⟨v10, hM2, hO⟩
end Go.Proofs.Ytcljkkfpcomdcaa

set_option linter.unusedSimpArgs false
set_option linter.unusedVariables false
set_option maxRecDepth 100000
namespace Go.Proofs.Ytcljkkfpcomdcaa
open Go Go.Vc Go.RowKit Go.Proofs

/-- the same tree, its top at another place -/
def Tr.put (z : Int) : Tr → Tr
  | .node y ks => .node { y with at_ := z } ks
theorem put_flat {t : Tr} {z : Int} : ∃ F, t.flat = t.top :: F ∧ (t.put z).flat = { t.top with at_ := z } :: F := by
  cases t with
  | node y ks => exact ⟨ks.flat, rfl, rfl⟩
theorem put_wr {t : Tr} {z : Int} {bs : List UInt8} : (t.put z).wr bs = t.wr bs := by
  cases t with
  | node y ks => simp only [Tr.put, Tr.wr]
theorem put_pl {t : Tr} {z : Int} {p : Nat} {bs : List UInt8} : (t.put z).pl p bs = t.pl p bs := by
  cases t with
  | node y ks => simp only [Tr.put, Tr.pl]
theorem put_wf {t : Tr} {z a : Int} {deep : Nat} (h : t.wf a deep) : (t.put z).wf a deep := by
  cases t with
  | node y ks => exact h
theorem put_top {t : Tr} {z : Int} : (t.put z).top.at_ = z := by
  cases t with
  | node y ks => rfl
mutual
theorem pl_len : ∀ (t : Tr) (p : Nat) (bs : List UInt8) (a : Int) (deep : Nat), t.wf a deep → (t.pl p bs).length = t.flat.length
  | .node y ks, p, bs, a, deep, h => by
    simp only [Tr.pl, Tr.flat, List.length_cons]
    split
    · rw [plR_len ks _ _ _ _ _ h.2.2.2.2]
    · rw [plK_len ks _ _ _ h.2.2.2.2]
theorem plK_len : ∀ (ts : Trs) (bs : List UInt8) (a : Int) (deep : Nat), ts.wf a deep → (ts.plK bs).length = ts.flat.length
  | .nil, _, _, _, _ => rfl
  | .cons t ts, bs, a, deep, h => by
    simp only [Trs.plK, Trs.flat, List.length_append]
    rw [pl_len t _ _ _ _ h.1, plK_len ts _ _ _ h.2]
theorem plR_len : ∀ (ts : Trs) (s first : Bool) (bs : List UInt8) (a : Int) (deep : Nat), ts.wf a deep → (ts.plR s first bs).length = ts.flat.length
  | .nil, _, _, _, _, _, _ => rfl
  | .cons t ts, s, first, bs, a, deep, h => by
    simp only [Trs.plR, Trs.flat, List.length_append]
    rw [pl_len t _ _ _ _ h.1, plR_len ts _ _ _ _ _ h.2]
end
theorem nameB_len {s : List UInt8} (h : nameB s = true) : s.length ≤ 32 := by
  unfold nameB at h
  simp only [Bool.and_eq_true, decide_eq_true_eq] at h
  omega
theorem wrHead_len {s first : Bool} {y : Ex} {bs : List UInt8} (h : s = true → nameB y.label = true) (h2 : s = false → y.tag.toNat ≤ 2147483647) : (wrHead s first y bs).length ≤ bs.length + 40 := by
  unfold wrHead
  cases s
  · have := digL_len 10 y.tag.toNat (by have := h2 rfl; omega) (by decide)
    cases first <;> simp <;> omega
  · have := nameB_len (h rfl)
    cases first <;> simp <;> omega


theorem row_head {t : Tr} {s : Bool} {deep : Nat} (h : t.wf (if s then 8 else 7) deep) (first : Bool) (bs : List UInt8) : (wrHead s first t.top bs).length ≤ bs.length + 40 := by
  obtain ⟨-, -, g1, g2⟩ := rightB_iff (wf_top h)
  refine wrHead_len (fun e => ?_) (fun e => ?_)
  · subst e; unfold labB at g1; simpa using g1
  · subst e; unfold tagB at g2
    simp only [Bool.or_eq_true, Bool.and_eq_true, decide_eq_true_eq] at g2
    omega


mutual
theorem wr_len : ∀ (t : Tr) (bs : List UInt8) (a : Int) (deep : Nat), t.wf a deep → (t.wr bs).length + 40 ≤ bs.length + 80 * t.flat.length
  | .node y ks, bs, a, deep, h => by
    obtain ⟨-, -, hr, hl, hks⟩ := h
    obtain ⟨hok, hnm, -, -⟩ := rightB_iff hr
    simp only [Tr.flat, List.length_cons]
    have hn10 : y.n.toNat ≤ 2147483647 ∧ (8 * y.n).toNat ≤ 99999999999 := by rcases okB_cases hok with h | h | h | h | h <;> omega
    have hd1 := digL_len 10 y.n.toNat (by omega) (by decide)
    have hd2 := digL_len 11 (8 * y.n).toNat (by omega) (by decide)
    simp only [Tr.wr]
    split
    · simp; omega
    · split
      · simp; omega
      · split
        · simp; omega
        · split
          · rename_i h9
            have : nameB y.name = true := by unfold namB at hnm; rw [if_pos h9] at hnm; exact hnm
            have := nameB_len this
            simp; omega
          · split
            · have := wrK_len ks (bs ++ (if y.kind = 4 then [118, 101, 99, 116, 111, 114, 60] else [108, 105, 115, 116, 32, 60])) _ _ hks
              have h7 : (if y.kind = 4 then [118, 101, 99, 116, 111, 114, 60] else [108, 105, 115, 116, 32, 60] : List UInt8).length ≤ 7 := by split <;> simp
              simp only [List.length_append, List.length_cons, List.length_nil] at this ⊢
              omega
            · split
              · have := wrK_len ks (bs ++ [111, 112, 116, 105, 111, 110, 60]) _ _ hks
                simp only [List.length_append, List.length_cons, List.length_nil] at this ⊢
                omega
              · have h78 : y.kind = 8 ∨ y.kind = 7 := by rcases okB_cases hok with h | h | h | h | h <;> omega
                have := wrR_len ks (decide (y.kind = 8)) true (bs ++ (if y.kind = 8 then [115, 116, 114, 117, 99, 116, 32, 123] else [117, 110, 105, 111, 110, 123])) (deep + 1) (by rcases h78 with e | e <;> simpa [e] using hks)
                have h7 : (if y.kind = 8 then [115, 116, 114, 117, 99, 116, 32, 123] else [117, 110, 105, 111, 110, 123] : List UInt8).length ≤ 8 := by split <;> simp
                simp only [List.length_append, List.length_cons, List.length_nil] at this ⊢
                omega
theorem wrK_len : ∀ (ts : Trs) (bs : List UInt8) (a : Int) (deep : Nat), ts.wf a deep → (ts.wrK bs).length ≤ bs.length + 80 * ts.flat.length
  | .nil, bs, _, _, _ => by simp [Trs.wrK, Trs.flat]
  | .cons t ts, bs, a, deep, h => by
    have h1 := wr_len t bs _ _ h.1
    have h2 := wrK_len ts (t.wr bs) _ _ h.2
    simp only [Trs.wrK, Trs.flat, List.length_append]
    omega
theorem wrR_len : ∀ (ts : Trs) (s first : Bool) (bs : List UInt8) (deep : Nat), ts.wf (if s then 8 else 7) deep → (ts.wrR s first bs).length ≤ bs.length + 80 * ts.flat.length
  | .nil, _, _, bs, _, _ => by simp [Trs.wrR, Trs.flat]
  | .cons t ts, s, first, bs, deep, h => by
    have hh := row_head h.1 first bs
    have h1 := wr_len t (wrHead s first t.top bs) _ _ h.1
    have h2 := wrR_len ts s false (t.wr (wrHead s first t.top bs)) _ h.2
    simp only [Trs.wrR, Trs.flat, List.length_append]
    omega
end
def EFree (w : World) (k : Nat) : Prop := ∀ c d, ¬ w.heap[k]? = some (.cells c 30 d)
def PW (H : Nat) (w : World) (k : Nat) : Prop := H ≤ k ∧ EFree w k
def FW (H g : Nat) (w : World) (k : Nat) : Prop := k = g ∨ PW H w k
theorem FW.tr {H g : Nat} {a b c : World} (h : Only (FW H g a) a b) (k : Only (FW H g b) b c) : Only (FW H g a) a c :=
  h.trans' k (fun _ h => h) (fun j hj hF => by
    rcases hF with hF | ⟨h1, h2⟩
    · exact .inl hF
    · by_cases hg : j = g
      · exact .inl hg
      · refine .inr ⟨h1, fun x d hx => ?_⟩
        exact h2 x d (h.blk hx (fun hF => by
          rcases hF with hF | ⟨-, h3⟩
          · exact hg hF
          · exact h3 x d hx)))
theorem FW.ext {H g : Nat} {a b c : World} (h : Only (FW H g a) a b) (k : Ext b c) : Only (FW H g a) a c := h.trans' k (fun _ h => h) (fun _ _ h => h.elim)
theorem FW.put {H g : Nat} {a b c : World} (h : Only (FW H g a) a b) (k : Only (PW H b) b c) : Only (FW H g a) a c := FW.tr h (k.mono fun _ _ h => .inr h)
theorem row_at {w : World} {g cap N HL : Nat} {A C : List Ex} {y : Ex} (h : w.ownsRow HL 30 7 (.slice (some ⟨g, 0, none⟩) N cap) N (exs (A ++ y :: C))) (hN : N = (A ++ y :: C).length) : Cells w g (0 + A.length * 7) (exV y) := by
  subst hN
  rcases (Sl.own h).val with ⟨hz, h0⟩ | ⟨b, o, c, hv, hnc, hc⟩
  · simp at h0
  · cases hv
    have h2 := hc.sub (A.length * 7) 7
    have h3 : ((exs (A ++ y :: C)).drop (A.length * 7)).take 7 = exV y := by
      rw [exs_app, List.drop_append, exs_len, Nat.sub_self, List.drop_of_length_le (by rw [exs_len]; omega)]
      rfl
    rw [h3] at h2
    exact h2
theorem row_set {A C : List Ex} {y : Ex} {z : Int} : (exs (A ++ y :: C)).set (A.length * 7 + 6) (.int .i64 z) = exs (A ++ { y with at_ := z } :: C) := by
  rw [exs_setAt (j := A.length) (by simp)]
  congr 1
  rw [List.set_append_right _ _ (Nat.le_refl _), List.getElem_append_right (Nat.le_refl _)]
  simp
theorem put_f (H p : Nat) (v0 : Value) (bs s : List UInt8) (w0 : World) (hM : WrM w0 H p v0 bs) (hl : bs.length + s.length ≤ 140737488355328) : Ca Try.prog 17 #[.pointer (some ⟨p, 0, none⟩), st s] w0 (fun v w' => ∃ v1, WrM w' H p v1 (bs ++ s) ∧ Only (PW H w0) w0 w') := put_spec H p v0 bs s w0 hM hl

def WExpr (n : Nat) : Prop := ∀ (t : Tr) (above : Int) (deep H p : Nat) (v0 : Value) (g cap HL : Nat) (A C : List Ex) (bs : List UInt8) (at0 : Nat) (inside : Bool) (N : Nat) (w0 : World), t.flat.length ≤ n → t.wf above deep → WrM w0 H p v0 bs → N = (A ++ (t.flat ++ C)).length → N ≤ 140737488355328 → w0.ownsRow HL 30 7 (.slice (some ⟨g, 0, none⟩) N cap) N (exs (A ++ (t.flat ++ C))) → g < H → (inside = true → t.top.at_ = (at0 : Int)) → (inside = false → at0 = bs.length) → bs.length + 80 * t.flat.length ≤ 140737488355328 → Ca Try.prog 18 #[.pointer (some ⟨p, 0, none⟩), .slice (some ⟨g, 0, none⟩) N cap, .int .i64 (A.length : Int), .bool inside] w0 (fun v w' => v = .int .i64 ((A.length + t.flat.length : Nat) : Int) ∧ ∃ v1, WrM w' H p v1 (t.wr bs) ∧ w'.ownsRow HL 30 7 (.slice (some ⟨g, 0, none⟩) N cap) N (exs (A ++ (t.pl at0 bs ++ C))) ∧ Only (FW H g w0) w0 w')

set_option maxHeartbeats 4000000 in
theorem wexpr_step (n : Nat) (IH : WExpr n) (y : Ex) (ks : Trs) (above : Int) (deep H p : Nat) (v0 : Value) (g cap HL : Nat) (A C : List Ex) (bs : List UInt8) (at0 : Nat) (inside : Bool) (N : Nat) (w0 : World) (hn : ks.flat.length ≤ n) (hw : (Tr.node y ks).wf above deep) (hM : WrM w0 H p v0 bs) (hN : N = (A ++ y :: (ks.flat ++ C)).length) (hNb : N ≤ 140737488355328) (hrow : w0.ownsRow HL 30 7 (.slice (some ⟨g, 0, none⟩) N cap) N (exs (A ++ y :: (ks.flat ++ C)))) (hg : g < H) (hin1 : inside = true → y.at_ = (at0 : Int)) (hin0 : inside = false → at0 = bs.length) (hb : bs.length + 80 * (ks.flat.length + 1) ≤ 140737488355328) : Ca Try.prog 18 #[.pointer (some ⟨p, 0, none⟩), .slice (some ⟨g, 0, none⟩) N cap, .int .i64 (A.length : Int), .bool inside] w0 (fun v w' => v = .int .i64 ((A.length + (Tr.node y ks).flat.length : Nat) : Int) ∧ ∃ v1, WrM w' H p v1 ((Tr.node y ks).wr bs) ∧ w'.ownsRow HL 30 7 (.slice (some ⟨g, 0, none⟩) N cap) N (exs (A ++ ((Tr.node y ks).pl at0 bs ++ C))) ∧ Only (FW H g w0) w0 w') := by
  have hx : Only (FW H g w0) w0 w0 := Only.refl _ _
  have hN2 : N = A.length + (ks.flat.length + C.length + 1) := by rw [hN]; simp
  obtain ⟨hok, hnm, -, -⟩ := rightB_iff hw.2.2.1
  have hHw := hM.lt
  refine Ca.of Try.func18 Try.ntmps18 rfl rfl ?_
  refine W.seq ?_
  refine W.region ?_
  refine WL.c rfl (o_ash (show _ = Value.int _ _ from rfl) ?_)
  refine WL.nil ?_
  refine W.seq ?_
  refine W.seq ?_
  refine W.region ?_
  refine WL.c rfl (o_mvh (show _ = Value.int _ _ from rfl) ?_)
  refine WL.c rfl (o_mvh (by first | exact (show _ = Value.slice _ _ _ from rfl) | exact rfl) ?_)
  refine WL.c rfl (o_len TI38 rfl ?_)
  refine WL.c rfl (o_ge rfl rfl ?_)
  refine WL.nil ?_
  refine W.condF' rfl (by simp; omega) ?_
  refine W.skip ?_
  refine W.seq ?_
  refine W.region ?_
  refine WL.c rfl (o_mvh (by first | exact (show _ = Value.slice _ _ _ from rfl) | exact rfl) ?_)
  refine WL.c rfl (o_mvh (show _ = Value.int _ _ from rfl) ?_)
  refine WL.c rfl (o_ixB (i := A.length) TI38 TI30 rfl rfl (by omega) ?_)
  refine WL.c rfl (o_ldA TI30 rfl rfl (row_at hrow hN) rfl ?_)
  refine WL.c rfl (o_alB TI30 ?_)
  intro wa hCa hxa hsa
  refine WL.u (o_stA TI30 rfl (show _ = Value.agg (exV y).toArray from rfl) rfl rfl hCa rfl ?_)
  intro wb hB9 hob hsb
  have hxb := Ext.own hxa (Nat.le_refl _) hob
  obtain ⟨b9, hb9⟩ : ∃ b, b = w0.heap.size := ⟨_, rfl⟩
  rw [← hb9] at hB9 ⊢
  have hb9H : H ≤ b9 := by omega
  replace hrow := own_ext hrow hxb
  replace hM := hM.ext hxb
  replace hx := FW.ext hx hxb
  clear hCa hxa hsa hob hsb hxb
  refine WL.nil ?_
  refine W.seq ?_
  refine W.seq ?_
  refine W.region ?_
  refine WL.c rfl (o_mvh (show _ = Value.bool _ from rfl) ?_)
  refine WL.c rfl (o_not' rfl ?_)
  refine WL.nil ?_
  refine W.cut (fun e1 w1 => e1 0 = .pointer (some ⟨p, 0, none⟩) ∧ e1 1 = .slice (some ⟨g, 0, none⟩) N cap ∧ e1 2 = .int .i64 (A.length : Int) ∧ e1 9 = .pointer (some ⟨b9, 0, none⟩) ∧ w1.heap[b9]? = some (.cells (exV y).toArray 30 (0, 0)) ∧ WrM w1 H p v0 bs ∧ w1.ownsRow HL 30 7 (.slice (some ⟨g, 0, none⟩) N cap) N (exs (A ++ { y with at_ := (at0 : Int) } :: (ks.flat ++ C))) ∧ Only (FW H g w0) w0 w1) ?_ ?_
  · -- both ways
    refine W.cond rfl (fun c25 => ?_) (fun c25 => ?_)
    · try simp only [decide_eq_true_eq, decide_eq_false_iff_not, Bool.not_eq_true', Bool.not_eq_false', Bool.and_eq_true, Bool.or_eq_true, Bool.and_eq_false_iff, Bool.or_eq_false_iff] at c25
      have hin : inside = false := by simpa using c25
      have hat := hin0 hin
      refine W.region ?_
      refine WL.c rfl (o_mvh (by first | exact (show _ = Value.slice _ _ _ from rfl) | exact rfl) ?_)
      refine WL.c rfl (o_mvh (show _ = Value.int _ _ from rfl) ?_)
      refine WL.c rfl (o_mvh (by first | exact (show _ = Value.pointer _ from rfl) | exact rfl) ?_)
      refine WL.c rfl (o_nil rfl ?_)
      refine WL.c rfl (o_fa 0 TI45 rfl TI43 rfl rfl ?_)
      refine WL.c rfl (o_ld TI43 rfl rfl (cell_of hM.cell rfl) ?_)
      refine WL.c rfl (o_lenR TI43 rfl (Sl.own hM.row) ?_)
      refine WL.c rfl (o_ixB (i := A.length) TI38 TI30 rfl rfl (by omega) ?_)
      refine WL.c rfl (o_fa 6 TI30 rfl TI3 rfl rfl ?_)
      refine WL.u (o_stRj (i := A.length * 7 + 6) TI3 rfl (by omega) (show _ = Value.int .i64 (bs.length : Int) from rfl) rfl hrow rfl (by omega) ?_)
      intro wc hr34 ho hs34
      replace hx := FW.tr hx (ho.mono (fun k _ h => by cases h; exact .inl rfl))
      replace hM := hM.only ho (fun k h => by cases h; exact hg)
      replace hB9 := ho.blk hB9 (fun h => by simp [Value.ownBlock] at h; omega)
      replace hrow : wc.ownsRow HL 30 7 (.slice (some ⟨g, 0, none⟩) N cap) N (exs (A ++ { y with at_ := (at0 : Int) } :: (ks.flat ++ C))) := by rw [row_set] at hr34; rw [hat]; exact hr34
      refine WL.nil ?_
      first | exact ⟨rfl, rfl, rfl, rfl, hB9, hM, hrow, hx⟩ | exact ⟨rfl, rfl, rfl, rfl, hB9, hM, by rw [← hyy]; exact hrow, hx⟩
    · try simp only [decide_eq_true_eq, decide_eq_false_iff_not, Bool.not_eq_true', Bool.not_eq_false', Bool.and_eq_true, Bool.or_eq_true, Bool.and_eq_false_iff, Bool.or_eq_false_iff] at c25
      have hin : inside = true := by simpa using c25
      have hyy : y = { y with at_ := (at0 : Int) } := by rw [← hin1 hin]
      refine W.skip ?_
      first | exact ⟨rfl, rfl, rfl, rfl, hB9, hM, hrow, hx⟩ | exact ⟨rfl, rfl, rfl, rfl, hB9, hM, by rw [← hyy]; exact hrow, hx⟩
  rintro e w ⟨h0, h1, h2, h9, hB9, hM, hrow, hx⟩
  refine W.seq ?_
  refine W.region ?_
  refine WL.c rfl (o_mvh h2 ?_)
  refine WL.c rfl (o_addi rfl rfl (by show _ ≤ (A.length : Int) + 1 ∧ (A.length : Int) + 1 ≤ _; omega) ?_)
  refine WL.c rfl (o_ash (show _ = Value.int _ _ from rfl) ?_)
  refine WL.nil ?_
  refine W.seq ?_
  refine W.seq ?_
  obtain hk | hk | hk | hk | hk | hk | hk | hk | hk : y.kind = 1 ∨ y.kind = 2 ∨ y.kind = 3 ∨ y.kind = 9 ∨ y.kind = 4 ∨ y.kind = 5 ∨ y.kind = 6 ∨ y.kind = 7 ∨ y.kind = 8 := by rcases okB_cases hok with h | h | h | h | h <;> omega
  · skip
    have hkz : y.kids = 0 := by rcases okB_cases hok with h | h | h | h | h <;> omega
    obtain rfl := trs_nil (ts := ks) (by have : (ks.len : Int) = y.kids := hw.2.2.2.1; omega)
    have hn8 : y.n = 1 ∨ y.n = 2 ∨ y.n = 4 ∨ y.n = 8 := by rcases okB_cases hok with h | h | h | h | h <;> omega
    have h8 : 8 * y.n = ((8 * y.n).toNat : Int) := by omega
    have h8l : (8 * y.n).toNat ≤ 64 := by omega
    have hdg := fun w => digits_spec (8 * y.n).toNat (by omega) w
    simp only [← h8] at hdg
    have hd8 := digL_len 2 (8 * y.n).toNat (by omega) (by decide)
    have hwr : (Tr.node y .nil).wr bs = bs ++ ([117] ++ digL (8 * y.n).toNat) := by simp [Tr.wr, hk]
    have hpl : (Tr.node y .nil).pl at0 bs = { y with at_ := (at0 : Int) } :: [] := by simp [Tr.pl, Trs.plK, hk]
    refine W.region ?_
    refine WL.c rfl (o_fa 0 TI30 rfl TI3 rfl h9 ?_)
    refine WL.c rfl (o_ld TI3 rfl rfl (cell_of hB9 rfl) ?_)
    refine WL.nil ?_
    refine W.block ?_
    refine W.seq ?_
    refine W.region ?_
    refine WL.c rfl (o_eq rfl rfl ?_)
    refine WL.c rfl (o_ash (show _ = Value.bool _ from rfl) ?_)
    refine WL.nil ?_
    refine W.condT' rfl (by rw [hk]; decide) ?_
    refine W.region ?_
    refine WL.c rfl (o_mvh h0 ?_)
    refine WL.c rfl (o_fa 1 TI30 rfl TI3 rfl h9 ?_)
    refine WL.c rfl (o_ld TI3 rfl rfl (cell_of hB9 rfl) ?_)
    refine WL.c rfl (o_muli rfl rfl (by omega) ?_)
    refine WL.c rfl (o_call Try.call29 (lc rfl ln) ((hdg _).mono ?_))
    rintro v102 w102 ⟨rfl, hxd102⟩
    replace hrow := own_ext hrow hxd102
    replace hB9 := hxd102.blk hB9 (fun h => h)
    replace hx := FW.ext hx hxd102
    replace hM := hM.ext hxd102
    refine WL.c rfl (o_addT (xs := [117]) (ys := digL (8 * y.n).toNat) rfl rfl (by simp; omega) ?_)
    refine WL.c rfl (o_call Try.call17 (lc rfl (lc rfl ln)) ((put_f H p _ _ ([117] ++ digL (8 * y.n).toNat) _ hM (by simp; omega)).mono ?_))
    rintro v104 w104 ⟨vm104, hM2, ho104⟩
    replace hrow := own_only hrow ho104 (fun b hb hF => by simp [Value.ownBlock] at hb; have := hF.1; omega)
    replace hB9 := ho104.blk hB9 (fun hF => hF.2 _ _ hB9)
    replace hx := FW.put hx ho104
    clear hM
    have hM := hM2
    clear hM2
    refine WL.nil ?_
    refine W.seq ?_
    refine W.region ?_
    refine WL.c rfl (o_mvh (show _ = Value.int _ _ from rfl) ?_)
    refine WL.c rfl (o_ash (show _ = Value.int _ _ from rfl) ?_)
    refine WL.nil ?_
    refine W.ret ?_
    refine ret1v rfl (show _ = Value.int _ _ from rfl) ?_
    exact ⟨congrArg (Value.int .i64) (by simp [Tr.flat, Trs.flat]), _, by rw [hwr]; exact hM, by rw [hpl]; exact hrow, hx⟩
  · skip
    have hkz : y.kids = 0 := by rcases okB_cases hok with h | h | h | h | h <;> omega
    obtain rfl := trs_nil (ts := ks) (by have : (ks.len : Int) = y.kids := hw.2.2.2.1; omega)
    have hwr : (Tr.node y .nil).wr bs = bs ++ [98, 111, 111, 108] := by simp [Tr.wr, hk]
    have hpl : (Tr.node y .nil).pl at0 bs = { y with at_ := (at0 : Int) } :: [] := by simp [Tr.pl, Trs.plK, hk]
    refine W.region ?_
    refine WL.c rfl (o_fa 0 TI30 rfl TI3 rfl h9 ?_)
    refine WL.c rfl (o_ld TI3 rfl rfl (cell_of hB9 rfl) ?_)
    refine WL.nil ?_
    refine W.block ?_
    refine W.seq ?_
    refine W.region ?_
    refine WL.c rfl (o_eq rfl rfl ?_)
    refine WL.c rfl (o_ash (show _ = Value.bool _ from rfl) ?_)
    refine WL.nil ?_
    refine W.condF' rfl (by rw [hk]; decide) ?_
    refine W.seq ?_
    refine W.region ?_
    refine WL.c rfl (o_eq rfl rfl ?_)
    refine WL.c rfl (o_ash (show _ = Value.bool _ from rfl) ?_)
    refine WL.nil ?_
    refine W.condT' rfl (by rw [hk]; decide) ?_
    refine W.region ?_
    refine WL.c rfl (o_mvh h0 ?_)
    refine WL.c rfl (o_call Try.call17 (lc rfl (lc rfl ln)) ((put_f H p _ _ ([98, 111, 111, 108]) _ hM (by simp; omega)).mono ?_))
    rintro v108 w108 ⟨vm108, hM2, ho108⟩
    replace hrow := own_only hrow ho108 (fun b hb hF => by simp [Value.ownBlock] at hb; have := hF.1; omega)
    replace hB9 := ho108.blk hB9 (fun hF => hF.2 _ _ hB9)
    replace hx := FW.put hx ho108
    clear hM
    have hM := hM2
    clear hM2
    refine WL.nil ?_
    refine W.seq ?_
    refine W.region ?_
    refine WL.c rfl (o_mvh (show _ = Value.int _ _ from rfl) ?_)
    refine WL.c rfl (o_ash (show _ = Value.int _ _ from rfl) ?_)
    refine WL.nil ?_
    refine W.ret ?_
    refine ret1v rfl (show _ = Value.int _ _ from rfl) ?_
    exact ⟨congrArg (Value.int .i64) (by simp [Tr.flat, Trs.flat]), _, by rw [hwr]; exact hM, by rw [hpl]; exact hrow, hx⟩
  · skip
    have hkz : y.kids = 0 := by rcases okB_cases hok with h | h | h | h | h <;> omega
    obtain rfl := trs_nil (ts := ks) (by have : (ks.len : Int) = y.kids := hw.2.2.2.1; omega)
    have hwr : (Tr.node y .nil).wr bs = bs ++ [118, 97, 114, 105, 110, 116] := by simp [Tr.wr, hk]
    have hpl : (Tr.node y .nil).pl at0 bs = { y with at_ := (at0 : Int) } :: [] := by simp [Tr.pl, Trs.plK, hk]
    refine W.region ?_
    refine WL.c rfl (o_fa 0 TI30 rfl TI3 rfl h9 ?_)
    refine WL.c rfl (o_ld TI3 rfl rfl (cell_of hB9 rfl) ?_)
    refine WL.nil ?_
    refine W.block ?_
    refine W.seq ?_
    refine W.region ?_
    refine WL.c rfl (o_eq rfl rfl ?_)
    refine WL.c rfl (o_ash (show _ = Value.bool _ from rfl) ?_)
    refine WL.nil ?_
    refine W.condF' rfl (by rw [hk]; decide) ?_
    refine W.seq ?_
    refine W.region ?_
    refine WL.c rfl (o_eq rfl rfl ?_)
    refine WL.c rfl (o_ash (show _ = Value.bool _ from rfl) ?_)
    refine WL.nil ?_
    refine W.condF' rfl (by rw [hk]; decide) ?_
    refine W.seq ?_
    refine W.region ?_
    refine WL.c rfl (o_eq rfl rfl ?_)
    refine WL.c rfl (o_ash (show _ = Value.bool _ from rfl) ?_)
    refine WL.nil ?_
    refine W.condT' rfl (by rw [hk]; decide) ?_
    refine W.region ?_
    refine WL.c rfl (o_mvh h0 ?_)
    refine WL.c rfl (o_call Try.call17 (lc rfl (lc rfl ln)) ((put_f H p _ _ ([118, 97, 114, 105, 110, 116]) _ hM (by simp; omega)).mono ?_))
    rintro v112 w112 ⟨vm112, hM2, ho112⟩
    replace hrow := own_only hrow ho112 (fun b hb hF => by simp [Value.ownBlock] at hb; have := hF.1; omega)
    replace hB9 := ho112.blk hB9 (fun hF => hF.2 _ _ hB9)
    replace hx := FW.put hx ho112
    clear hM
    have hM := hM2
    clear hM2
    refine WL.nil ?_
    refine W.seq ?_
    refine W.region ?_
    refine WL.c rfl (o_mvh (show _ = Value.int _ _ from rfl) ?_)
    refine WL.c rfl (o_ash (show _ = Value.int _ _ from rfl) ?_)
    refine WL.nil ?_
    refine W.ret ?_
    refine ret1v rfl (show _ = Value.int _ _ from rfl) ?_
    exact ⟨congrArg (Value.int .i64) (by simp [Tr.flat, Trs.flat]), _, by rw [hwr]; exact hM, by rw [hpl]; exact hrow, hx⟩
  · skip
    have hkz : y.kids = 0 := by rcases okB_cases hok with h | h | h | h | h <;> omega
    obtain rfl := trs_nil (ts := ks) (by have : (ks.len : Int) = y.kids := hw.2.2.2.1; omega)
    have hnl := nameB_len (show nameB y.name = true by have := hnm; unfold namB at this; rw [if_pos hk] at this; exact this)
    have hwr : (Tr.node y .nil).wr bs = bs ++ y.name := by simp [Tr.wr, hk]
    have hpl : (Tr.node y .nil).pl at0 bs = { y with at_ := (at0 : Int) } :: [] := by simp [Tr.pl, Trs.plK, hk]
    refine W.region ?_
    refine WL.c rfl (o_fa 0 TI30 rfl TI3 rfl h9 ?_)
    refine WL.c rfl (o_ld TI3 rfl rfl (cell_of hB9 rfl) ?_)
    refine WL.nil ?_
    refine W.block ?_
    refine W.seq ?_
    refine W.region ?_
    refine WL.c rfl (o_eq rfl rfl ?_)
    refine WL.c rfl (o_ash (show _ = Value.bool _ from rfl) ?_)
    refine WL.nil ?_
    refine W.condF' rfl (by rw [hk]; decide) ?_
    refine W.seq ?_
    refine W.region ?_
    refine WL.c rfl (o_eq rfl rfl ?_)
    refine WL.c rfl (o_ash (show _ = Value.bool _ from rfl) ?_)
    refine WL.nil ?_
    refine W.condF' rfl (by rw [hk]; decide) ?_
    refine W.seq ?_
    refine W.region ?_
    refine WL.c rfl (o_eq rfl rfl ?_)
    refine WL.c rfl (o_ash (show _ = Value.bool _ from rfl) ?_)
    refine WL.nil ?_
    refine W.condF' rfl (by rw [hk]; decide) ?_
    refine W.seq ?_
    refine W.region ?_
    refine WL.c rfl (o_eq rfl rfl ?_)
    refine WL.c rfl (o_ash (show _ = Value.bool _ from rfl) ?_)
    refine WL.nil ?_
    refine W.condT' rfl (by rw [hk]; decide) ?_
    refine W.region ?_
    refine WL.c rfl (o_mvh h0 ?_)
    refine WL.c rfl (o_fa 2 TI30 rfl TI9 rfl h9 ?_)
    refine WL.c rfl (o_ld TI9 rfl rfl (cell_of hB9 rfl) ?_)
    refine WL.c rfl (o_call Try.call17 (lc rfl (lc rfl ln)) ((put_f H p _ _ (y.name) _ hM (by omega)).mono ?_))
    rintro v118 w118 ⟨vm118, hM2, ho118⟩
    replace hrow := own_only hrow ho118 (fun b hb hF => by simp [Value.ownBlock] at hb; have := hF.1; omega)
    replace hB9 := ho118.blk hB9 (fun hF => hF.2 _ _ hB9)
    replace hx := FW.put hx ho118
    clear hM
    have hM := hM2
    clear hM2
    refine WL.nil ?_
    refine W.seq ?_
    refine W.region ?_
    refine WL.c rfl (o_mvh (show _ = Value.int _ _ from rfl) ?_)
    refine WL.c rfl (o_ash (show _ = Value.int _ _ from rfl) ?_)
    refine WL.nil ?_
    refine W.ret ?_
    refine ret1v rfl (show _ = Value.int _ _ from rfl) ?_
    exact ⟨congrArg (Value.int .i64) (by simp [Tr.flat, Trs.flat]), _, by rw [hwr]; exact hM, by rw [hpl]; exact hrow, hx⟩
  · skip
    have hk1 : y.kids = 1 ∧ 0 ≤ y.n ∧ y.n ≤ 2147483647 := by rcases okB_cases hok with h | h | h | h | h <;> omega
    obtain ⟨t, rfl⟩ := trs_one (ts := ks) (by have : (ks.len : Int) = y.kids := hw.2.2.2.1; omega)
    have hwt : t.wf y.kind (deep + 1) := hw.2.2.2.2.1
    have htl : (Trs.cons t .nil).flat = t.flat := by simp [Trs.flat]
    have hAl : ((A ++ [{ y with at_ := (at0 : Int) }]).length : Int) = (A.length : Int) + 1 := by simp
    rw [htl] at hrow hn hb hN2 hN
    have hN3 : N = ((A ++ [{ y with at_ := (at0 : Int) }]) ++ (t.flat ++ C)).length := by rw [hN]; simp
    replace hrow : w.ownsRow HL 30 7 (.slice (some ⟨g, 0, none⟩) N cap) N (exs ((A ++ [{ y with at_ := (at0 : Int) }]) ++ (t.flat ++ C))) := by rw [List.append_assoc]; exact hrow
    have hbI : (bs ++ [118, 101, 99, 116, 111, 114, 60]).length + 80 * t.flat.length ≤ 140737488355328 := by simp; omega
    have hwl := wr_len t (bs ++ [118, 101, 99, 116, 111, 114, 60]) _ _ hwt
    have hd10 := digL_len 10 y.n.toNat (by omega) (by decide)
    have hnn : y.n = (y.n.toNat : Int) := by omega
    have hdg := fun w => digits_spec y.n.toNat (by omega) w
    simp only [← hnn] at hdg
    have hwr : (Tr.node y (.cons t .nil)).wr bs = t.wr (bs ++ [118, 101, 99, 116, 111, 114, 60]) ++ ([44, 32] ++ digL y.n.toNat ++ [62]) := by simp [Tr.wr, Trs.wrK, hk]
    have hpl : (Tr.node y (.cons t .nil)).pl at0 bs = { y with at_ := (at0 : Int) } :: t.pl (bs ++ [118, 101, 99, 116, 111, 114, 60]).length (bs ++ [118, 101, 99, 116, 111, 114, 60]) := by simp [Tr.pl, Trs.plK, hk]
    refine W.region ?_
    refine WL.c rfl (o_fa 0 TI30 rfl TI3 rfl h9 ?_)
    refine WL.c rfl (o_ld TI3 rfl rfl (cell_of hB9 rfl) ?_)
    refine WL.nil ?_
    refine W.block ?_
    refine W.seq ?_
    refine W.region ?_
    refine WL.c rfl (o_eq rfl rfl ?_)
    refine WL.c rfl (o_ash (show _ = Value.bool _ from rfl) ?_)
    refine WL.nil ?_
    refine W.condF' rfl (by rw [hk]; decide) ?_
    refine W.seq ?_
    refine W.region ?_
    refine WL.c rfl (o_eq rfl rfl ?_)
    refine WL.c rfl (o_ash (show _ = Value.bool _ from rfl) ?_)
    refine WL.nil ?_
    refine W.condF' rfl (by rw [hk]; decide) ?_
    refine W.seq ?_
    refine W.region ?_
    refine WL.c rfl (o_eq rfl rfl ?_)
    refine WL.c rfl (o_ash (show _ = Value.bool _ from rfl) ?_)
    refine WL.nil ?_
    refine W.condF' rfl (by rw [hk]; decide) ?_
    refine W.seq ?_
    refine W.region ?_
    refine WL.c rfl (o_eq rfl rfl ?_)
    refine WL.c rfl (o_ash (show _ = Value.bool _ from rfl) ?_)
    refine WL.nil ?_
    refine W.condF' rfl (by rw [hk]; decide) ?_
    refine W.seq ?_
    refine W.seq ?_
    refine W.region ?_
    refine WL.c rfl (o_eq rfl rfl ?_)
    refine WL.c rfl (o_ash (show _ = Value.bool _ from rfl) ?_)
    refine WL.nil ?_
    refine W.condT' rfl (by rw [hk]; decide) ?_
    refine W.skip ?_
    refine W.condT' rfl (by rw [hk]; decide) ?_
    refine W.seq ?_
    refine W.seq ?_
    refine W.region ?_
    refine WL.c rfl (o_fa 0 TI30 rfl TI3 rfl h9 ?_)
    refine WL.c rfl (o_ld TI3 rfl rfl (cell_of hB9 rfl) ?_)
    refine WL.c rfl (o_eq rfl rfl ?_)
    refine WL.nil ?_
    refine W.condT' rfl (by rw [hk]; decide) ?_
    refine W.region ?_
    refine WL.c rfl (o_mvh h0 ?_)
    refine WL.c rfl (o_call Try.call17 (lc rfl (lc rfl ln)) ((put_f H p _ _ ([118, 101, 99, 116, 111, 114, 60]) _ hM (by simp; omega)).mono ?_))
    rintro v126 w126 ⟨vm126, hM2, ho126⟩
    replace hrow := own_only hrow ho126 (fun b hb hF => by simp [Value.ownBlock] at hb; have := hF.1; omega)
    replace hB9 := ho126.blk hB9 (fun hF => hF.2 _ _ hB9)
    replace hx := FW.put hx ho126
    clear hM
    have hM := hM2
    clear hM2
    refine WL.nil ?_
    refine W.seq ?_
    refine W.region ?_
    refine WL.c rfl (o_mvh h0 ?_)
    refine WL.c rfl (o_mvh h1 ?_)
    refine WL.c rfl (o_mvh (show _ = Value.int _ _ from rfl) ?_)
    have hIH := IH t y.kind (deep + 1) H p _ g cap HL (A ++ [{ y with at_ := (at0 : Int) }]) C _ _ false N _ hn hwt hM hN3 hNb hrow hg (fun h => by cases h) (fun _ => rfl) hbI
    rw [hAl] at hIH
    refine WL.c rfl (o_call Try.call18 (lc rfl (lc rfl (lc rfl (lc rfl ln)))) ((hIH).mono ?_))
    rintro v132 w132 ⟨rfl, vm132, hM2, hrow2, ho132⟩
    replace hB9 := ho132.blk hB9 (fun hF => by rcases hF with hF | hF; omega; exact hF.2 _ _ hB9)
    replace hx := FW.tr hx ho132
    clear hM hrow
    have hM := hM2
    have hrow := hrow2
    clear hM2 hrow2
    refine WL.c rfl (o_ash (show _ = Value.int _ _ from rfl) ?_)
    refine WL.nil ?_
    refine W.region ?_
    refine WL.c rfl (o_mvh h0 ?_)
    refine WL.c rfl (o_fa 1 TI30 rfl TI3 rfl h9 ?_)
    refine WL.c rfl (o_ld TI3 rfl rfl (cell_of hB9 rfl) ?_)
    refine WL.c rfl (o_call Try.call29 (lc rfl ln) ((hdg _).mono ?_))
    rintro v136 w136 ⟨rfl, hxd136⟩
    replace hrow := own_ext hrow hxd136
    replace hB9 := hxd136.blk hB9 (fun h => h)
    replace hx := FW.ext hx hxd136
    replace hM := hM.ext hxd136
    refine WL.c rfl (o_addT (xs := [44, 32]) (ys := digL y.n.toNat) rfl rfl (by simp; omega) ?_)
    refine WL.c rfl (o_addT (xs := [44, 32] ++ digL y.n.toNat) (ys := [62]) rfl rfl (by simp; omega) ?_)
    refine WL.c rfl (o_call Try.call17 (lc rfl (lc rfl ln)) ((put_f H p _ _ ([44, 32] ++ digL y.n.toNat ++ [62]) _ hM (by simp only [List.length_append, List.length_cons, List.length_nil] at hwl ⊢; omega)).mono ?_))
    rintro v139 w139 ⟨vm139, hM2, ho139⟩
    replace hrow := own_only hrow ho139 (fun b hb hF => by simp [Value.ownBlock] at hb; have := hF.1; omega)
    replace hB9 := ho139.blk hB9 (fun hF => hF.2 _ _ hB9)
    replace hx := FW.put hx ho139
    clear hM
    have hM := hM2
    clear hM2
    refine WL.nil ?_
    refine W.seq ?_
    refine W.region ?_
    refine WL.c rfl (o_mvh (show _ = Value.int _ _ from rfl) ?_)
    refine WL.c rfl (o_ash (show _ = Value.int _ _ from rfl) ?_)
    refine WL.nil ?_
    refine W.ret ?_
    refine ret1v rfl (show _ = Value.int _ _ from rfl) ?_
    have hfl : (A ++ [{ y with at_ := (at0 : Int) }]).length + t.flat.length = A.length + (Tr.node y (.cons t .nil)).flat.length := by simp [Tr.flat, Trs.flat] <;> omega
    exact ⟨congrArg (fun z : Nat => Value.int .i64 (z : Int)) hfl, _, by rw [hwr]; exact hM, by rw [hpl]; simpa using hrow, hx⟩
  · skip
    have hk1 : y.kids = 1 ∧ 0 ≤ y.n ∧ y.n ≤ 2147483647 := by rcases okB_cases hok with h | h | h | h | h <;> omega
    obtain ⟨t, rfl⟩ := trs_one (ts := ks) (by have : (ks.len : Int) = y.kids := hw.2.2.2.1; omega)
    have hwt : t.wf y.kind (deep + 1) := hw.2.2.2.2.1
    have htl : (Trs.cons t .nil).flat = t.flat := by simp [Trs.flat]
    have hAl : ((A ++ [{ y with at_ := (at0 : Int) }]).length : Int) = (A.length : Int) + 1 := by simp
    rw [htl] at hrow hn hb hN2 hN
    have hN3 : N = ((A ++ [{ y with at_ := (at0 : Int) }]) ++ (t.flat ++ C)).length := by rw [hN]; simp
    replace hrow : w.ownsRow HL 30 7 (.slice (some ⟨g, 0, none⟩) N cap) N (exs ((A ++ [{ y with at_ := (at0 : Int) }]) ++ (t.flat ++ C))) := by rw [List.append_assoc]; exact hrow
    have hbI : (bs ++ [108, 105, 115, 116, 32, 60]).length + 80 * t.flat.length ≤ 140737488355328 := by simp; omega
    have hwl := wr_len t (bs ++ [108, 105, 115, 116, 32, 60]) _ _ hwt
    have hd10 := digL_len 10 y.n.toNat (by omega) (by decide)
    have hnn : y.n = (y.n.toNat : Int) := by omega
    have hdg := fun w => digits_spec y.n.toNat (by omega) w
    simp only [← hnn] at hdg
    have hwr : (Tr.node y (.cons t .nil)).wr bs = t.wr (bs ++ [108, 105, 115, 116, 32, 60]) ++ ([44, 32] ++ digL y.n.toNat ++ [62]) := by simp [Tr.wr, Trs.wrK, hk]
    have hpl : (Tr.node y (.cons t .nil)).pl at0 bs = { y with at_ := (at0 : Int) } :: t.pl (bs ++ [108, 105, 115, 116, 32, 60]).length (bs ++ [108, 105, 115, 116, 32, 60]) := by simp [Tr.pl, Trs.plK, hk]
    refine W.region ?_
    refine WL.c rfl (o_fa 0 TI30 rfl TI3 rfl h9 ?_)
    refine WL.c rfl (o_ld TI3 rfl rfl (cell_of hB9 rfl) ?_)
    refine WL.nil ?_
    refine W.block ?_
    refine W.seq ?_
    refine W.region ?_
    refine WL.c rfl (o_eq rfl rfl ?_)
    refine WL.c rfl (o_ash (show _ = Value.bool _ from rfl) ?_)
    refine WL.nil ?_
    refine W.condF' rfl (by rw [hk]; decide) ?_
    refine W.seq ?_
    refine W.region ?_
    refine WL.c rfl (o_eq rfl rfl ?_)
    refine WL.c rfl (o_ash (show _ = Value.bool _ from rfl) ?_)
    refine WL.nil ?_
    refine W.condF' rfl (by rw [hk]; decide) ?_
    refine W.seq ?_
    refine W.region ?_
    refine WL.c rfl (o_eq rfl rfl ?_)
    refine WL.c rfl (o_ash (show _ = Value.bool _ from rfl) ?_)
    refine WL.nil ?_
    refine W.condF' rfl (by rw [hk]; decide) ?_
    refine W.seq ?_
    refine W.region ?_
    refine WL.c rfl (o_eq rfl rfl ?_)
    refine WL.c rfl (o_ash (show _ = Value.bool _ from rfl) ?_)
    refine WL.nil ?_
    refine W.condF' rfl (by rw [hk]; decide) ?_
    refine W.seq ?_
    refine W.seq ?_
    refine W.region ?_
    refine WL.c rfl (o_eq rfl rfl ?_)
    refine WL.c rfl (o_ash (show _ = Value.bool _ from rfl) ?_)
    refine WL.nil ?_
    refine W.condF' rfl (by rw [hk]; decide) ?_
    refine W.region ?_
    refine WL.c rfl (o_eq rfl rfl ?_)
    refine WL.c rfl (o_ash (show _ = Value.bool _ from rfl) ?_)
    refine WL.nil ?_
    refine W.condT' rfl (by rw [hk]; decide) ?_
    refine W.seq ?_
    refine W.seq ?_
    refine W.region ?_
    refine WL.c rfl (o_fa 0 TI30 rfl TI3 rfl h9 ?_)
    refine WL.c rfl (o_ld TI3 rfl rfl (cell_of hB9 rfl) ?_)
    refine WL.c rfl (o_eq rfl rfl ?_)
    refine WL.nil ?_
    refine W.condF' rfl (by rw [hk]; decide) ?_
    refine W.region ?_
    refine WL.c rfl (o_mvh h0 ?_)
    refine WL.c rfl (o_call Try.call17 (lc rfl (lc rfl ln)) ((put_f H p _ _ ([108, 105, 115, 116, 32, 60]) _ hM (by simp; omega)).mono ?_))
    rintro v128 w128 ⟨vm128, hM2, ho128⟩
    replace hrow := own_only hrow ho128 (fun b hb hF => by simp [Value.ownBlock] at hb; have := hF.1; omega)
    replace hB9 := ho128.blk hB9 (fun hF => hF.2 _ _ hB9)
    replace hx := FW.put hx ho128
    clear hM
    have hM := hM2
    clear hM2
    refine WL.nil ?_
    refine W.seq ?_
    refine W.region ?_
    refine WL.c rfl (o_mvh h0 ?_)
    refine WL.c rfl (o_mvh h1 ?_)
    refine WL.c rfl (o_mvh (show _ = Value.int _ _ from rfl) ?_)
    have hIH := IH t y.kind (deep + 1) H p _ g cap HL (A ++ [{ y with at_ := (at0 : Int) }]) C _ _ false N _ hn hwt hM hN3 hNb hrow hg (fun h => by cases h) (fun _ => rfl) hbI
    rw [hAl] at hIH
    refine WL.c rfl (o_call Try.call18 (lc rfl (lc rfl (lc rfl (lc rfl ln)))) ((hIH).mono ?_))
    rintro v132 w132 ⟨rfl, vm132, hM2, hrow2, ho132⟩
    replace hB9 := ho132.blk hB9 (fun hF => by rcases hF with hF | hF; omega; exact hF.2 _ _ hB9)
    replace hx := FW.tr hx ho132
    clear hM hrow
    have hM := hM2
    have hrow := hrow2
    clear hM2 hrow2
    refine WL.c rfl (o_ash (show _ = Value.int _ _ from rfl) ?_)
    refine WL.nil ?_
    refine W.region ?_
    refine WL.c rfl (o_mvh h0 ?_)
    refine WL.c rfl (o_fa 1 TI30 rfl TI3 rfl h9 ?_)
    refine WL.c rfl (o_ld TI3 rfl rfl (cell_of hB9 rfl) ?_)
    refine WL.c rfl (o_call Try.call29 (lc rfl ln) ((hdg _).mono ?_))
    rintro v136 w136 ⟨rfl, hxd136⟩
    replace hrow := own_ext hrow hxd136
    replace hB9 := hxd136.blk hB9 (fun h => h)
    replace hx := FW.ext hx hxd136
    replace hM := hM.ext hxd136
    refine WL.c rfl (o_addT (xs := [44, 32]) (ys := digL y.n.toNat) rfl rfl (by simp; omega) ?_)
    refine WL.c rfl (o_addT (xs := [44, 32] ++ digL y.n.toNat) (ys := [62]) rfl rfl (by simp; omega) ?_)
    refine WL.c rfl (o_call Try.call17 (lc rfl (lc rfl ln)) ((put_f H p _ _ ([44, 32] ++ digL y.n.toNat ++ [62]) _ hM (by simp only [List.length_append, List.length_cons, List.length_nil] at hwl ⊢; omega)).mono ?_))
    rintro v139 w139 ⟨vm139, hM2, ho139⟩
    replace hrow := own_only hrow ho139 (fun b hb hF => by simp [Value.ownBlock] at hb; have := hF.1; omega)
    replace hB9 := ho139.blk hB9 (fun hF => hF.2 _ _ hB9)
    replace hx := FW.put hx ho139
    clear hM
    have hM := hM2
    clear hM2
    refine WL.nil ?_
    refine W.seq ?_
    refine W.region ?_
    refine WL.c rfl (o_mvh (show _ = Value.int _ _ from rfl) ?_)
    refine WL.c rfl (o_ash (show _ = Value.int _ _ from rfl) ?_)
    refine WL.nil ?_
    refine W.ret ?_
    refine ret1v rfl (show _ = Value.int _ _ from rfl) ?_
    have hfl : (A ++ [{ y with at_ := (at0 : Int) }]).length + t.flat.length = A.length + (Tr.node y (.cons t .nil)).flat.length := by simp [Tr.flat, Trs.flat] <;> omega
    exact ⟨congrArg (fun z : Nat => Value.int .i64 (z : Int)) hfl, _, by rw [hwr]; exact hM, by rw [hpl]; simpa using hrow, hx⟩
  · skip
    have hk1 : y.kids = 1 ∧ 0 ≤ y.n ∧ y.n ≤ 2147483647 := by rcases okB_cases hok with h | h | h | h | h <;> omega
    obtain ⟨t, rfl⟩ := trs_one (ts := ks) (by have : (ks.len : Int) = y.kids := hw.2.2.2.1; omega)
    have hwt : t.wf y.kind (deep + 1) := hw.2.2.2.2.1
    have htl : (Trs.cons t .nil).flat = t.flat := by simp [Trs.flat]
    have hAl : ((A ++ [{ y with at_ := (at0 : Int) }]).length : Int) = (A.length : Int) + 1 := by simp
    rw [htl] at hrow hn hb hN2 hN
    have hN3 : N = ((A ++ [{ y with at_ := (at0 : Int) }]) ++ (t.flat ++ C)).length := by rw [hN]; simp
    replace hrow : w.ownsRow HL 30 7 (.slice (some ⟨g, 0, none⟩) N cap) N (exs ((A ++ [{ y with at_ := (at0 : Int) }]) ++ (t.flat ++ C))) := by rw [List.append_assoc]; exact hrow
    have hbI : (bs ++ [111, 112, 116, 105, 111, 110, 60]).length + 80 * t.flat.length ≤ 140737488355328 := by simp; omega
    have hwl := wr_len t (bs ++ [111, 112, 116, 105, 111, 110, 60]) _ _ hwt
    have hd10 := digL_len 10 y.n.toNat (by omega) (by decide)
    have hnn : y.n = (y.n.toNat : Int) := by omega
    have hdg := fun w => digits_spec y.n.toNat (by omega) w
    simp only [← hnn] at hdg
    have hwr : (Tr.node y (.cons t .nil)).wr bs = t.wr (bs ++ [111, 112, 116, 105, 111, 110, 60]) ++ [62] := by simp [Tr.wr, Trs.wrK, hk]
    have hpl : (Tr.node y (.cons t .nil)).pl at0 bs = { y with at_ := (at0 : Int) } :: t.pl (bs ++ [111, 112, 116, 105, 111, 110, 60]).length (bs ++ [111, 112, 116, 105, 111, 110, 60]) := by simp [Tr.pl, Trs.plK, hk]
    refine W.region ?_
    refine WL.c rfl (o_fa 0 TI30 rfl TI3 rfl h9 ?_)
    refine WL.c rfl (o_ld TI3 rfl rfl (cell_of hB9 rfl) ?_)
    refine WL.nil ?_
    refine W.block ?_
    refine W.seq ?_
    refine W.region ?_
    refine WL.c rfl (o_eq rfl rfl ?_)
    refine WL.c rfl (o_ash (show _ = Value.bool _ from rfl) ?_)
    refine WL.nil ?_
    refine W.condF' rfl (by rw [hk]; decide) ?_
    refine W.seq ?_
    refine W.region ?_
    refine WL.c rfl (o_eq rfl rfl ?_)
    refine WL.c rfl (o_ash (show _ = Value.bool _ from rfl) ?_)
    refine WL.nil ?_
    refine W.condF' rfl (by rw [hk]; decide) ?_
    refine W.seq ?_
    refine W.region ?_
    refine WL.c rfl (o_eq rfl rfl ?_)
    refine WL.c rfl (o_ash (show _ = Value.bool _ from rfl) ?_)
    refine WL.nil ?_
    refine W.condF' rfl (by rw [hk]; decide) ?_
    refine W.seq ?_
    refine W.region ?_
    refine WL.c rfl (o_eq rfl rfl ?_)
    refine WL.c rfl (o_ash (show _ = Value.bool _ from rfl) ?_)
    refine WL.nil ?_
    refine W.condF' rfl (by rw [hk]; decide) ?_
    refine W.seq ?_
    refine W.seq ?_
    refine W.region ?_
    refine WL.c rfl (o_eq rfl rfl ?_)
    refine WL.c rfl (o_ash (show _ = Value.bool _ from rfl) ?_)
    refine WL.nil ?_
    refine W.condF' rfl (by rw [hk]; decide) ?_
    refine W.region ?_
    refine WL.c rfl (o_eq rfl rfl ?_)
    refine WL.c rfl (o_ash (show _ = Value.bool _ from rfl) ?_)
    refine WL.nil ?_
    refine W.condF' rfl (by rw [hk]; decide) ?_
    refine W.seq ?_
    refine W.region ?_
    refine WL.c rfl (o_eq rfl rfl ?_)
    refine WL.c rfl (o_ash (show _ = Value.bool _ from rfl) ?_)
    refine WL.nil ?_
    refine W.condT' rfl (by rw [hk]; decide) ?_
    refine W.seq ?_
    refine W.region ?_
    refine WL.c rfl (o_mvh h0 ?_)
    refine WL.c rfl (o_call Try.call17 (lc rfl (lc rfl ln)) ((put_f H p _ _ ([111, 112, 116, 105, 111, 110, 60]) _ hM (by simp; omega)).mono ?_))
    rintro v143 w143 ⟨vm143, hM2, ho143⟩
    replace hrow := own_only hrow ho143 (fun b hb hF => by simp [Value.ownBlock] at hb; have := hF.1; omega)
    replace hB9 := ho143.blk hB9 (fun hF => hF.2 _ _ hB9)
    replace hx := FW.put hx ho143
    clear hM
    have hM := hM2
    clear hM2
    refine WL.nil ?_
    refine W.seq ?_
    refine W.region ?_
    refine WL.c rfl (o_mvh h0 ?_)
    refine WL.c rfl (o_mvh h1 ?_)
    refine WL.c rfl (o_mvh (show _ = Value.int _ _ from rfl) ?_)
    have hIH := IH t y.kind (deep + 1) H p _ g cap HL (A ++ [{ y with at_ := (at0 : Int) }]) C _ _ false N _ hn hwt hM hN3 hNb hrow hg (fun h => by cases h) (fun _ => rfl) hbI
    rw [hAl] at hIH
    refine WL.c rfl (o_call Try.call18 (lc rfl (lc rfl (lc rfl (lc rfl ln)))) ((hIH).mono ?_))
    rintro v147 w147 ⟨rfl, vm147, hM2, hrow2, ho147⟩
    replace hB9 := ho147.blk hB9 (fun hF => by rcases hF with hF | hF; omega; exact hF.2 _ _ hB9)
    replace hx := FW.tr hx ho147
    clear hM hrow
    have hM := hM2
    have hrow := hrow2
    clear hM2 hrow2
    refine WL.c rfl (o_ash (show _ = Value.int _ _ from rfl) ?_)
    refine WL.nil ?_
    refine W.region ?_
    refine WL.c rfl (o_mvh h0 ?_)
    refine WL.c rfl (o_call Try.call17 (lc rfl (lc rfl ln)) ((put_f H p _ _ ([62]) _ hM (by simp only [List.length_append, List.length_cons, List.length_nil] at hwl ⊢; omega)).mono ?_))
    rintro v149 w149 ⟨vm149, hM2, ho149⟩
    replace hrow := own_only hrow ho149 (fun b hb hF => by simp [Value.ownBlock] at hb; have := hF.1; omega)
    replace hB9 := ho149.blk hB9 (fun hF => hF.2 _ _ hB9)
    replace hx := FW.put hx ho149
    clear hM
    have hM := hM2
    clear hM2
    refine WL.nil ?_
    refine W.seq ?_
    refine W.region ?_
    refine WL.c rfl (o_mvh (show _ = Value.int _ _ from rfl) ?_)
    refine WL.c rfl (o_ash (show _ = Value.int _ _ from rfl) ?_)
    refine WL.nil ?_
    refine W.ret ?_
    refine ret1v rfl (show _ = Value.int _ _ from rfl) ?_
    have hfl : (A ++ [{ y with at_ := (at0 : Int) }]).length + t.flat.length = A.length + (Tr.node y (.cons t .nil)).flat.length := by simp [Tr.flat, Trs.flat] <;> omega
    exact ⟨congrArg (fun z : Nat => Value.int .i64 (z : Int)) hfl, _, by rw [hwr]; exact hM, by rw [hpl]; simpa using hrow, hx⟩
  · skip
    have hkk : y.kids = (ks.len : Int) := hw.2.2.2.1.symm
    have hwk : ks.wf 7 (deep + 1) := by have h := hw.2.2.2.2; rw [hk] at h; exact h
    have hwr : (Tr.node y ks).wr bs = ks.wrR false true (bs ++ [117, 110, 105, 111, 110, 123]) ++ [125] := by simp [Tr.wr, hk]
    have hpl : (Tr.node y ks).pl at0 bs = { y with at_ := (at0 : Int) } :: ks.plR false true (bs ++ [117, 110, 105, 111, 110, 123]) := by simp [Tr.pl, hk]
    have hwl := wrR_len ks false true (bs ++ [117, 110, 105, 111, 110, 123]) (deep + 1) hwk
    have hks64 : ks.len ≤ 140737488355328 := by have := hw.2.1; unfold manyB at this; simp at this; omega
    refine W.region ?_
    refine WL.c rfl (o_fa 0 TI30 rfl TI3 rfl h9 ?_)
    refine WL.c rfl (o_ld TI3 rfl rfl (cell_of hB9 rfl) ?_)
    refine WL.nil ?_
    refine W.block ?_
    refine W.seq ?_
    refine W.region ?_
    refine WL.c rfl (o_eq rfl rfl ?_)
    refine WL.c rfl (o_ash (show _ = Value.bool _ from rfl) ?_)
    refine WL.nil ?_
    refine W.condF' rfl (by rw [hk]; decide) ?_
    refine W.seq ?_
    refine W.region ?_
    refine WL.c rfl (o_eq rfl rfl ?_)
    refine WL.c rfl (o_ash (show _ = Value.bool _ from rfl) ?_)
    refine WL.nil ?_
    refine W.condF' rfl (by rw [hk]; decide) ?_
    refine W.seq ?_
    refine W.region ?_
    refine WL.c rfl (o_eq rfl rfl ?_)
    refine WL.c rfl (o_ash (show _ = Value.bool _ from rfl) ?_)
    refine WL.nil ?_
    refine W.condF' rfl (by rw [hk]; decide) ?_
    refine W.seq ?_
    refine W.region ?_
    refine WL.c rfl (o_eq rfl rfl ?_)
    refine WL.c rfl (o_ash (show _ = Value.bool _ from rfl) ?_)
    refine WL.nil ?_
    refine W.condF' rfl (by rw [hk]; decide) ?_
    refine W.seq ?_
    refine W.seq ?_
    refine W.region ?_
    refine WL.c rfl (o_eq rfl rfl ?_)
    refine WL.c rfl (o_ash (show _ = Value.bool _ from rfl) ?_)
    refine WL.nil ?_
    refine W.condF' rfl (by rw [hk]; decide) ?_
    refine W.region ?_
    refine WL.c rfl (o_eq rfl rfl ?_)
    refine WL.c rfl (o_ash (show _ = Value.bool _ from rfl) ?_)
    refine WL.nil ?_
    refine W.condF' rfl (by rw [hk]; decide) ?_
    refine W.seq ?_
    refine W.region ?_
    refine WL.c rfl (o_eq rfl rfl ?_)
    refine WL.c rfl (o_ash (show _ = Value.bool _ from rfl) ?_)
    refine WL.nil ?_
    refine W.condF' rfl (by rw [hk]; decide) ?_
    refine W.seq ?_
    refine W.region ?_
    refine WL.c rfl (o_ash (show _ = Value.string _ from rfl) ?_)
    refine WL.nil ?_
    refine W.seq ?_
    refine W.seq ?_
    refine W.region ?_
    refine WL.c rfl (o_fa 0 TI30 rfl TI3 rfl h9 ?_)
    refine WL.c rfl (o_ld TI3 rfl rfl (cell_of hB9 rfl) ?_)
    refine WL.c rfl (o_eq rfl rfl ?_)
    refine WL.nil ?_
    refine W.condF' rfl (by rw [hk]; decide) ?_
    refine W.skip ?_
    refine W.seq ?_
    refine W.region ?_
    refine WL.c rfl (o_mvh h0 ?_)
    refine WL.c rfl (o_mvh (show _ = Value.string _ from rfl) ?_)
    refine WL.c rfl (o_call Try.call17 (lc rfl (lc rfl ln)) ((put_f H p _ _ ([117, 110, 105, 111, 110, 123]) _ hM (by simp; omega)).mono ?_))
    rintro v44 w44 ⟨vm44, hM2, ho44⟩
    replace hrow := own_only hrow ho44 (fun b hb hF => by simp [Value.ownBlock] at hb; have := hF.1; omega)
    replace hB9 := ho44.blk hB9 (fun hF => hF.2 _ _ hB9)
    replace hx := FW.put hx ho44
    clear hM
    have hM := hM2
    clear hM2
    refine WL.nil ?_
    refine W.seq ?_
    refine W.seq ?_
    refine W.region ?_
    refine WL.c rfl (o_ash (show _ = Value.int _ _ from rfl) ?_)
    refine WL.nil ?_
    refine W.block ?_
    refine W.loop (fun e w => ∃ (k : Nat) (P : List Ex) (rest : Trs) (b : List UInt8) (vv : Value), k + rest.len = ks.len ∧ rest.wf 7 (deep + 1) ∧ ks.wrR false true (bs ++ [117, 110, 105, 111, 110, 123]) = rest.wrR false (decide (k = 0)) b ∧ ks.plR false true (bs ++ [117, 110, 105, 111, 110, 123]) = P ++ rest.plR false (decide (k = 0)) b ∧ P.length + rest.flat.length = ks.flat.length ∧ b.length + 80 * rest.flat.length + 41 ≤ 140737488355328 ∧ e 0 = .pointer (some ⟨p, 0, none⟩) ∧ e 1 = .slice (some ⟨g, 0, none⟩) N cap ∧ e 9 = .pointer (some ⟨b9, 0, none⟩) ∧ e 10 = .int .i64 (((A ++ { y with at_ := (at0 : Int) } :: P).length : Nat) : Int) ∧ e 12 = .int .i64 (k : Int) ∧ w.heap[b9]? = some (.cells (exV y).toArray 30 (0, 0)) ∧ WrM w H p vv b ∧ w.ownsRow HL 30 7 (.slice (some ⟨g, 0, none⟩) N cap) N (exs ((A ++ { y with at_ := (at0 : Int) } :: P) ++ (rest.flat ++ C))) ∧ Only (FW H g w0) w0 w) (fun e w => ks.len - (intOf (e 12)).toNat) ?_ ?_
    · refine ⟨0, [], ks, _, vm44, by omega, hwk, rfl, rfl, by simp, by simp; omega, h0, h1, h9, congrArg (Value.int .i64) (by simp), rfl, hB9, hM, ?_, hx⟩
      simpa using hrow
    rintro e w ⟨k, P, rest, b, vv, hkl, hrw, hwq, hpq, hfq, hbq, h0, h1, h9, h10, h12, hB9, hM, hrow, hx⟩
    have hm12 := h12
    refine W.seq ?_
    refine W.seq ?_
    rcases rest with _ | ⟨t, ts⟩
    · skip
      have hk1 : k = ks.len := by simpa [Trs.len] using hkl
      have hwz : ks.wrR false true (bs ++ [117, 110, 105, 111, 110, 123]) = b := by rw [hwq]; rfl
      have hpz : ks.plR false true (bs ++ [117, 110, 105, 111, 110, 123]) = P := by rw [hpq]; simp [Trs.plR]
      refine W.region ?_
      refine WL.c rfl (o_mvh h12 ?_)
      refine WL.c rfl (o_fa 5 TI30 rfl TI3 rfl h9 ?_)
      refine WL.c rfl (o_ld TI3 rfl rfl (cell_of hB9 rfl) ?_)
      refine WL.c rfl (o_lt rfl rfl ?_)
      refine WL.c rfl (o_mvh (show _ = Value.bool _ from rfl) ?_)
      refine WL.s rfl (decide_eq_false (by omega)) rfl ?_
      refine WL.s rfl (decide_eq_false (by omega)) rfl ?_
      refine WL.s rfl (decide_eq_false (by omega)) rfl ?_
      refine WL.s rfl (decide_eq_false (by omega)) rfl ?_
      refine WL.c rfl (o_pickF rfl (decide_eq_false (by omega)) ?_)
      refine WL.nil ?_
      refine W.condF' rfl (rfl) ?_
      refine W.exit ?_
      refine W.region ?_
      refine WL.c rfl (o_mvh h0 ?_)
      refine WL.c rfl (o_call Try.call17 (lc rfl (lc rfl ln)) ((put_f H p _ _ ([125]) _ hM (by rw [← hwz]; simp only [List.length_append, List.length_cons, List.length_nil] at hwl ⊢; omega)).mono ?_))
      rintro v95 w95 ⟨vm95, hM2, ho95⟩
      replace hrow := own_only hrow ho95 (fun b hb hF => by simp [Value.ownBlock] at hb; have := hF.1; omega)
      replace hB9 := ho95.blk hB9 (fun hF => hF.2 _ _ hB9)
      replace hx := FW.put hx ho95
      clear hM
      have hM := hM2
      clear hM2
      refine WL.nil ?_
      refine W.seq ?_
      refine W.region ?_
      refine WL.c rfl (o_mvh h10 ?_)
      refine WL.c rfl (o_ash (show _ = Value.int _ _ from rfl) ?_)
      refine WL.nil ?_
      refine W.ret ?_
      refine ret1v rfl (show _ = Value.int _ _ from rfl) ?_
      exact ⟨congrArg (fun z : Nat => Value.int .i64 (z : Int)) (by simp only [Tr.flat, Trs.flat, List.length_append, List.length_cons, List.length_nil] at hfq ⊢; omega), _, by rw [hwr, hwz]; exact hM, by rw [hpl, hpz]; simpa [Trs.flat] using hrow, hx⟩
    · skip
      have hk1 : k + ts.len + 1 = ks.len := by simp only [Trs.len] at hkl; omega
      obtain ⟨F, hF1, hF2⟩ := put_flat (t := t) (z := 0)
      obtain ⟨AA, hA2⟩ : ∃ AA, AA = (A ++ { y with at_ := (at0 : Int) } :: P) := ⟨_, rfl⟩
      rw [← hA2] at h10 hrow
      simp only [Trs.flat, List.length_append] at hfq hbq
      have htl1 : t.flat.length = F.length + 1 := by rw [hF1]; simp
      have hAAl : AA.length = A.length + P.length + 1 := by rw [hA2]; simp; omega
      refine W.region ?_
      refine WL.c rfl (o_mvh h12 ?_)
      refine WL.c rfl (o_fa 5 TI30 rfl TI3 rfl h9 ?_)
      refine WL.c rfl (o_ld TI3 rfl rfl (cell_of hB9 rfl) ?_)
      refine WL.c rfl (o_lt rfl rfl ?_)
      refine WL.c rfl (o_mvh (show _ = Value.bool _ from rfl) ?_)
      refine WL.g rfl (decide_eq_true (by omega)) rfl (o_mvh h10 ?_)
      refine WL.g rfl (decide_eq_true (by omega)) rfl (o_mvh h1 ?_)
      refine WL.g rfl (decide_eq_true (by omega)) rfl (o_len TI38 rfl ?_)
      refine WL.g rfl (decide_eq_true (by omega)) rfl (o_lt rfl rfl ?_)
      refine WL.c rfl (o_pickA rfl rfl ?_)
      refine WL.nil ?_
      refine W.condT' rfl (by simp; omega) ?_
      refine W.skip ?_
      refine W.seq ?_
      refine W.block ?_
      refine W.seq ?_
      refine W.seq ?_
      refine W.region ?_
      refine WL.c rfl (o_mvh h12 ?_)
      refine WL.c rfl (o_gt rfl rfl ?_)
      refine WL.nil ?_
      refine W.cut (fun e1 w1 => e1 0 = .pointer (some ⟨p, 0, none⟩) ∧ e1 1 = .slice (some ⟨g, 0, none⟩) N cap ∧ e1 9 = .pointer (some ⟨b9, 0, none⟩) ∧ e1 10 = .int .i64 (AA.length : Int) ∧ e1 12 = .int .i64 (k : Int) ∧ ∃ vv2, w1.heap[b9]? = some (.cells (exV y).toArray 30 (0, 0)) ∧ WrM w1 H p vv2 (if decide (k = 0) = true then b else b ++ [44]) ∧ w1.ownsRow HL 30 7 (.slice (some ⟨g, 0, none⟩) N cap) N (exs (AA ++ ((Trs.cons t ts).flat ++ C))) ∧ Only (FW H g w0) w0 w1) ?_ ?_
      · -- both ways
        refine W.cond rfl (fun c58 => ?_) (fun c58 => ?_)
        · try simp only [decide_eq_true_eq, decide_eq_false_iff_not, Bool.not_eq_true', Bool.not_eq_false', Bool.and_eq_true, Bool.or_eq_true, Bool.and_eq_false_iff, Bool.or_eq_false_iff] at c58
          have hk0 : ¬ k = 0 := by omega
          refine W.region ?_
          refine WL.c rfl (o_mvh h0 ?_)
          refine WL.c rfl (o_call Try.call17 (lc rfl (lc rfl ln)) ((put_f H p _ _ ([44]) _ hM (by simp; omega)).mono ?_))
          rintro v60 w60 ⟨vm60, hM2, ho60⟩
          replace hrow := own_only hrow ho60 (fun b hb hF => by simp [Value.ownBlock] at hb; have := hF.1; omega)
          replace hB9 := ho60.blk hB9 (fun hF => hF.2 _ _ hB9)
          replace hx := FW.put hx ho60
          clear hM
          have hM := hM2
          clear hM2
          refine WL.nil ?_
          first | exact ⟨h0, h1, h9, h10, h12, _, hB9, by rw [if_pos (by simpa using hk0)]; exact hM, hrow, hx⟩ | exact ⟨h0, h1, h9, h10, h12, _, hB9, by rw [if_neg (by simpa using hk0)]; exact hM, hrow, hx⟩
        · try simp only [decide_eq_true_eq, decide_eq_false_iff_not, Bool.not_eq_true', Bool.not_eq_false', Bool.and_eq_true, Bool.or_eq_true, Bool.and_eq_false_iff, Bool.or_eq_false_iff] at c58
          have hk0 : k = 0 := by omega
          refine W.skip ?_
          first | exact ⟨h0, h1, h9, h10, h12, _, hB9, by rw [if_pos (by simpa using hk0)]; exact hM, hrow, hx⟩ | exact ⟨h0, h1, h9, h10, h12, _, hB9, by rw [if_neg (by simpa using hk0)]; exact hM, hrow, hx⟩
      rintro e w ⟨h0, h1, h9, h10, h12, vv2, hB9, hM, hrow, hx⟩
      refine W.seq ?_
      obtain ⟨bc, hbc⟩ : ∃ bc, bc = (if decide (k = 0) = true then b else b ++ [44]) := ⟨_, rfl⟩
      rw [← hbc] at hM
      have hbcl : bc.length ≤ b.length + 1 := by rw [hbc]; split <;> simp
      have hrl : w.ownsRow HL 30 7 (.slice (some ⟨g, 0, none⟩) N cap) N (exs (AA ++ t.top :: (F ++ (ts.flat ++ C)))) := by rw [Trs.flat, hF1] at hrow; simpa using hrow
      have hN4 : N = (AA ++ t.top :: (F ++ (ts.flat ++ C))).length := by simp; omega
      have hAN : AA.length < N := by rw [hN4]; simp
      clear hrow
      have hrow := hrl
      clear hrl
      refine W.region ?_
      refine WL.c rfl (o_mvh h1 ?_)
      refine WL.c rfl (o_mvh h10 ?_)
      refine WL.c rfl (o_mvh h0 ?_)
      refine WL.c rfl (o_nil rfl ?_)
      refine WL.c rfl (o_fa 0 TI45 rfl TI43 rfl rfl ?_)
      refine WL.c rfl (o_ld TI43 rfl rfl (cell_of hM.cell rfl) ?_)
      refine WL.c rfl (o_lenR TI43 rfl (Sl.own hM.row) ?_)
      refine WL.c rfl (o_ixB (i := AA.length) TI38 TI30 rfl rfl hAN ?_)
      refine WL.c rfl (o_fa 6 TI30 rfl TI3 rfl rfl ?_)
      refine WL.u (o_stRj (i := AA.length * 7 + 6) TI3 rfl (by omega) (show _ = Value.int .i64 (bc.length : Int) from rfl) rfl hrow rfl (by omega) ?_)
      intro wc hr69 ho hs69
      replace hx := FW.tr hx (ho.mono (fun k _ h => by cases h; exact .inl rfl))
      replace hM := hM.only ho (fun k h => by cases h; exact hg)
      replace hB9 := ho.blk hB9 (fun h => by simp [Value.ownBlock] at h; omega)
      replace hrow : wc.ownsRow HL 30 7 (.slice (some ⟨g, 0, none⟩) N cap) N (exs (AA ++ { t.top with at_ := (bc.length : Int) } :: (F ++ (ts.flat ++ C)))) := by rw [row_set] at hr69; exact hr69
      have hN6 : N = (AA ++ { t.top with at_ := (bc.length : Int) } :: (F ++ (ts.flat ++ C))).length := by simp; omega
      refine WL.nil ?_
      refine W.seq ?_
      refine W.seq ?_
      obtain ⟨-, -, -, hl2⟩ := rightB_iff (wf_top hrw.1)
      have htg : 0 ≤ t.top.tag ∧ t.top.tag ≤ 2147483647 := by unfold tagB at hl2; simp only [Bool.or_eq_true, Bool.and_eq_true, decide_eq_true_eq] at hl2; omega
      have hlb := digL_len 10 t.top.tag.toNat (by omega) (by decide)
      have hdg := fun w => digits_spec t.top.tag.toNat (by omega) w
      simp only [show ((t.top.tag.toNat : Nat) : Int) = t.top.tag by omega] at hdg
      refine W.region ?_
      refine WL.c rfl (o_fa 0 TI30 rfl TI3 rfl h9 ?_)
      refine WL.c rfl (o_ld TI3 rfl rfl (cell_of hB9 rfl) ?_)
      refine WL.c rfl (o_eq rfl rfl ?_)
      refine WL.nil ?_
      refine W.condF' rfl (by rw [hk]; decide) ?_
      refine W.region ?_
      refine WL.c rfl (o_mvh h0 ?_)
      refine WL.c rfl (o_mvh h1 ?_)
      refine WL.c rfl (o_mvh h10 ?_)
      refine WL.c rfl (o_ixB (i := AA.length) TI38 TI30 rfl rfl hAN ?_)
      refine WL.c rfl (o_fa 4 TI30 rfl TI3 rfl rfl ?_)
      refine WL.c rfl (o_ld TI3 rfl rfl (row_at hrow hN6 4 _ rfl) ?_)
      refine WL.c rfl (o_call Try.call29 (lc rfl ln) ((hdg _).mono ?_))
      rintro v87 w87 ⟨rfl, hxd87⟩
      replace hrow := own_ext hrow hxd87
      replace hB9 := hxd87.blk hB9 (fun h => h)
      replace hx := FW.ext hx hxd87
      replace hM := hM.ext hxd87
      refine WL.c rfl (o_addT (xs := digL t.top.tag.toNat) (ys := [58]) rfl rfl (by simp; omega) ?_)
      refine WL.c rfl (o_call Try.call17 (lc rfl (lc rfl ln)) ((put_f H p _ _ (digL t.top.tag.toNat ++ [58]) _ hM (by simp only [List.length_append, List.length_cons, List.length_nil]; omega)).mono ?_))
      rintro v89 w89 ⟨vm89, hM2, ho89⟩
      replace hrow := own_only hrow ho89 (fun b hb hF => by simp [Value.ownBlock] at hb; have := hF.1; omega)
      replace hB9 := ho89.blk hB9 (fun hF => hF.2 _ _ hB9)
      replace hx := FW.put hx ho89
      clear hM
      have hM := hM2
      clear hM2
      refine WL.nil ?_
      obtain ⟨F2, hF3, hF4⟩ := put_flat (t := t) (z := (bc.length : Int))
      have hF5 : F2 = F := by rw [hF1] at hF3; simpa using hF3.symm
      rw [hF5] at hF4
      have hpf2 : (t.put (bc.length : Int)).flat.length = t.flat.length := by rw [hF4, hF1]; simp
      have hN7 : N = (AA ++ ((t.put (bc.length : Int)).flat ++ (ts.flat ++ C))).length := by rw [hF4]; simp; omega
      have hrow7 : w89.ownsRow HL 30 7 (.slice (some ⟨g, 0, none⟩) N cap) N (exs (AA ++ ((t.put (bc.length : Int)).flat ++ (ts.flat ++ C)))) := by rw [hF4]; exact hrow
      have hwh : wrHead false (decide (k = 0)) t.top b = bc ++ (digL t.top.tag.toNat ++ [58]) := by rw [hbc]; simp [wrHead]
      have hpf : (t.put (bc.length : Int)).flat.length = t.flat.length := hpf2
      have hwt := wr_len t (bc ++ (digL t.top.tag.toNat ++ [58])) _ _ hrw.1
      refine W.region ?_
      refine WL.c rfl (o_mvh h0 ?_)
      refine WL.c rfl (o_mvh h1 ?_)
      refine WL.c rfl (o_mvh h10 ?_)
      have hIH := IH (t.put (bc.length : Int)) 7 (deep + 1) H p _ g cap HL AA (ts.flat ++ C) _ bc.length true N _ (by rw [hpf2]; omega) (put_wf hrw.1) hM hN7 hNb hrow7 hg (fun _ => put_top) (fun h => by cases h) (by rw [hpf2]; simp only [List.length_append, List.length_cons, List.length_nil]; omega)
      refine WL.c rfl (o_call Try.call18 (lc rfl (lc rfl (lc rfl (lc rfl ln)))) ((hIH).mono ?_))
      rintro v93 w93 ⟨rfl, vm93, hM2, hrow2, ho93⟩
      replace hB9 := ho93.blk hB9 (fun hF => by rcases hF with hF | hF; omega; exact hF.2 _ _ hB9)
      replace hx := FW.tr hx ho93
      clear hM hrow
      have hM := hM2
      have hrow := hrow2
      clear hM2 hrow2
      rw [put_wr, ← hwh] at hM
      rw [← hwh] at hwt
      have hwc := row_head (s := false) hrw.1 (decide (k = 0)) b
      rw [put_pl] at hrow
      refine WL.c rfl (o_ash (show _ = Value.int _ _ from rfl) ?_)
      refine WL.nil ?_
      refine W.region ?_
      refine WL.c rfl (o_mvh h12 ?_)
      refine WL.c rfl (o_addi rfl rfl (by show _ ≤ (k : Int) + 1 ∧ (k : Int) + 1 ≤ _; omega) ?_)
      refine WL.c rfl (o_ash (show _ = Value.int _ _ from rfl) ?_)
      refine WL.nil ?_
      refine ⟨⟨k + 1, P ++ t.pl bc.length (wrHead false (decide (k = 0)) t.top b), ts, t.wr (wrHead false (decide (k = 0)) t.top b), vm93, by omega, hrw.2, ?_, ?_, ?_, by omega, h0, h1, h9, ?_, rfl, hB9, hM, ?_, hx⟩, ?_⟩
      · rw [hwq]; simp [Trs.wrR]
      · rw [hpq, List.append_assoc]; simp [Trs.plR, hbc]
      · rw [List.length_append, pl_len t _ _ _ _ hrw.1]; omega
      · refine congrArg (fun z : Nat => Value.int .i64 (z : Int)) ?_
        rw [hA2, hpf]; simp [pl_len t _ _ _ _ hrw.1]; omega
      · rw [hA2] at hrow; simpa [put_pl, put_wr, hwh] using hrow
      · show ks.len - ((k : Int) + 1).toNat < _
        rw [hm12]; simp [intOf]; omega
  · skip
    have hkk : y.kids = (ks.len : Int) := hw.2.2.2.1.symm
    have hwk : ks.wf 8 (deep + 1) := by have h := hw.2.2.2.2; rw [hk] at h; exact h
    have hwr : (Tr.node y ks).wr bs = ks.wrR true true (bs ++ [115, 116, 114, 117, 99, 116, 32, 123]) ++ [125] := by simp [Tr.wr, hk]
    have hpl : (Tr.node y ks).pl at0 bs = { y with at_ := (at0 : Int) } :: ks.plR true true (bs ++ [115, 116, 114, 117, 99, 116, 32, 123]) := by simp [Tr.pl, hk]
    have hwl := wrR_len ks true true (bs ++ [115, 116, 114, 117, 99, 116, 32, 123]) (deep + 1) hwk
    have hks64 : ks.len ≤ 140737488355328 := by have := hw.2.1; unfold manyB at this; simp at this; omega
    refine W.region ?_
    refine WL.c rfl (o_fa 0 TI30 rfl TI3 rfl h9 ?_)
    refine WL.c rfl (o_ld TI3 rfl rfl (cell_of hB9 rfl) ?_)
    refine WL.nil ?_
    refine W.block ?_
    refine W.seq ?_
    refine W.region ?_
    refine WL.c rfl (o_eq rfl rfl ?_)
    refine WL.c rfl (o_ash (show _ = Value.bool _ from rfl) ?_)
    refine WL.nil ?_
    refine W.condF' rfl (by rw [hk]; decide) ?_
    refine W.seq ?_
    refine W.region ?_
    refine WL.c rfl (o_eq rfl rfl ?_)
    refine WL.c rfl (o_ash (show _ = Value.bool _ from rfl) ?_)
    refine WL.nil ?_
    refine W.condF' rfl (by rw [hk]; decide) ?_
    refine W.seq ?_
    refine W.region ?_
    refine WL.c rfl (o_eq rfl rfl ?_)
    refine WL.c rfl (o_ash (show _ = Value.bool _ from rfl) ?_)
    refine WL.nil ?_
    refine W.condF' rfl (by rw [hk]; decide) ?_
    refine W.seq ?_
    refine W.region ?_
    refine WL.c rfl (o_eq rfl rfl ?_)
    refine WL.c rfl (o_ash (show _ = Value.bool _ from rfl) ?_)
    refine WL.nil ?_
    refine W.condF' rfl (by rw [hk]; decide) ?_
    refine W.seq ?_
    refine W.seq ?_
    refine W.region ?_
    refine WL.c rfl (o_eq rfl rfl ?_)
    refine WL.c rfl (o_ash (show _ = Value.bool _ from rfl) ?_)
    refine WL.nil ?_
    refine W.condF' rfl (by rw [hk]; decide) ?_
    refine W.region ?_
    refine WL.c rfl (o_eq rfl rfl ?_)
    refine WL.c rfl (o_ash (show _ = Value.bool _ from rfl) ?_)
    refine WL.nil ?_
    refine W.condF' rfl (by rw [hk]; decide) ?_
    refine W.seq ?_
    refine W.region ?_
    refine WL.c rfl (o_eq rfl rfl ?_)
    refine WL.c rfl (o_ash (show _ = Value.bool _ from rfl) ?_)
    refine WL.nil ?_
    refine W.condF' rfl (by rw [hk]; decide) ?_
    refine W.seq ?_
    refine W.region ?_
    refine WL.c rfl (o_ash (show _ = Value.string _ from rfl) ?_)
    refine WL.nil ?_
    refine W.seq ?_
    refine W.seq ?_
    refine W.region ?_
    refine WL.c rfl (o_fa 0 TI30 rfl TI3 rfl h9 ?_)
    refine WL.c rfl (o_ld TI3 rfl rfl (cell_of hB9 rfl) ?_)
    refine WL.c rfl (o_eq rfl rfl ?_)
    refine WL.nil ?_
    refine W.condT' rfl (by rw [hk]; decide) ?_
    refine W.region ?_
    refine WL.c rfl (o_ash (show _ = Value.string _ from rfl) ?_)
    refine WL.nil ?_
    refine W.seq ?_
    refine W.region ?_
    refine WL.c rfl (o_mvh h0 ?_)
    refine WL.c rfl (o_mvh (show _ = Value.string _ from rfl) ?_)
    refine WL.c rfl (o_call Try.call17 (lc rfl (lc rfl ln)) ((put_f H p _ _ ([115, 116, 114, 117, 99, 116, 32, 123]) _ hM (by simp; omega)).mono ?_))
    rintro v44 w44 ⟨vm44, hM2, ho44⟩
    replace hrow := own_only hrow ho44 (fun b hb hF => by simp [Value.ownBlock] at hb; have := hF.1; omega)
    replace hB9 := ho44.blk hB9 (fun hF => hF.2 _ _ hB9)
    replace hx := FW.put hx ho44
    clear hM
    have hM := hM2
    clear hM2
    refine WL.nil ?_
    refine W.seq ?_
    refine W.seq ?_
    refine W.region ?_
    refine WL.c rfl (o_ash (show _ = Value.int _ _ from rfl) ?_)
    refine WL.nil ?_
    refine W.block ?_
    refine W.loop (fun e w => ∃ (k : Nat) (P : List Ex) (rest : Trs) (b : List UInt8) (vv : Value), k + rest.len = ks.len ∧ rest.wf 8 (deep + 1) ∧ ks.wrR true true (bs ++ [115, 116, 114, 117, 99, 116, 32, 123]) = rest.wrR true (decide (k = 0)) b ∧ ks.plR true true (bs ++ [115, 116, 114, 117, 99, 116, 32, 123]) = P ++ rest.plR true (decide (k = 0)) b ∧ P.length + rest.flat.length = ks.flat.length ∧ b.length + 80 * rest.flat.length + 41 ≤ 140737488355328 ∧ e 0 = .pointer (some ⟨p, 0, none⟩) ∧ e 1 = .slice (some ⟨g, 0, none⟩) N cap ∧ e 9 = .pointer (some ⟨b9, 0, none⟩) ∧ e 10 = .int .i64 (((A ++ { y with at_ := (at0 : Int) } :: P).length : Nat) : Int) ∧ e 12 = .int .i64 (k : Int) ∧ w.heap[b9]? = some (.cells (exV y).toArray 30 (0, 0)) ∧ WrM w H p vv b ∧ w.ownsRow HL 30 7 (.slice (some ⟨g, 0, none⟩) N cap) N (exs ((A ++ { y with at_ := (at0 : Int) } :: P) ++ (rest.flat ++ C))) ∧ Only (FW H g w0) w0 w) (fun e w => ks.len - (intOf (e 12)).toNat) ?_ ?_
    · refine ⟨0, [], ks, _, vm44, by omega, hwk, rfl, rfl, by simp, by simp; omega, h0, h1, h9, congrArg (Value.int .i64) (by simp), rfl, hB9, hM, ?_, hx⟩
      simpa using hrow
    rintro e w ⟨k, P, rest, b, vv, hkl, hrw, hwq, hpq, hfq, hbq, h0, h1, h9, h10, h12, hB9, hM, hrow, hx⟩
    have hm12 := h12
    refine W.seq ?_
    refine W.seq ?_
    rcases rest with _ | ⟨t, ts⟩
    · skip
      have hk1 : k = ks.len := by simpa [Trs.len] using hkl
      have hwz : ks.wrR true true (bs ++ [115, 116, 114, 117, 99, 116, 32, 123]) = b := by rw [hwq]; rfl
      have hpz : ks.plR true true (bs ++ [115, 116, 114, 117, 99, 116, 32, 123]) = P := by rw [hpq]; simp [Trs.plR]
      refine W.region ?_
      refine WL.c rfl (o_mvh h12 ?_)
      refine WL.c rfl (o_fa 5 TI30 rfl TI3 rfl h9 ?_)
      refine WL.c rfl (o_ld TI3 rfl rfl (cell_of hB9 rfl) ?_)
      refine WL.c rfl (o_lt rfl rfl ?_)
      refine WL.c rfl (o_mvh (show _ = Value.bool _ from rfl) ?_)
      refine WL.s rfl (decide_eq_false (by omega)) rfl ?_
      refine WL.s rfl (decide_eq_false (by omega)) rfl ?_
      refine WL.s rfl (decide_eq_false (by omega)) rfl ?_
      refine WL.s rfl (decide_eq_false (by omega)) rfl ?_
      refine WL.c rfl (o_pickF rfl (decide_eq_false (by omega)) ?_)
      refine WL.nil ?_
      refine W.condF' rfl (rfl) ?_
      refine W.exit ?_
      refine W.region ?_
      refine WL.c rfl (o_mvh h0 ?_)
      refine WL.c rfl (o_call Try.call17 (lc rfl (lc rfl ln)) ((put_f H p _ _ ([125]) _ hM (by rw [← hwz]; simp only [List.length_append, List.length_cons, List.length_nil] at hwl ⊢; omega)).mono ?_))
      rintro v95 w95 ⟨vm95, hM2, ho95⟩
      replace hrow := own_only hrow ho95 (fun b hb hF => by simp [Value.ownBlock] at hb; have := hF.1; omega)
      replace hB9 := ho95.blk hB9 (fun hF => hF.2 _ _ hB9)
      replace hx := FW.put hx ho95
      clear hM
      have hM := hM2
      clear hM2
      refine WL.nil ?_
      refine W.seq ?_
      refine W.region ?_
      refine WL.c rfl (o_mvh h10 ?_)
      refine WL.c rfl (o_ash (show _ = Value.int _ _ from rfl) ?_)
      refine WL.nil ?_
      refine W.ret ?_
      refine ret1v rfl (show _ = Value.int _ _ from rfl) ?_
      exact ⟨congrArg (fun z : Nat => Value.int .i64 (z : Int)) (by simp only [Tr.flat, Trs.flat, List.length_append, List.length_cons, List.length_nil] at hfq ⊢; omega), _, by rw [hwr, hwz]; exact hM, by rw [hpl, hpz]; simpa [Trs.flat] using hrow, hx⟩
    · skip
      have hk1 : k + ts.len + 1 = ks.len := by simp only [Trs.len] at hkl; omega
      obtain ⟨F, hF1, hF2⟩ := put_flat (t := t) (z := 0)
      obtain ⟨AA, hA2⟩ : ∃ AA, AA = (A ++ { y with at_ := (at0 : Int) } :: P) := ⟨_, rfl⟩
      rw [← hA2] at h10 hrow
      simp only [Trs.flat, List.length_append] at hfq hbq
      have htl1 : t.flat.length = F.length + 1 := by rw [hF1]; simp
      have hAAl : AA.length = A.length + P.length + 1 := by rw [hA2]; simp; omega
      refine W.region ?_
      refine WL.c rfl (o_mvh h12 ?_)
      refine WL.c rfl (o_fa 5 TI30 rfl TI3 rfl h9 ?_)
      refine WL.c rfl (o_ld TI3 rfl rfl (cell_of hB9 rfl) ?_)
      refine WL.c rfl (o_lt rfl rfl ?_)
      refine WL.c rfl (o_mvh (show _ = Value.bool _ from rfl) ?_)
      refine WL.g rfl (decide_eq_true (by omega)) rfl (o_mvh h10 ?_)
      refine WL.g rfl (decide_eq_true (by omega)) rfl (o_mvh h1 ?_)
      refine WL.g rfl (decide_eq_true (by omega)) rfl (o_len TI38 rfl ?_)
      refine WL.g rfl (decide_eq_true (by omega)) rfl (o_lt rfl rfl ?_)
      refine WL.c rfl (o_pickA rfl rfl ?_)
      refine WL.nil ?_
      refine W.condT' rfl (by simp; omega) ?_
      refine W.skip ?_
      refine W.seq ?_
      refine W.block ?_
      refine W.seq ?_
      refine W.seq ?_
      refine W.region ?_
      refine WL.c rfl (o_mvh h12 ?_)
      refine WL.c rfl (o_gt rfl rfl ?_)
      refine WL.nil ?_
      refine W.cut (fun e1 w1 => e1 0 = .pointer (some ⟨p, 0, none⟩) ∧ e1 1 = .slice (some ⟨g, 0, none⟩) N cap ∧ e1 9 = .pointer (some ⟨b9, 0, none⟩) ∧ e1 10 = .int .i64 (AA.length : Int) ∧ e1 12 = .int .i64 (k : Int) ∧ ∃ vv2, w1.heap[b9]? = some (.cells (exV y).toArray 30 (0, 0)) ∧ WrM w1 H p vv2 (if decide (k = 0) = true then b else b ++ [44]) ∧ w1.ownsRow HL 30 7 (.slice (some ⟨g, 0, none⟩) N cap) N (exs (AA ++ ((Trs.cons t ts).flat ++ C))) ∧ Only (FW H g w0) w0 w1) ?_ ?_
      · -- both ways
        refine W.cond rfl (fun c58 => ?_) (fun c58 => ?_)
        · try simp only [decide_eq_true_eq, decide_eq_false_iff_not, Bool.not_eq_true', Bool.not_eq_false', Bool.and_eq_true, Bool.or_eq_true, Bool.and_eq_false_iff, Bool.or_eq_false_iff] at c58
          have hk0 : ¬ k = 0 := by omega
          refine W.region ?_
          refine WL.c rfl (o_mvh h0 ?_)
          refine WL.c rfl (o_call Try.call17 (lc rfl (lc rfl ln)) ((put_f H p _ _ ([44]) _ hM (by simp; omega)).mono ?_))
          rintro v60 w60 ⟨vm60, hM2, ho60⟩
          replace hrow := own_only hrow ho60 (fun b hb hF => by simp [Value.ownBlock] at hb; have := hF.1; omega)
          replace hB9 := ho60.blk hB9 (fun hF => hF.2 _ _ hB9)
          replace hx := FW.put hx ho60
          clear hM
          have hM := hM2
          clear hM2
          refine WL.nil ?_
          first | exact ⟨h0, h1, h9, h10, h12, _, hB9, by rw [if_pos (by simpa using hk0)]; exact hM, hrow, hx⟩ | exact ⟨h0, h1, h9, h10, h12, _, hB9, by rw [if_neg (by simpa using hk0)]; exact hM, hrow, hx⟩
        · try simp only [decide_eq_true_eq, decide_eq_false_iff_not, Bool.not_eq_true', Bool.not_eq_false', Bool.and_eq_true, Bool.or_eq_true, Bool.and_eq_false_iff, Bool.or_eq_false_iff] at c58
          have hk0 : k = 0 := by omega
          refine W.skip ?_
          first | exact ⟨h0, h1, h9, h10, h12, _, hB9, by rw [if_pos (by simpa using hk0)]; exact hM, hrow, hx⟩ | exact ⟨h0, h1, h9, h10, h12, _, hB9, by rw [if_neg (by simpa using hk0)]; exact hM, hrow, hx⟩
      rintro e w ⟨h0, h1, h9, h10, h12, vv2, hB9, hM, hrow, hx⟩
      refine W.seq ?_
      obtain ⟨bc, hbc⟩ : ∃ bc, bc = (if decide (k = 0) = true then b else b ++ [44]) := ⟨_, rfl⟩
      rw [← hbc] at hM
      have hbcl : bc.length ≤ b.length + 1 := by rw [hbc]; split <;> simp
      have hrl : w.ownsRow HL 30 7 (.slice (some ⟨g, 0, none⟩) N cap) N (exs (AA ++ t.top :: (F ++ (ts.flat ++ C)))) := by rw [Trs.flat, hF1] at hrow; simpa using hrow
      have hN4 : N = (AA ++ t.top :: (F ++ (ts.flat ++ C))).length := by simp; omega
      have hAN : AA.length < N := by rw [hN4]; simp
      clear hrow
      have hrow := hrl
      clear hrl
      refine W.region ?_
      refine WL.c rfl (o_mvh h1 ?_)
      refine WL.c rfl (o_mvh h10 ?_)
      refine WL.c rfl (o_mvh h0 ?_)
      refine WL.c rfl (o_nil rfl ?_)
      refine WL.c rfl (o_fa 0 TI45 rfl TI43 rfl rfl ?_)
      refine WL.c rfl (o_ld TI43 rfl rfl (cell_of hM.cell rfl) ?_)
      refine WL.c rfl (o_lenR TI43 rfl (Sl.own hM.row) ?_)
      refine WL.c rfl (o_ixB (i := AA.length) TI38 TI30 rfl rfl hAN ?_)
      refine WL.c rfl (o_fa 6 TI30 rfl TI3 rfl rfl ?_)
      refine WL.u (o_stRj (i := AA.length * 7 + 6) TI3 rfl (by omega) (show _ = Value.int .i64 (bc.length : Int) from rfl) rfl hrow rfl (by omega) ?_)
      intro wc hr69 ho hs69
      replace hx := FW.tr hx (ho.mono (fun k _ h => by cases h; exact .inl rfl))
      replace hM := hM.only ho (fun k h => by cases h; exact hg)
      replace hB9 := ho.blk hB9 (fun h => by simp [Value.ownBlock] at h; omega)
      replace hrow : wc.ownsRow HL 30 7 (.slice (some ⟨g, 0, none⟩) N cap) N (exs (AA ++ { t.top with at_ := (bc.length : Int) } :: (F ++ (ts.flat ++ C)))) := by rw [row_set] at hr69; exact hr69
      have hN6 : N = (AA ++ { t.top with at_ := (bc.length : Int) } :: (F ++ (ts.flat ++ C))).length := by simp; omega
      refine WL.nil ?_
      refine W.seq ?_
      refine W.seq ?_
      obtain ⟨-, -, hl1, -⟩ := rightB_iff (wf_top hrw.1)
      have hlb := nameB_len (show nameB t.top.label = true by unfold labB at hl1; simpa using hl1)
      refine W.region ?_
      refine WL.c rfl (o_fa 0 TI30 rfl TI3 rfl h9 ?_)
      refine WL.c rfl (o_ld TI3 rfl rfl (cell_of hB9 rfl) ?_)
      refine WL.c rfl (o_eq rfl rfl ?_)
      refine WL.nil ?_
      refine W.condT' rfl (by rw [hk]; decide) ?_
      refine W.region ?_
      refine WL.c rfl (o_mvh h0 ?_)
      refine WL.c rfl (o_mvh h1 ?_)
      refine WL.c rfl (o_mvh h10 ?_)
      refine WL.c rfl (o_ixB (i := AA.length) TI38 TI30 rfl rfl hAN ?_)
      refine WL.c rfl (o_fa 3 TI30 rfl TI9 rfl rfl ?_)
      refine WL.c rfl (o_ld TI9 rfl rfl (row_at hrow hN6 3 _ rfl) ?_)
      refine WL.c rfl (o_addT (xs := t.top.label) (ys := [58, 32]) rfl rfl (by have := hlb; simp; omega) ?_)
      refine WL.c rfl (o_call Try.call17 (lc rfl (lc rfl ln)) ((put_f H p _ _ (t.top.label ++ [58, 32]) _ hM (by simp only [List.length_append, List.length_cons, List.length_nil]; omega)).mono ?_))
      rintro v80 w80 ⟨vm80, hM2, ho80⟩
      replace hrow := own_only hrow ho80 (fun b hb hF => by simp [Value.ownBlock] at hb; have := hF.1; omega)
      replace hB9 := ho80.blk hB9 (fun hF => hF.2 _ _ hB9)
      replace hx := FW.put hx ho80
      clear hM
      have hM := hM2
      clear hM2
      refine WL.nil ?_
      obtain ⟨F2, hF3, hF4⟩ := put_flat (t := t) (z := (bc.length : Int))
      have hF5 : F2 = F := by rw [hF1] at hF3; simpa using hF3.symm
      rw [hF5] at hF4
      have hpf2 : (t.put (bc.length : Int)).flat.length = t.flat.length := by rw [hF4, hF1]; simp
      have hN7 : N = (AA ++ ((t.put (bc.length : Int)).flat ++ (ts.flat ++ C))).length := by rw [hF4]; simp; omega
      have hrow7 : w80.ownsRow HL 30 7 (.slice (some ⟨g, 0, none⟩) N cap) N (exs (AA ++ ((t.put (bc.length : Int)).flat ++ (ts.flat ++ C)))) := by rw [hF4]; exact hrow
      have hwh : wrHead true (decide (k = 0)) t.top b = bc ++ (t.top.label ++ [58, 32]) := by rw [hbc]; simp [wrHead]
      have hpf : (t.put (bc.length : Int)).flat.length = t.flat.length := hpf2
      have hwt := wr_len t (bc ++ (t.top.label ++ [58, 32])) _ _ hrw.1
      refine W.region ?_
      refine WL.c rfl (o_mvh h0 ?_)
      refine WL.c rfl (o_mvh h1 ?_)
      refine WL.c rfl (o_mvh h10 ?_)
      have hIH := IH (t.put (bc.length : Int)) 8 (deep + 1) H p _ g cap HL AA (ts.flat ++ C) _ bc.length true N _ (by rw [hpf2]; omega) (put_wf hrw.1) hM hN7 hNb hrow7 hg (fun _ => put_top) (fun h => by cases h) (by rw [hpf2]; simp only [List.length_append, List.length_cons, List.length_nil]; omega)
      refine WL.c rfl (o_call Try.call18 (lc rfl (lc rfl (lc rfl (lc rfl ln)))) ((hIH).mono ?_))
      rintro v93 w93 ⟨rfl, vm93, hM2, hrow2, ho93⟩
      replace hB9 := ho93.blk hB9 (fun hF => by rcases hF with hF | hF; omega; exact hF.2 _ _ hB9)
      replace hx := FW.tr hx ho93
      clear hM hrow
      have hM := hM2
      have hrow := hrow2
      clear hM2 hrow2
      rw [put_wr, ← hwh] at hM
      rw [← hwh] at hwt
      have hwc := row_head (s := true) hrw.1 (decide (k = 0)) b
      rw [put_pl] at hrow
      refine WL.c rfl (o_ash (show _ = Value.int _ _ from rfl) ?_)
      refine WL.nil ?_
      refine W.region ?_
      refine WL.c rfl (o_mvh h12 ?_)
      refine WL.c rfl (o_addi rfl rfl (by show _ ≤ (k : Int) + 1 ∧ (k : Int) + 1 ≤ _; omega) ?_)
      refine WL.c rfl (o_ash (show _ = Value.int _ _ from rfl) ?_)
      refine WL.nil ?_
      refine ⟨⟨k + 1, P ++ t.pl bc.length (wrHead true (decide (k = 0)) t.top b), ts, t.wr (wrHead true (decide (k = 0)) t.top b), vm93, by omega, hrw.2, ?_, ?_, ?_, by omega, h0, h1, h9, ?_, rfl, hB9, hM, ?_, hx⟩, ?_⟩
      · rw [hwq]; simp [Trs.wrR]
      · rw [hpq, List.append_assoc]; simp [Trs.plR, hbc]
      · rw [List.length_append, pl_len t _ _ _ _ hrw.1]; omega
      · refine congrArg (fun z : Nat => Value.int .i64 (z : Int)) ?_
        rw [hA2, hpf]; simp [pl_len t _ _ _ _ hrw.1]; omega
      · rw [hA2] at hrow; simpa [put_pl, put_wr, hwh] using hrow
      · show ks.len - ((k : Int) + 1).toNat < _
        rw [hm12]; simp [intOf]; omega
end Go.Proofs.Ytcljkkfpcomdcaa

set_option linter.unusedSimpArgs false
set_option linter.unusedVariables false
set_option maxRecDepth 100000
namespace Go.Proofs.Ytcljkkfpcomdcaa
open Go Go.Vc Go.RowKit Go.Proofs

theorem Defs.off {w : World} {H : Nat} {D : List Df} {dv : Value} {V : Nat → Value} (h : Defs w H D dv V) {b : Nat} {cs : Array Value} {fr : Nat × Nat} (hB : w.heap[b]? = some (.cells cs 28 fr)) : ∀ k, DF dv V D.length k → ¬ k = b := fun k hk he => by
  subst he
  rcases hk with hk | ⟨j, hj, hk⟩
  · exact own_off h.row hB (by decide) hk
  · exact own_off (h.tys.row j hj) hB (by decide) hk

end Go.Proofs.Ytcljkkfpcomdcaa
