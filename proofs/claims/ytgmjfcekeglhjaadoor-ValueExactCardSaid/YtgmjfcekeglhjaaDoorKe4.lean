/-
  Walks and lemmas. Written by program out of specs of mine.
-/
import Derived.WalkKit
import Derived.WalkSpells
import Derived.WalkLawsBesides
import Derived.Deep.Quiet
import Derived.StillTail
import Derived.StringKeys
import Derived.Laws.StructEq
import Derived.Laws.Externs
import Derived.Laws.Tables
import Derived.Scope
import Derived.Laws.AppendOwn
import Derived.Maps.AppendAt
import Derived.Recover
import Derived.Test.YtgmjfcekeglhjaaDoorProg
import Derived.Maps.OwnSet
import Derived.Shelf.Strconv.Itoa0
import Derived.Shelf.Strconv.Itoa1
import Derived.Shelf.LaysM
import Derived.Shelf.Strconv.Itoa2
import Derived.Lib.ItoaMem
import Derived.Lib.ItoaLen
import Derived.DeepKeys3
import Derived.SizedLaws
import Derived.ChangeArms
import Derived.ChangeSlices
import Derived.Lib.ConvBytes
import Derived.Test.YtgmjfcekeglhjaaDoorRows
import Derived.ProofKit
import Derived.OpenShut
import Derived.ShutString
import Derived.ChangeOld
import Derived.Below
import Derived.JoinedCond
import Derived.SliceStrings
import Derived.Test.YtgmjfcekeglhjaaDoorCards
import Derived.Test.YtgmjfcekeglhjaaDoorTie
import Derived.Deep.DeepHandedRow
import Derived.Lib.LaidTab
import Derived.Test.YtgmjfcekeglhjaaDoorKe3
set_option linter.unusedSimpArgs false
set_option linter.unusedVariables false
set_option maxRecDepth 100000
set_option linter.unusedSimpArgs false
set_option linter.unusedVariables false
set_option maxRecDepth 100000
namespace Go.Proofs.YtgmjfcekeglhjaaDoor
open Go Go.Vc Go.RowKit Go.Proofs

section
variable {H : Type} {enc : TypeId × Value → H} {P : Program} {W : World} {held : Bool}
/-- a slice of what is opened by 'hc', of any size -/
theorem open_rowsN {α : Type} {t e : TypeId} (s : Nat) (cells : α → List Value) (p : α → Prop) (hu : P.underlying t = some (.slice e)) (hs : P.cellsOf e = s) (hs0 : 0 < s) (hlen : ∀ o, (cells o).length = s)
    (hc : ∀ (n : Nat) (cs : List Value) (y : DataW H × List MemPlace), DataW.trod enc P W 0 (fun _ => true) held n e cs = some y → ∃ o, cs = cells o ∧ p o)
    {fuel : Nat} {v : Value} {x : DataW H × List MemPlace} (h : DataW.trod enc P W 0 (fun _ => true) held fuel t [v] = some x) :
    ∃ os : List α, os.length ≤ maxLen ∧ Sl W s v os.length (os.flatMap cells) ∧ ∀ o ∈ os, p o := by
  rcases DataW.trod_slice hu h with ⟨hcs, hd⟩ | ⟨a, len, cap, elems, rest, n, -, hcs, hx, -, hl, hm, hle, hel, -, -⟩
  · simp only [List.cons.injEq, and_true] at hcs
    subst hcs
    exact ⟨[], Nat.zero_le _, Sl.nil W s, fun o h => by cases h⟩
  · simp only [List.cons.injEq, and_true] at hcs
    subst hcs
    subst hx
    have key : ∀ i, i < len → ∃ o : α, (∀ j v, (cells o)[j]? = some v → W.cell? (a.add (i * s + j)) = some v) ∧ p o := by
      intro i hi
      have he := hel i hi
      rw [List.getElem?_eq_getElem (by omega), hs, Option.bind_eq_some_iff] at he
      obtain ⟨cs, h1, h2⟩ := he
      obtain ⟨-, h4, h5⟩ := World.cells?_some h1
      obtain ⟨o, ho, hp⟩ := hc n cs _ h2
      subst ho
      refine ⟨o, fun j v hj => ?_, hp⟩
      have hjs : j < s := by have := (List.getElem?_eq_some_iff.1 hj).1; rw [hlen] at this; exact this
      have := h5 j hjs
      rw [← hj, ← this, addr_add]
    obtain ⟨os, ho1, ho2⟩ := list_of _ len key
    refine ⟨os, by omega, ⟨?_, ?_⟩, fun o ho => ?_⟩
    · clear ho2 ho1
      induction os with
      | nil => simp
      | cons o os ih => rw [List.flatMap_cons, List.length_append, hlen, ih, List.length_cons, Nat.add_mul]; omega
    · by_cases h0 : len = 0
      · subst h0; exact .inl ⟨ho1, _, _, rfl⟩
      · obtain ⟨b, off, spot⟩ := a
        have h00 := (ho2 0 (by omega)).1 0 ((cells (os[0]'(by omega)))[0]'(by rw [hlen]; exact hs0)) (List.getElem?_eq_getElem _)
        have hsp : spot = none := by simpa [Addr.add] using World.cell?_spot h00
        subst hsp
        refine .inr ⟨b, off, cap, by rw [ho1], by omega, fun idx u hu => ?_⟩
        obtain ⟨i, j, hi, h1, h2⟩ := flatMap_get hlen os idx u hu
        have h3 := (ho2 i hi).1 j u h2
        rw [h1, ← h3, add_none]
    · obtain ⟨i, hi, rfl⟩ := List.getElem_of_mem ho
      exact (ho2 i hi).2
theorem open_fieldN {t u : TypeId} {fs : Array Field} {f : Field} (i off s : Nat) (hu : P.underlying t = some (.struct fs)) (hf : fs[i]? = some f) (ht : f.type = u) (ho : f.offset = off) (hs : P.cellsOf u = s) {fuel : Nat} {cs : List Value} {x : DataW H × List MemPlace}
    (h : DataW.trod enc P W 0 (fun _ => true) held fuel t cs = some x) : ∃ n y, DataW.trod enc P W 0 (fun _ => true) held n u ((cs.drop off).take s) = some y := by
  subst ht ho hs
  obtain ⟨xs, n, -, hx, -, hl, hall⟩ := DataW.trod_struct hu h
  have hi : i < fs.size := (Array.getElem?_eq_some_iff.1 hf).1
  have h1 := hall i f hf
  rw [List.getElem?_eq_getElem (by omega)] at h1
  exact ⟨n, _, h1⟩
theorem three_cells {cs : List Value} (h : cs.length = 3) : ∃ a b c, cs = [a, b, c] := by
  match cs, h with
  | [a, b, c], _ => exact ⟨a, b, c, rfl⟩
theorem open_node {n : Nat} {cs : List Value} {y : DataW H × List MemPlace} (h : DataW.trod enc Tryd.prog W 0 (fun _ => true) held n 69 cs = some y) : ∃ x : Nd, cs = ndV x ∧ x.n < 18446744073709551616 := by
  have hl := open_struct_len (s := 3) Tryd.underlying69 (by kernel_rfl) h
  obtain ⟨a, b, c, rfl⟩ := three_cells hl
  obtain ⟨n0, y0, h0⟩ := open_fieldN 0 0 1 Tryd.underlying69 rfl rfl rfl (by kernel_rfl) h
  obtain ⟨n1, y1, h1⟩ := open_fieldN 1 1 1 Tryd.underlying69 rfl rfl rfl (by kernel_rfl) h
  obtain ⟨n2, y2, h2⟩ := open_fieldN 2 2 1 Tryd.underlying69 rfl rfl rfl (by kernel_rfl) h
  obtain ⟨k, hk, -, -⟩ := DataW.trod_int Tryd.underlying3 h0
  obtain ⟨m, hm, -, wm⟩ := DataW.trod_int Tryd.underlying43 h1
  obtain ⟨q, hq, -, -⟩ := DataW.trod_int Tryd.underlying3 h2
  simp only [List.drop_zero, List.drop_succ_cons, List.take_succ_cons, List.take_zero, List.cons.injEq, and_true] at hk hm hq
  simp [Lit.wf, IntKind.min, IntKind.max, IntKind.signed, IntKind.bits] at wm
  refine ⟨⟨k, m.toNat, q⟩, ?_, by show m.toNat < _; omega⟩
  rw [hk, hm, hq]
  have : m = ((m.toNat : Nat) : Int) := by omega
  rw [this]
  rfl
theorem open_nodes {fuel : Nat} {v : Value} {x : DataW H × List MemPlace} (h : DataW.trod enc Tryd.prog W 0 (fun _ => true) held fuel 30 [v] = some x) : ∃ R : List Nd, Sl W 3 v R.length (nds R) ∧ R.length ≤ 9223372036854775807 ∧ NOk R := by
  obtain ⟨R, h1, h2, h3⟩ := open_rowsN 3 ndV (fun x => x.n < 18446744073709551616) Tryd.underlying30 (by kernel_rfl) (by decide) (fun _ => rfl) (fun n cs y hy => open_node hy) h
  exact ⟨R, h2, by rw [maxLen_eq] at h1; omega, h3⟩
end

end Go.Proofs.YtgmjfcekeglhjaaDoor

set_option linter.unusedSimpArgs false
set_option linter.unusedVariables false
set_option maxRecDepth 100000
namespace Go.Proofs.YtgmjfcekeglhjaaDoor
open Go Go.Vc Go.RowKit Go.Proofs

mutual
theorem txt_len : ∀ (t : Vt), NOk t.flat → t.txt.length + 2 ≤ 27 * t.flat.length
  | .node x ks, h => by
    have h1 := leafT_le (h x (by simp [Vt.flat]))
    have h2 := shutT_le x.kind
    have h3 := txts_len ks false (fun y hy => h y (by simp [Vt.flat, hy]))
    rw [Vt.txt, Vt.flat, List.length_append, List.length_append, List.length_cons]
    omega
theorem txts_len : ∀ (ts : Vts) (d : Bool), NOk ts.flat → (ts.txtS d).length ≤ 27 * ts.flat.length
  | .nil, d, _ => Nat.zero_le _
  | .cons t ts, d, h => by
    have h1 := txt_len t (fun y hy => h y (by simp [Vts.flat, hy]))
    have h2 := txts_len ts true (fun y hy => h y (by simp [Vts.flat, hy]))
    have h3 : (if d then [44, 32] else [] : List UInt8).length ≤ 2 := by split <;> simp
    rw [Vts.txtS, Vts.flat, List.length_append, List.length_append, List.length_append]
    omega
end
end Go.Proofs.YtgmjfcekeglhjaaDoor

set_option linter.unusedSimpArgs false
set_option linter.unusedVariables false
set_option maxRecDepth 100000
namespace Go.Proofs.YtgmjfcekeglhjaaDoor
open Go Go.Vc Go.RowKit Go.Proofs

/-- a row of bytes that a string was turned into -/
def ByR (w : World) (g : Nat) (xs : List UInt8) : Prop := ∃ (pad : List Value) (fr : Nat × Nat), w.heap[g]? = some (.cells (xs.map bv ++ pad).toArray 5 fr) ∧ xs.length ≤ fr.1
theorem ByR.only {w w' : World} {F : Nat → Prop} {g : Nat} {xs : List UInt8} (h : ByR w g xs) (ho : Only F w w') (hF : ¬ F g) : ByR w' g xs := by
  obtain ⟨pad, fr, h1, h2⟩ := h
  exact ⟨pad, fr, ho.blk h1 hF, h2⟩
theorem ByR.ext {w w' : World} {g : Nat} {xs : List UInt8} (h : ByR w g xs) (ho : Ext w w') : ByR w' g xs := h.only ho (fun h => h)
theorem ByR.front {w : World} {g cap : Nat} {xs : List UInt8} (h : ByR w g xs) (hc : xs.length ≤ cap) {k : Nat} (hk : k ≤ xs.length) : Sl w 1 (.slice (some ⟨g, 0, none⟩) k cap) k ((xs.take k).map bv) := by
  obtain ⟨pad, fr, h1, h2⟩ := h
  refine ⟨by rw [List.length_map, List.length_take]; omega, .inr ⟨g, 0, cap, rfl, by omega, Cells.of h1 0 _ (fun i v hi => ?_)⟩⟩
  have hi2 := (List.getElem?_eq_some_iff.1 hi).1
  rw [List.length_map, List.length_take] at hi2
  rw [List.getElem?_map, List.getElem?_take_of_lt (by omega)] at hi
  rw [Nat.zero_add, List.getElem?_toArray, List.getElem?_append_left (by rw [List.length_map]; omega), List.getElem?_map]
  exact hi
theorem ByR.sl {w : World} {g cap : Nat} {xs : List UInt8} (h : ByR w g xs) (hc : xs.length ≤ cap) : Sl w 1 (.slice (some ⟨g, 0, none⟩) xs.length cap) xs.length (xs.map bv) := by
  have := h.front hc (Nat.le_refl _)
  rwa [List.take_length] at this
end Go.Proofs.YtgmjfcekeglhjaaDoor

set_option linter.unusedSimpArgs false
set_option linter.unusedVariables false
set_option maxRecDepth 100000
namespace Go.Proofs.YtgmjfcekeglhjaaDoor
open Go Go.Vc Go.RowKit Go.Proofs
set_option maxHeartbeats 2000000 in
theorem rnumber_spec (k : Int) (n : Nat) (w0 : World) : Ca Tryd.prog 41 #[.int .i64 k, .int .u64 (n : Int)] w0 (fun v w' => v = .bool (numB k n) ∧ w' = w0) := by
  refine Ca.of Tryd.func41 Tryd.ntmps41 rfl rfl ?_
  refine W.seq ?_
  refine W.region ?_
  refine WL.c rfl (o_ash (show _ = Value.bool _ from rfl) ?_)
  refine WL.nil ?_
  refine W.seq ?_
  refine W.seq ?_
  refine W.region ?_
  refine WL.c rfl (o_mvh (show _ = Value.int _ _ from rfl) ?_)
  refine WL.nil ?_
  refine W.block ?_
  refine W.seq ?_
  refine W.region ?_
  refine WL.c rfl (o_eq rfl rfl ?_)
  refine WL.c rfl (o_ash (show _ = Value.bool _ from rfl) ?_)
  refine WL.nil ?_
  refine W.cond rfl (fun c6 => ?_) (fun c6 => ?_)
  · try simp only [decide_eq_true_eq, decide_eq_false_iff_not, Bool.not_eq_true', Bool.not_eq_false', Bool.and_eq_true, Bool.or_eq_true, Bool.and_eq_false_iff, Bool.or_eq_false_iff] at c6
    refine W.seq ?_
    refine W.region ?_
    refine WL.c rfl (o_ash (show _ = Value.bool _ from rfl) ?_)
    refine WL.nil ?_
    refine W.ret ?_
    refine ret1v rfl (show _ = Value.bool _ from rfl) ?_
    exact ⟨congrArg Value.bool (by rw [Bool.eq_iff_iff]; simp_all [numB] <;> omega), rfl⟩
  · try simp only [decide_eq_true_eq, decide_eq_false_iff_not, Bool.not_eq_true', Bool.not_eq_false', Bool.and_eq_true, Bool.or_eq_true, Bool.and_eq_false_iff, Bool.or_eq_false_iff] at c6
    refine W.seq ?_
    refine W.region ?_
    refine WL.c rfl (o_eq rfl rfl ?_)
    refine WL.c rfl (o_ash (show _ = Value.bool _ from rfl) ?_)
    refine WL.nil ?_
    refine W.cond rfl (fun c8 => ?_) (fun c8 => ?_)
    · try simp only [decide_eq_true_eq, decide_eq_false_iff_not, Bool.not_eq_true', Bool.not_eq_false', Bool.and_eq_true, Bool.or_eq_true, Bool.and_eq_false_iff, Bool.or_eq_false_iff] at c8
      refine W.seq ?_
      refine W.region ?_
      refine WL.c rfl (o_mvh (show _ = Value.int _ _ from rfl) ?_)
      refine WL.c rfl (o_le rfl rfl ?_)
      refine WL.c rfl (o_ash (show _ = Value.bool _ from rfl) ?_)
      refine WL.nil ?_
      refine W.ret ?_
      refine ret1v rfl (show _ = Value.bool _ from rfl) ?_
      exact ⟨congrArg Value.bool (by rw [Bool.eq_iff_iff]; simp_all [numB] <;> omega), rfl⟩
    · try simp only [decide_eq_true_eq, decide_eq_false_iff_not, Bool.not_eq_true', Bool.not_eq_false', Bool.and_eq_true, Bool.or_eq_true, Bool.and_eq_false_iff, Bool.or_eq_false_iff] at c8
      refine W.seq ?_
      refine W.region ?_
      refine WL.c rfl (o_eq rfl rfl ?_)
      refine WL.c rfl (o_ash (show _ = Value.bool _ from rfl) ?_)
      refine WL.nil ?_
      refine W.cond rfl (fun c12 => ?_) (fun c12 => ?_)
      · try simp only [decide_eq_true_eq, decide_eq_false_iff_not, Bool.not_eq_true', Bool.not_eq_false', Bool.and_eq_true, Bool.or_eq_true, Bool.and_eq_false_iff, Bool.or_eq_false_iff] at c12
        refine W.seq ?_
        refine W.region ?_
        refine WL.c rfl (o_mvh (show _ = Value.int _ _ from rfl) ?_)
        refine WL.c rfl (o_le rfl rfl ?_)
        refine WL.c rfl (o_ash (show _ = Value.bool _ from rfl) ?_)
        refine WL.nil ?_
        refine W.ret ?_
        refine ret1v rfl (show _ = Value.bool _ from rfl) ?_
        exact ⟨congrArg Value.bool (by rw [Bool.eq_iff_iff]; simp_all [numB] <;> omega), rfl⟩
      · try simp only [decide_eq_true_eq, decide_eq_false_iff_not, Bool.not_eq_true', Bool.not_eq_false', Bool.and_eq_true, Bool.or_eq_true, Bool.and_eq_false_iff, Bool.or_eq_false_iff] at c12
        refine W.skip ?_
        refine W.seq ?_
        refine W.region ?_
        refine WL.c rfl (o_mvh (show _ = Value.int _ _ from rfl) ?_)
        refine WL.c rfl (o_eq rfl rfl ?_)
        refine WL.c rfl (o_mvh (show _ = Value.bool _ from rfl) ?_)
        refine WL.sp 2 rfl (fun g18 => ?_) (fun g18 => ?_)
        · skip
          refine WL.g rfl (g18) rfl (o_mvh (show _ = Value.int _ _ from rfl) ?_)
          refine WL.g rfl (g18) rfl (o_eq rfl rfl ?_)
          refine WL.g rfl (g18) rfl (o_mvh (show _ = Value.bool _ from rfl) ?_)
          refine WL.sp 5 rfl (fun g21 => ?_) (fun g21 => ?_)
          · skip
            refine WL.s rfl (g21) rfl ?_
            refine WL.s rfl (g21) rfl ?_
            refine WL.g rfl (g18) rfl (o_pickT rfl (g21) ?_)
            refine WL.g rfl (g18) rfl (o_mvh (show _ = Value.bool _ from rfl) ?_)
            refine WL.s rfl (rfl) rfl ?_
            refine WL.s rfl (rfl) rfl ?_
            refine WL.g rfl (g18) rfl (o_pickT rfl (rfl) ?_)
            refine WL.c rfl (o_pickA rfl rfl ?_)
            refine WL.c rfl (o_ash (show _ = Value.bool _ from rfl) ?_)
            refine WL.nil ?_
            refine W.ret ?_
            refine ret1v rfl (show _ = Value.bool _ from rfl) ?_
            exact ⟨congrArg Value.bool (by rw [Bool.eq_iff_iff]; simp_all [numB] <;> omega), rfl⟩
          · skip
            refine WL.g rfl (g21) rfl (o_mvh (show _ = Value.int _ _ from rfl) ?_)
            refine WL.g rfl (g21) rfl (o_eq rfl rfl ?_)
            refine WL.g rfl (g18) rfl (o_pickO rfl rfl ?_)
            refine WL.g rfl (g18) rfl (o_mvh (show _ = Value.bool _ from rfl) ?_)
            refine WL.sp 9 rfl (fun g25 => ?_) (fun g25 => ?_)
            · skip
              refine WL.s rfl (g25) rfl ?_
              refine WL.s rfl (g25) rfl ?_
              refine WL.g rfl (g18) rfl (o_pickT rfl (g25) ?_)
              refine WL.c rfl (o_pickA rfl rfl ?_)
              refine WL.c rfl (o_ash (show _ = Value.bool _ from rfl) ?_)
              refine WL.nil ?_
              refine W.ret ?_
              refine ret1v rfl (show _ = Value.bool _ from rfl) ?_
              exact ⟨congrArg Value.bool (by rw [Bool.eq_iff_iff]; simp_all [numB] <;> omega), rfl⟩
            · skip
              refine WL.g rfl (g25) rfl (o_mvh (show _ = Value.int _ _ from rfl) ?_)
              refine WL.g rfl (g25) rfl (o_eq rfl rfl ?_)
              refine WL.g rfl (g18) rfl (o_pickO rfl rfl ?_)
              refine WL.c rfl (o_pickA rfl rfl ?_)
              refine WL.c rfl (o_ash (show _ = Value.bool _ from rfl) ?_)
              refine WL.nil ?_
              refine W.ret ?_
              refine ret1v rfl (show _ = Value.bool _ from rfl) ?_
              exact ⟨congrArg Value.bool (by rw [Bool.eq_iff_iff]; simp_all [numB] <;> omega), rfl⟩
        · skip
          refine WL.s rfl (g18) rfl ?_
          refine WL.s rfl (g18) rfl ?_
          refine WL.s rfl (g18) rfl ?_
          refine WL.z rfl rfl ?_
          refine WL.z rfl rfl ?_
          refine WL.s rfl (g18) rfl ?_
          refine WL.s rfl (g18) rfl ?_
          refine WL.z rfl rfl ?_
          refine WL.z rfl rfl ?_
          refine WL.s rfl (g18) rfl ?_
          refine WL.c rfl (o_pickF rfl (g18) ?_)
          refine WL.c rfl (o_ash (show _ = Value.bool _ from rfl) ?_)
          refine WL.nil ?_
          refine W.ret ?_
          refine ret1v rfl (show _ = Value.bool _ from rfl) ?_
          exact ⟨congrArg Value.bool (by rw [Bool.eq_iff_iff]; simp_all [numB] <;> omega), rfl⟩
set_option maxHeartbeats 4000000 in
theorem rright_spec (x : Nd) (w0 : World) : Ca Tryd.prog 60 #[.agg (ndV x).toArray] w0 (fun v w' => v = .bool (rightN x) ∧ Ext w0 w') := by
  refine Ca.of Tryd.func60 Tryd.ntmps60 rfl rfl ?_
  refine W.seq ?_
  refine W.region ?_
  refine WL.c rfl (o_boxB rfl ?_)
  intro w1 hC1 hx1 hs1
  obtain ⟨b1, hb1⟩ : ∃ b, b = w0.heap.size := ⟨_, rfl⟩
  rw [← hb1] at hC1 ⊢
  replace hC1 : w1.heap[b1]? = some (.cells (ndV x).toArray 69 (0, 0)) := hC1
  have hx := hx1
  refine WL.c rfl (o_ash (show _ = Value.bool _ from rfl) ?_)
  refine WL.nil ?_
  refine W.seq ?_
  refine W.seq ?_
  refine W.region ?_
  refine WL.c rfl (o_fa 0 TI69 rfl TI3 rfl rfl ?_)
  refine WL.c rfl (o_ld TI3 rfl rfl (cell_of hC1 rfl) ?_)
  refine WL.c rfl (o_fa 1 TI69 rfl TI43 rfl rfl ?_)
  refine WL.c rfl (o_ld TI43 rfl rfl (cell_of hC1 rfl) ?_)
  refine WL.c rfl (o_call Tryd.call41 (lc rfl (lc rfl ln)) ((rnumber_spec x.kind x.n _).mono ?_))
  rintro v7 w7 ⟨rfl, rfl⟩
  refine WL.c rfl (o_not' rfl ?_)
  refine WL.nil ?_
  refine W.cond rfl (fun c8 => ?_) (fun c8 => ?_)
  · try simp only [decide_eq_true_eq, decide_eq_false_iff_not, Bool.not_eq_true', Bool.not_eq_false', Bool.and_eq_true, Bool.or_eq_true, Bool.and_eq_false_iff, Bool.or_eq_false_iff] at c8
    refine W.seq ?_
    refine W.region ?_
    refine WL.c rfl (o_ash (show _ = Value.bool _ from rfl) ?_)
    refine WL.nil ?_
    refine W.ret ?_
    refine ret1v rfl (show _ = Value.bool _ from rfl) ?_
    exact ⟨congrArg Value.bool (by rw [Bool.eq_iff_iff]; simp_all [rightN, leastK, mostK] <;> omega), hx⟩
  · try simp only [decide_eq_true_eq, decide_eq_false_iff_not, Bool.not_eq_true', Bool.not_eq_false', Bool.and_eq_true, Bool.or_eq_true, Bool.and_eq_false_iff, Bool.or_eq_false_iff] at c8
    refine W.skip ?_
    refine W.seq ?_
    refine W.seq ?_
    refine W.region ?_
    refine WL.c rfl (o_fa 0 TI69 rfl TI3 rfl rfl ?_)
    refine WL.c rfl (o_ld TI3 rfl rfl (cell_of hC1 rfl) ?_)
    refine WL.nil ?_
    refine W.block ?_
    refine W.seq ?_
    refine W.region ?_
    refine WL.c rfl (o_eq rfl rfl ?_)
    refine WL.c rfl (o_ash (show _ = Value.bool _ from rfl) ?_)
    refine WL.nil ?_
    refine W.cond rfl (fun c11 => ?_) (fun c11 => ?_)
    · try simp only [decide_eq_true_eq, decide_eq_false_iff_not, Bool.not_eq_true', Bool.not_eq_false', Bool.and_eq_true, Bool.or_eq_true, Bool.and_eq_false_iff, Bool.or_eq_false_iff] at c11
      refine W.seq ?_
      refine W.region ?_
      refine WL.c rfl (o_fa 2 TI69 rfl TI3 rfl rfl ?_)
      refine WL.c rfl (o_ld TI3 rfl rfl (cell_of hC1 rfl) ?_)
      refine WL.c rfl (o_ge rfl rfl ?_)
      refine WL.c rfl (o_mvh (show _ = Value.bool _ from rfl) ?_)
      refine WL.sp 3 rfl (fun g16 => ?_) (fun g16 => ?_)
      · skip
        refine WL.g rfl (g16) rfl (o_fa 2 TI69 rfl TI3 rfl rfl ?_)
        refine WL.g rfl (g16) rfl (o_ld TI3 rfl rfl (cell_of hC1 rfl) ?_)
        refine WL.g rfl (g16) rfl (o_le rfl rfl ?_)
        refine WL.c rfl (o_pickA rfl rfl ?_)
        refine WL.c rfl (o_ash (show _ = Value.bool _ from rfl) ?_)
        refine WL.nil ?_
        refine W.ret ?_
        refine ret1v rfl (show _ = Value.bool _ from rfl) ?_
        exact ⟨congrArg Value.bool (by rw [Bool.eq_iff_iff]; simp_all [rightN, leastK, mostK] <;> omega), hx⟩
      · skip
        refine WL.s rfl (g16) rfl ?_
        refine WL.s rfl (g16) rfl ?_
        refine WL.s rfl (g16) rfl ?_
        refine WL.c rfl (o_pickF rfl (g16) ?_)
        refine WL.c rfl (o_ash (show _ = Value.bool _ from rfl) ?_)
        refine WL.nil ?_
        refine W.ret ?_
        refine ret1v rfl (show _ = Value.bool _ from rfl) ?_
        exact ⟨congrArg Value.bool (by rw [Bool.eq_iff_iff]; simp_all [rightN, leastK, mostK] <;> omega), hx⟩
    · try simp only [decide_eq_true_eq, decide_eq_false_iff_not, Bool.not_eq_true', Bool.not_eq_false', Bool.and_eq_true, Bool.or_eq_true, Bool.and_eq_false_iff, Bool.or_eq_false_iff] at c11
      refine W.seq ?_
      refine W.region ?_
      refine WL.c rfl (o_eq rfl rfl ?_)
      refine WL.c rfl (o_ash (show _ = Value.bool _ from rfl) ?_)
      refine WL.nil ?_
      refine W.cond rfl (fun c21 => ?_) (fun c21 => ?_)
      · try simp only [decide_eq_true_eq, decide_eq_false_iff_not, Bool.not_eq_true', Bool.not_eq_false', Bool.and_eq_true, Bool.or_eq_true, Bool.and_eq_false_iff, Bool.or_eq_false_iff] at c21
        refine W.seq ?_
        refine W.region ?_
        refine WL.c rfl (o_fa 2 TI69 rfl TI3 rfl rfl ?_)
        refine WL.c rfl (o_ld TI3 rfl rfl (cell_of hC1 rfl) ?_)
        refine WL.c rfl (o_ge rfl rfl ?_)
        refine WL.c rfl (o_mvh (show _ = Value.bool _ from rfl) ?_)
        refine WL.sp 3 rfl (fun g26 => ?_) (fun g26 => ?_)
        · skip
          refine WL.g rfl (g26) rfl (o_fa 2 TI69 rfl TI3 rfl rfl ?_)
          refine WL.g rfl (g26) rfl (o_ld TI3 rfl rfl (cell_of hC1 rfl) ?_)
          refine WL.g rfl (g26) rfl (o_le rfl rfl ?_)
          refine WL.c rfl (o_pickA rfl rfl ?_)
          refine WL.c rfl (o_ash (show _ = Value.bool _ from rfl) ?_)
          refine WL.nil ?_
          refine W.ret ?_
          refine ret1v rfl (show _ = Value.bool _ from rfl) ?_
          exact ⟨congrArg Value.bool (by rw [Bool.eq_iff_iff]; simp_all [rightN, leastK, mostK] <;> omega), hx⟩
        · skip
          refine WL.s rfl (g26) rfl ?_
          refine WL.s rfl (g26) rfl ?_
          refine WL.s rfl (g26) rfl ?_
          refine WL.c rfl (o_pickF rfl (g26) ?_)
          refine WL.c rfl (o_ash (show _ = Value.bool _ from rfl) ?_)
          refine WL.nil ?_
          refine W.ret ?_
          refine ret1v rfl (show _ = Value.bool _ from rfl) ?_
          exact ⟨congrArg Value.bool (by rw [Bool.eq_iff_iff]; simp_all [rightN, leastK, mostK] <;> omega), hx⟩
      · try simp only [decide_eq_true_eq, decide_eq_false_iff_not, Bool.not_eq_true', Bool.not_eq_false', Bool.and_eq_true, Bool.or_eq_true, Bool.and_eq_false_iff, Bool.or_eq_false_iff] at c21
        refine W.seq ?_
        refine W.region ?_
        refine WL.c rfl (o_eq rfl rfl ?_)
        refine WL.c rfl (o_ash (show _ = Value.bool _ from rfl) ?_)
        refine WL.nil ?_
        refine W.cond rfl (fun c31 => ?_) (fun c31 => ?_)
        · try simp only [decide_eq_true_eq, decide_eq_false_iff_not, Bool.not_eq_true', Bool.not_eq_false', Bool.and_eq_true, Bool.or_eq_true, Bool.and_eq_false_iff, Bool.or_eq_false_iff] at c31
          refine W.seq ?_
          refine W.region ?_
          refine WL.c rfl (o_fa 2 TI69 rfl TI3 rfl rfl ?_)
          refine WL.c rfl (o_ld TI3 rfl rfl (cell_of hC1 rfl) ?_)
          refine WL.c rfl (o_eq rfl rfl ?_)
          refine WL.c rfl (o_mvh (show _ = Value.bool _ from rfl) ?_)
          refine WL.sp 3 rfl (fun g36 => ?_) (fun g36 => ?_)
          · skip
            refine WL.s rfl (g36) rfl ?_
            refine WL.s rfl (g36) rfl ?_
            refine WL.s rfl (g36) rfl ?_
            refine WL.c rfl (o_pickT rfl (g36) ?_)
            refine WL.c rfl (o_ash (show _ = Value.bool _ from rfl) ?_)
            refine WL.nil ?_
            refine W.ret ?_
            refine ret1v rfl (show _ = Value.bool _ from rfl) ?_
            exact ⟨congrArg Value.bool (by rw [Bool.eq_iff_iff]; simp_all [rightN, leastK, mostK] <;> omega), hx⟩
          · skip
            refine WL.g rfl (g36) rfl (o_fa 2 TI69 rfl TI3 rfl rfl ?_)
            refine WL.g rfl (g36) rfl (o_ld TI3 rfl rfl (cell_of hC1 rfl) ?_)
            refine WL.g rfl (g36) rfl (o_eq rfl rfl ?_)
            refine WL.c rfl (o_pickO rfl rfl ?_)
            refine WL.c rfl (o_ash (show _ = Value.bool _ from rfl) ?_)
            refine WL.nil ?_
            refine W.ret ?_
            refine ret1v rfl (show _ = Value.bool _ from rfl) ?_
            exact ⟨congrArg Value.bool (by rw [Bool.eq_iff_iff]; simp_all [rightN, leastK, mostK] <;> omega), hx⟩
        · try simp only [decide_eq_true_eq, decide_eq_false_iff_not, Bool.not_eq_true', Bool.not_eq_false', Bool.and_eq_true, Bool.or_eq_true, Bool.and_eq_false_iff, Bool.or_eq_false_iff] at c31
          refine W.seq ?_
          refine W.region ?_
          refine WL.c rfl (o_eq rfl rfl ?_)
          refine WL.c rfl (o_ash (show _ = Value.bool _ from rfl) ?_)
          refine WL.nil ?_
          refine W.cond rfl (fun c41 => ?_) (fun c41 => ?_)
          · try simp only [decide_eq_true_eq, decide_eq_false_iff_not, Bool.not_eq_true', Bool.not_eq_false', Bool.and_eq_true, Bool.or_eq_true, Bool.and_eq_false_iff, Bool.or_eq_false_iff] at c41
            refine W.seq ?_
            refine W.region ?_
            refine WL.c rfl (o_fa 2 TI69 rfl TI3 rfl rfl ?_)
            refine WL.c rfl (o_ld TI3 rfl rfl (cell_of hC1 rfl) ?_)
            refine WL.c rfl (o_eq rfl rfl ?_)
            refine WL.c rfl (o_ash (show _ = Value.bool _ from rfl) ?_)
            refine WL.nil ?_
            refine W.ret ?_
            refine ret1v rfl (show _ = Value.bool _ from rfl) ?_
            exact ⟨congrArg Value.bool (by rw [Bool.eq_iff_iff]; simp_all [rightN, leastK, mostK] <;> omega), hx⟩
          · try simp only [decide_eq_true_eq, decide_eq_false_iff_not, Bool.not_eq_true', Bool.not_eq_false', Bool.and_eq_true, Bool.or_eq_true, Bool.and_eq_false_iff, Bool.or_eq_false_iff] at c41
            refine W.skip ?_
            refine W.seq ?_
            refine W.region ?_
            refine WL.c rfl (o_fa 2 TI69 rfl TI3 rfl rfl ?_)
            refine WL.c rfl (o_ld TI3 rfl rfl (cell_of hC1 rfl) ?_)
            refine WL.c rfl (o_eq rfl rfl ?_)
            refine WL.c rfl (o_ash (show _ = Value.bool _ from rfl) ?_)
            refine WL.nil ?_
            refine W.ret ?_
            refine ret1v rfl (show _ = Value.bool _ from rfl) ?_
            exact ⟨congrArg Value.bool (by rw [Bool.eq_iff_iff]; simp_all [rightN, leastK, mostK] <;> omega), hx⟩
set_option maxHeartbeats 4000000 in
theorem rcheck_spec (L : List Nd) (v : Value) (w0 : World) (hS : Sl w0 3 v L.length (nds L)) (hl : L.length ≤ 5864062014805) : Ca Tryd.prog 53 #[v] w0 (fun r w' => r = .tuple #[.int .i64 (chkV L).1, .int .i64 (chkV L).2] ∧ Ext w0 w') := by
  have hx : Ext w0 w0 := Only.refl _ _
  refine Ca.of Tryd.func53 Tryd.ntmps53 rfl rfl ?_
  refine W.seq ?_
  refine W.region ?_
  refine WL.c rfl (o_ash (show _ = Value.int _ _ from rfl) ?_)
  refine WL.c rfl (o_ash (show _ = Value.int _ _ from rfl) ?_)
  refine WL.nil ?_
  refine W.seq ?_
  refine W.region ?_
  refine WL.c rfl (o_ash (show _ = Value.int _ _ from rfl) ?_)
  refine WL.nil ?_
  refine W.seq ?_
  refine W.seq ?_
  refine W.region ?_
  refine WL.c rfl (o_ash (show _ = Value.int _ _ from rfl) ?_)
  refine WL.nil ?_
  refine W.block ?_
  refine W.loop (fun e w => ∃ (i : Nat) (t : Int), i ≤ L.length ∧ e 0 = v ∧ e 4 = .int .i64 t ∧ e 5 = .int .i64 (i : Int) ∧ chkV L = chkG t i (L.drop i) ∧ 0 ≤ t ∧ t ≤ 1 + 1048576 * (i : Int) ∧ Ext w0 w) (fun e w => L.length - (intOf (e 5)).toNat) ?_ ?_
  · exact ⟨0, 1, Nat.zero_le _, rfl, rfl, rfl, rfl, by omega, by omega, hx⟩
  rintro e w ⟨i, t, hi, h0, h4, h5, hres, ht0, ht1, hx⟩
  have hm5 := h5
  refine W.seq ?_
  refine W.seq ?_
  refine W.region ?_
  refine WL.c rfl (o_mvh h5 ?_)
  refine WL.c rfl (o_mvh h0 ?_)
  refine WL.c rfl (o_lenR TI30 rfl (hS.ext hx) ?_)
  refine WL.c rfl (o_lt rfl rfl ?_)
  refine WL.nil ?_
  refine W.cond rfl (fun c9 => ?_) (fun c9 => ?_)
  · try simp only [decide_eq_true_eq, decide_eq_false_iff_not, Bool.not_eq_true', Bool.not_eq_false', Bool.and_eq_true, Bool.or_eq_true, Bool.and_eq_false_iff, Bool.or_eq_false_iff] at c9
    have hi1 : i < L.length := by omega
    obtain ⟨ub, uo, uc, hv, huc⟩ := Sl.nd (hS.ext hx) hi1
    rw [hv] at h0
    have hdr : L.drop i = L[i] :: L.drop (i + 1) := (List.getElem_cons_drop hi1).symm
    refine W.skip ?_
    refine W.seq ?_
    refine W.block ?_
    refine W.seq ?_
    refine W.seq ?_
    refine W.region ?_
    refine WL.c rfl (o_mvh h4 ?_)
    refine WL.c rfl (o_eq rfl rfl ?_)
    refine WL.c rfl (o_mvh (show _ = Value.bool _ from rfl) ?_)
    refine WL.sp 2 rfl (fun g14 => ?_) (fun g14 => ?_)
    · skip
      refine WL.s rfl (g14) rfl ?_
      refine WL.s rfl (g14) rfl ?_
      refine WL.s rfl (g14) rfl ?_
      refine WL.s rfl (g14) rfl ?_
      refine WL.s rfl (g14) rfl ?_
      refine WL.s rfl (g14) rfl ?_
      refine WL.c rfl (o_pickT rfl (g14) ?_)
      refine WL.nil ?_
      refine W.cond rfl (fun c21 => ?_) (fun c21 => ?_)
      · try simp only [decide_eq_true_eq, decide_eq_false_iff_not, Bool.not_eq_true', Bool.not_eq_false', Bool.and_eq_true, Bool.or_eq_true, Bool.and_eq_false_iff, Bool.or_eq_false_iff] at c21
        have hbad : t = 0 ∨ rightN L[i] = false := by first | exact .inl (by simpa using g14) | exact .inr (by simpa using c21) | simpa using c21
        refine W.seq ?_
        refine W.region ?_
        refine WL.c rfl (o_mvh h5 ?_)
        refine WL.c rfl (o_ash (show _ = Value.int _ _ from rfl) ?_)
        refine WL.c rfl (o_ash (show _ = Value.int _ _ from rfl) ?_)
        refine WL.nil ?_
        refine W.ret ?_
        refine ret2v rfl (show _ = Value.int _ _ from rfl) (show _ = Value.int _ _ from rfl) ?_
        exact ⟨by rw [hres, hdr, chkG, if_pos hbad], hx⟩
      · try simp only [decide_eq_true_eq, decide_eq_false_iff_not, Bool.not_eq_true', Bool.not_eq_false', Bool.and_eq_true, Bool.or_eq_true, Bool.and_eq_false_iff, Bool.or_eq_false_iff] at c21
        have hok : ¬ (t = 0 ∨ rightN L[i] = false) := by first | (exfalso; simp at c21; done) | simpa using c21
        have hrt : rightN L[i] = true := by cases h : rightN L[i] with | true => rfl | false => exact absurd (.inr h) hok
        have ht2 : ¬ t = 0 := fun h => hok (.inl h)
        have hkd := right_kids hrt
        refine W.skip ?_
        refine W.region ?_
        refine WL.c rfl (o_mvh h4 ?_)
        refine WL.c rfl (o_subi rfl rfl (by omega) ?_)
        refine WL.c rfl (o_mvh h0 ?_)
        refine WL.c rfl (o_mvh h5 ?_)
        refine WL.c rfl (o_ixB (i := i) TI30 TI69 (show _ = Value.slice (some ⟨ub, uo, none⟩) L.length uc from by first | rfl | assumption) (show _ = Value.int .i64 (i : Int) from by first | rfl | assumption) (by omega) ?_)
        refine WL.c rfl (o_fa 2 TI69 rfl TI3 rfl rfl ?_)
        refine WL.c rfl (o_ld TI3 rfl rfl (huc 2 _ rfl) ?_)
        refine WL.c rfl (o_addi rfl rfl (by omega) ?_)
        refine WL.c rfl (o_ash (show _ = Value.int _ _ from rfl) ?_)
        refine WL.nil ?_
        refine W.region ?_
        refine WL.c rfl (o_mvh h5 ?_)
        refine WL.c rfl (o_addi rfl rfl (by omega) ?_)
        refine WL.c rfl (o_ash (show _ = Value.int _ _ from rfl) ?_)
        refine WL.nil ?_
        refine ⟨⟨i + 1, t + (L[i].kids - 1), by omega, h0.trans hv.symm, by show Value.int _ _ = _; congr 1; omega, rfl, ?_, by omega, by omega, hx⟩, ?_⟩
        · rw [hres, hdr, chkG, if_neg hok]
        · show L.length - ((i : Int) + 1).toNat < _
          rw [hm5]; simp [intOf]; omega
    · skip
      refine WL.g rfl (g14) rfl (o_mvh h0 ?_)
      refine WL.g rfl (g14) rfl (o_mvh h5 ?_)
      refine WL.g rfl (g14) rfl (o_ixB (i := i) TI30 TI69 (show _ = Value.slice (some ⟨ub, uo, none⟩) L.length uc from by first | rfl | assumption) (show _ = Value.int .i64 (i : Int) from by first | rfl | assumption) (by omega) ?_)
      refine WL.g rfl (g14) rfl (o_ldA TI69 rfl rfl huc rfl ?_)
      refine WL.g rfl (g14) rfl (o_call Tryd.call60 (lc rfl ln) ((rright_spec L[i] _).mono ?_))
      rintro v19 w19 ⟨rfl, hx19⟩
      replace hx := hx.tr hx19
      replace huc := huc.only hx19 (fun h => h)
      refine WL.g rfl (g14) rfl (o_not' rfl ?_)
      refine WL.c rfl (o_pickO rfl rfl ?_)
      refine WL.nil ?_
      refine W.cond rfl (fun c21 => ?_) (fun c21 => ?_)
      · try simp only [decide_eq_true_eq, decide_eq_false_iff_not, Bool.not_eq_true', Bool.not_eq_false', Bool.and_eq_true, Bool.or_eq_true, Bool.and_eq_false_iff, Bool.or_eq_false_iff] at c21
        have hbad : t = 0 ∨ rightN L[i] = false := by first | exact .inl (by simpa using g14) | exact .inr (by simpa using c21) | simpa using c21
        refine W.seq ?_
        refine W.region ?_
        refine WL.c rfl (o_mvh h5 ?_)
        refine WL.c rfl (o_ash (show _ = Value.int _ _ from rfl) ?_)
        refine WL.c rfl (o_ash (show _ = Value.int _ _ from rfl) ?_)
        refine WL.nil ?_
        refine W.ret ?_
        refine ret2v rfl (show _ = Value.int _ _ from rfl) (show _ = Value.int _ _ from rfl) ?_
        exact ⟨by rw [hres, hdr, chkG, if_pos hbad], hx⟩
      · try simp only [decide_eq_true_eq, decide_eq_false_iff_not, Bool.not_eq_true', Bool.not_eq_false', Bool.and_eq_true, Bool.or_eq_true, Bool.and_eq_false_iff, Bool.or_eq_false_iff] at c21
        have hok : ¬ (t = 0 ∨ rightN L[i] = false) := by first | (exfalso; simp at c21; done) | simpa using c21
        have hrt : rightN L[i] = true := by cases h : rightN L[i] with | true => rfl | false => exact absurd (.inr h) hok
        have ht2 : ¬ t = 0 := fun h => hok (.inl h)
        have hkd := right_kids hrt
        refine W.skip ?_
        refine W.region ?_
        refine WL.c rfl (o_mvh h4 ?_)
        refine WL.c rfl (o_subi rfl rfl (by omega) ?_)
        refine WL.c rfl (o_mvh h0 ?_)
        refine WL.c rfl (o_mvh h5 ?_)
        refine WL.c rfl (o_ixB (i := i) TI30 TI69 (show _ = Value.slice (some ⟨ub, uo, none⟩) L.length uc from by first | rfl | assumption) (show _ = Value.int .i64 (i : Int) from by first | rfl | assumption) (by omega) ?_)
        refine WL.c rfl (o_fa 2 TI69 rfl TI3 rfl rfl ?_)
        refine WL.c rfl (o_ld TI3 rfl rfl (huc 2 _ rfl) ?_)
        refine WL.c rfl (o_addi rfl rfl (by omega) ?_)
        refine WL.c rfl (o_ash (show _ = Value.int _ _ from rfl) ?_)
        refine WL.nil ?_
        refine W.region ?_
        refine WL.c rfl (o_mvh h5 ?_)
        refine WL.c rfl (o_addi rfl rfl (by omega) ?_)
        refine WL.c rfl (o_ash (show _ = Value.int _ _ from rfl) ?_)
        refine WL.nil ?_
        refine ⟨⟨i + 1, t + (L[i].kids - 1), by omega, h0.trans hv.symm, by show Value.int _ _ = _; congr 1; omega, rfl, ?_, by omega, by omega, hx⟩, ?_⟩
        · rw [hres, hdr, chkG, if_neg hok]
        · show L.length - ((i : Int) + 1).toNat < _
          rw [hm5]; simp [intOf]; omega
  · try simp only [decide_eq_true_eq, decide_eq_false_iff_not, Bool.not_eq_true', Bool.not_eq_false', Bool.and_eq_true, Bool.or_eq_true, Bool.and_eq_false_iff, Bool.or_eq_false_iff] at c9
    have hi1 : i = L.length := by omega
    rw [hi1, List.drop_length, chkG] at hres
    refine W.exit ?_
    refine W.seq ?_
    refine W.seq ?_
    refine W.region ?_
    refine WL.c rfl (o_mvh h4 ?_)
    refine WL.c rfl (o_gt rfl rfl ?_)
    refine WL.nil ?_
    refine W.cond rfl (fun c32 => ?_) (fun c32 => ?_)
    · try simp only [decide_eq_true_eq, decide_eq_false_iff_not, Bool.not_eq_true', Bool.not_eq_false', Bool.and_eq_true, Bool.or_eq_true, Bool.and_eq_false_iff, Bool.or_eq_false_iff] at c32
      refine W.seq ?_
      refine W.region ?_
      refine WL.c rfl (o_mvh h0 ?_)
      refine WL.c rfl (o_lenR TI30 rfl (hS.ext hx) ?_)
      refine WL.c rfl (o_ash (show _ = Value.int _ _ from rfl) ?_)
      refine WL.c rfl (o_ash (show _ = Value.int _ _ from rfl) ?_)
      refine WL.nil ?_
      refine W.ret ?_
      refine ret2v rfl (show _ = Value.int _ _ from rfl) (show _ = Value.int _ _ from rfl) ?_
      exact ⟨by rw [hres, if_pos (by omega)], hx⟩
    · try simp only [decide_eq_true_eq, decide_eq_false_iff_not, Bool.not_eq_true', Bool.not_eq_false', Bool.and_eq_true, Bool.or_eq_true, Bool.and_eq_false_iff, Bool.or_eq_false_iff] at c32
      refine W.skip ?_
      refine W.seq ?_
      refine W.region ?_
      refine WL.c rfl (o_ash (show _ = Value.int _ _ from rfl) ?_)
      refine WL.c rfl (o_ash (show _ = Value.int _ _ from rfl) ?_)
      refine WL.nil ?_
      refine W.ret ?_
      refine ret2v rfl (show _ = Value.int _ _ from rfl) (show _ = Value.int _ _ from rfl) ?_
      exact ⟨by rw [hres, if_neg (by omega)], hx⟩
set_option maxHeartbeats 2000000 in
theorem rbehind_spec (L : List Nd) (v : Value) (p : Nat) (w0 : World) (hS : Sl w0 3 v L.length (nds L)) (hl : L.length ≤ 5864062014805) (hc : (chkV L).1 = 0) (hp : p < L.length) : Ca Tryd.prog 54 #[v, .int .i64 (p : Int)] w0 (fun r w' => r = .int .i64 (nextV L p : Int) ∧ Ext w0 w') := by
  have hx : Ext w0 w0 := Only.refl _ _
  obtain ⟨s, post, hsw, hsd⟩ := sub_at hc hp
  have hnx := next_tree hsd hsw
  refine Ca.of Tryd.func54 Tryd.ntmps54 rfl rfl ?_
  refine W.seq ?_
  refine W.region ?_
  refine WL.c rfl (o_ash (show _ = Value.int _ _ from rfl) ?_)
  refine WL.nil ?_
  refine W.seq ?_
  refine W.region ?_
  refine WL.c rfl (o_ash (show _ = Value.int _ _ from rfl) ?_)
  refine WL.nil ?_
  refine W.seq ?_
  refine W.block ?_
  refine W.loop (fun e w => ∃ (q : Nat) (F : Vts) (post : List Nd), q ≤ L.length ∧ e 0 = v ∧ e 1 = .int .i64 (q : Int) ∧ e 5 = .int .i64 (F.len : Int) ∧ F.wf ∧ L.drop q = F.flat ++ post ∧ nextV L p = q + F.flat.length ∧ Ext w0 w) (fun e w => L.length - (intOf (e 1)).toNat) ?_ ?_
  · exact ⟨p, .cons s .nil, post, by omega, rfl, rfl, rfl, ⟨hsw, trivial⟩, by simpa [Vts.flat] using hsd, by simpa [Vts.flat] using hnx, hx⟩
  rintro e w ⟨q, F, post, hq, h0, h1, h5, hw, hd, hn, hx⟩
  have hm1 := h1
  refine W.seq ?_
  refine W.seq ?_
  refine W.region ?_
  refine WL.c rfl (o_mvh h5 ?_)
  refine WL.c rfl (o_gt rfl rfl ?_)
  refine WL.nil ?_
  refine W.cond rfl (fun c7 => ?_) (fun c7 => ?_)
  · try simp only [decide_eq_true_eq, decide_eq_false_iff_not, Bool.not_eq_true', Bool.not_eq_false', Bool.and_eq_true, Bool.or_eq_true, Bool.and_eq_false_iff, Bool.or_eq_false_iff] at c7
    obtain ⟨x, ks, G, rfl⟩ := Vts.pos (show 0 < F.len by omega)
    obtain ⟨hq1, hxq, hd2⟩ := drop_step hd
    obtain ⟨ub, uo, uc, hv, huc⟩ := Sl.nd (hS.ext hx) hq1
    rw [hxq] at huc
    rw [hv] at h0
    have hkd := right_kids hw.1.1
    have hln := Vts.len_le (.cons (.node x ks) G)
    have hdl := congrArg List.length hd
    rw [List.length_drop, List.length_append] at hdl
    refine W.skip ?_
    refine W.block ?_
    refine W.seq ?_
    refine W.region ?_
    refine WL.c rfl (o_mvh h5 ?_)
    refine WL.c rfl (o_subi rfl rfl (by omega) ?_)
    refine WL.c rfl (o_mvh h0 ?_)
    refine WL.c rfl (o_mvh h1 ?_)
    refine WL.c rfl (o_ixB (i := q) TI30 TI69 (show _ = Value.slice (some ⟨ub, uo, none⟩) L.length uc from by first | rfl | assumption) (show _ = Value.int .i64 (q : Int) from by first | rfl | assumption) (by omega) ?_)
    refine WL.c rfl (o_fa 2 TI69 rfl TI3 rfl rfl ?_)
    refine WL.c rfl (o_ld TI3 rfl rfl (huc 2 _ rfl) ?_)
    refine WL.c rfl (o_addi rfl rfl (by omega) ?_)
    refine WL.c rfl (o_ash (show _ = Value.int _ _ from rfl) ?_)
    refine WL.nil ?_
    refine W.region ?_
    refine WL.c rfl (o_mvh h1 ?_)
    refine WL.c rfl (o_addi rfl rfl (by omega) ?_)
    refine WL.c rfl (o_ash (show _ = Value.int _ _ from rfl) ?_)
    refine WL.nil ?_
    refine ⟨⟨q + 1, ks.app G, post, by omega, h0.trans hv.symm, rfl, ?_, (Vts.app_wf _ _).2 ⟨hw.1.2.2, hw.2⟩, ?_, ?_, hx⟩, ?_⟩
    · show Value.int .i64 ((((Vts.cons (Vt.node x ks) G).len : Nat) : Int) - 1 + x.kids) = _
      rw [Vts.app_len]
      congr 1
      have := hw.1.2.1
      simp only [Vts.len]
      omega
    · exact hd2
    · rw [hn, Vts.app_flat]; simp only [Vts.flat, Vt.flat, List.length_append, List.length_cons]; omega
    · show L.length - ((q : Int) + 1).toNat < _
      rw [hm1]; simp [intOf]; omega
  · try simp only [decide_eq_true_eq, decide_eq_false_iff_not, Bool.not_eq_true', Bool.not_eq_false', Bool.and_eq_true, Bool.or_eq_true, Bool.and_eq_false_iff, Bool.or_eq_false_iff] at c7
    have hF : F.len = 0 := by omega
    have hF2 : F.flat.length = 0 := by cases F with | nil => rfl | cons t ts => simp [Vts.len] at hF
    refine W.exit ?_
    refine W.seq ?_
    refine W.region ?_
    refine WL.c rfl (o_mvh h1 ?_)
    refine WL.c rfl (o_ash (show _ = Value.int _ _ from rfl) ?_)
    refine WL.nil ?_
    refine W.ret ?_
    refine ret1v rfl (show _ = Value.int _ _ from rfl) ?_
    exact ⟨by rw [hn, hF2]; rfl, hx⟩
set_option maxHeartbeats 1000000 in
theorem rnext_spec (L : List Nd) (v : Value) (at_ : Int) (w0 : World) (hS : Sl w0 3 v L.length (nds L)) (hl : L.length ≤ 5864062014805) : Ca Tryd.prog 32 #[v, .int .i64 at_] w0 (fun r w' => r = .tuple #[.int .i64 (if thereV L at_ = 0 then (nextV L at_.toNat : Int) else 0), .int .i64 (thereV L at_)] ∧ Ext w0 w') := by
  refine Ca.of Tryd.func32 Tryd.ntmps32 rfl rfl ?_
  refine W.seq ?_
  refine W.region ?_
  refine WL.c rfl (o_ash (show _ = Value.int _ _ from rfl) ?_)
  refine WL.c rfl (o_ash (show _ = Value.int _ _ from rfl) ?_)
  refine WL.nil ?_
  refine W.seq ?_
  refine W.region ?_
  refine WL.c rfl (o_mvh (by first | exact (show _ = Value.slice _ _ _ from rfl) | exact rfl) ?_)
  refine WL.c rfl (o_call Tryd.call53 (lc rfl ln) ((rcheck_spec L v _ hS hl).mono ?_))
  rintro v10 w10 ⟨rfl, hx10⟩
  have hx := hx10
  refine WL.c rfl (o_mvh (by first | exact (show _ = Value.tuple _ from rfl) | exact rfl) ?_)
  refine WL.c rfl (o_ext rfl rfl ?_)
  refine WL.c rfl (o_ext rfl rfl ?_)
  refine WL.c rfl (o_ash (show _ = Value.int _ _ from rfl) ?_)
  refine WL.c rfl (o_ash (show _ = Value.int _ _ from rfl) ?_)
  refine WL.nil ?_
  refine W.seq ?_
  refine W.seq ?_
  refine W.region ?_
  refine WL.c rfl (o_mvh (show _ = Value.int _ _ from rfl) ?_)
  refine WL.c rfl (o_ne rfl rfl ?_)
  refine WL.nil ?_
  refine W.cond rfl (fun c14 => ?_) (fun c14 => ?_)
  · try simp only [decide_eq_true_eq, decide_eq_false_iff_not, Bool.not_eq_true', Bool.not_eq_false', Bool.and_eq_true, Bool.or_eq_true, Bool.and_eq_false_iff, Bool.or_eq_false_iff] at c14
    have hck : ¬ (chkV L).1 = 0 := by simpa using c14
    have hth : thereV L at_ = (chkV L).1 := if_pos hck
    refine W.seq ?_
    refine W.region ?_
    refine WL.c rfl (o_mvh (show _ = Value.int _ _ from rfl) ?_)
    refine WL.c rfl (o_ash (show _ = Value.int _ _ from rfl) ?_)
    refine WL.c rfl (o_ash (show _ = Value.int _ _ from rfl) ?_)
    refine WL.nil ?_
    refine W.ret ?_
    refine ret2v rfl (show _ = Value.int _ _ from rfl) (show _ = Value.int _ _ from rfl) ?_
    exact ⟨by rw [hth, if_neg hck], hx⟩
  · try simp only [decide_eq_true_eq, decide_eq_false_iff_not, Bool.not_eq_true', Bool.not_eq_false', Bool.and_eq_true, Bool.or_eq_true, Bool.and_eq_false_iff, Bool.or_eq_false_iff] at c14
    have hck : (chkV L).1 = 0 := by simpa using c14
    refine W.skip ?_
    refine W.seq ?_
    refine W.seq ?_
    by_cases ha : at_ < 0 ∨ (L.length : Int) ≤ at_
    · skip
      have hth : thereV L at_ = 3 := by rw [thereV, if_neg (fun h => h hck), if_pos ha]
      refine W.region ?_
      refine WL.c rfl (o_mvh (show _ = Value.int _ _ from rfl) ?_)
      refine WL.c rfl (o_lt rfl rfl ?_)
      refine WL.c rfl (o_mvh (show _ = Value.bool _ from rfl) ?_)
      refine WL.sp 2 rfl (fun g18 => ?_) (fun g18 => ?_)
      · skip
        refine WL.s rfl (g18) rfl ?_
        refine WL.s rfl (g18) rfl ?_
        refine WL.s rfl (g18) rfl ?_
        refine WL.s rfl (g18) rfl ?_
        refine WL.c rfl (o_pickT rfl (g18) ?_)
        refine WL.nil ?_
        refine W.condT' rfl (by simp_all <;> omega) ?_
        refine W.seq ?_
        refine W.region ?_
        refine WL.c rfl (o_ash (show _ = Value.int _ _ from rfl) ?_)
        refine WL.c rfl (o_ash (show _ = Value.int _ _ from rfl) ?_)
        refine WL.nil ?_
        refine W.ret ?_
        refine ret2v rfl (show _ = Value.int _ _ from rfl) (show _ = Value.int _ _ from rfl) ?_
        exact ⟨by rw [hth, if_neg (by decide)], hx⟩
      · skip
        refine WL.g rfl (g18) rfl (o_mvh (show _ = Value.int _ _ from rfl) ?_)
        refine WL.g rfl (g18) rfl (o_mvh (by first | exact (show _ = Value.slice _ _ _ from rfl) | exact rfl) ?_)
        refine WL.g rfl (g18) rfl (o_lenR TI30 rfl (hS.ext hx) ?_)
        refine WL.g rfl (g18) rfl (o_ge rfl rfl ?_)
        refine WL.c rfl (o_pickO rfl rfl ?_)
        refine WL.nil ?_
        refine W.condT' rfl (by simp_all <;> omega) ?_
        refine W.seq ?_
        refine W.region ?_
        refine WL.c rfl (o_ash (show _ = Value.int _ _ from rfl) ?_)
        refine WL.c rfl (o_ash (show _ = Value.int _ _ from rfl) ?_)
        refine WL.nil ?_
        refine W.ret ?_
        refine ret2v rfl (show _ = Value.int _ _ from rfl) (show _ = Value.int _ _ from rfl) ?_
        exact ⟨by rw [hth, if_neg (by decide)], hx⟩
    · skip
      obtain ⟨p, rfl⟩ : ∃ p : Nat, at_ = (p : Int) := ⟨at_.toNat, by omega⟩
      have hth := there_in hck (show p < L.length by omega)
      refine W.region ?_
      refine WL.c rfl (o_mvh (show _ = Value.int _ _ from rfl) ?_)
      refine WL.c rfl (o_lt rfl rfl ?_)
      refine WL.c rfl (o_mvh (show _ = Value.bool _ from rfl) ?_)
      refine WL.g rfl (by simp <;> omega) rfl (o_mvh (show _ = Value.int _ _ from rfl) ?_)
      refine WL.g rfl (by simp <;> omega) rfl (o_mvh (by first | exact (show _ = Value.slice _ _ _ from rfl) | exact rfl) ?_)
      refine WL.g rfl (by simp <;> omega) rfl (o_lenR TI30 rfl (hS.ext hx) ?_)
      refine WL.g rfl (by simp <;> omega) rfl (o_ge rfl rfl ?_)
      refine WL.c rfl (o_pickO rfl rfl ?_)
      refine WL.nil ?_
      refine W.condF' rfl (by simp; omega) ?_
      refine W.skip ?_
      refine W.seq ?_
      refine W.region ?_
      refine WL.c rfl (o_mvh (by first | exact (show _ = Value.slice _ _ _ from rfl) | exact rfl) ?_)
      refine WL.c rfl (o_mvh (show _ = Value.int _ _ from rfl) ?_)
      refine WL.c rfl (o_call Tryd.call54 (lc rfl (lc rfl ln)) ((rbehind_spec L v p _ (hS.ext hx) hl hck (by omega)).mono ?_))
      rintro v26 w26 ⟨rfl, hx26⟩
      replace hx := hx.tr hx26
      refine WL.c rfl (o_ash (show _ = Value.int _ _ from rfl) ?_)
      refine WL.c rfl (o_ash (show _ = Value.int _ _ from rfl) ?_)
      refine WL.nil ?_
      refine W.ret ?_
      refine ret2v rfl (show _ = Value.int _ _ from rfl) (show _ = Value.int _ _ from rfl) ?_
      exact ⟨by rw [hth, if_pos rfl, Int.toNat_natCast], hx⟩
end Go.Proofs.YtgmjfcekeglhjaaDoor

set_option linter.unusedSimpArgs false
set_option linter.unusedVariables false
set_option maxRecDepth 100000
namespace Go.Proofs.YtgmjfcekeglhjaaDoor
open Go Go.Vc Go.RowKit Go.Proofs

mutual
/-- of each node below the root: its parent, which kid it is -/
def Vt.pk (o : Nat) : Vt → List (Nat × Nat)
  | .node _ ks => ks.pkS o 0 (o + 1)
def Vts.pkS (par k o : Nat) : Vts → List (Nat × Nat)
  | .nil => []
  | .cons t ts => (par, k) :: (t.pk o ++ ts.pkS par (k + 1) (o + t.flat.length))
end
mutual
theorem pk_len : ∀ (t : Vt) (o : Nat), (t.pk o).length + 1 = t.flat.length
  | .node x ks, o => by rw [Vt.pk, Vt.flat, List.length_cons, pkS_len ks]
theorem pkS_len : ∀ (ts : Vts) (par k o : Nat), (ts.pkS par k o).length = ts.flat.length
  | .nil, par, k, o => rfl
  | .cons t ts, par, k, o => by
    have := pk_len t o
    rw [Vts.pkS, Vts.flat, List.length_cons, List.length_append, List.length_append, pkS_len ts]
    omega
end
mutual
theorem pkt_at : ∀ (t : Vt) (o p : Nat), t.wf → p < t.flat.length → ∃ (x : Nd) (ks : Vts) (post : List Nd) (post' : List (Nat × Nat)), ks.wf ∧ (ks.len : Int) = x.kids ∧ t.flat.drop p = (Vt.node x ks).flat ++ post ∧ (t.pk o).drop p = ks.pkS (o + p) 0 (o + p + 1) ++ post'
  | .node x ks, o, 0, hw, _ => ⟨x, ks, [], [], hw.2.2, hw.2.1, by simp, by simp [Vt.pk]⟩
  | .node x ks, o, p + 1, hw, h => by
    simp only [Vt.flat, List.length_cons] at h
    obtain ⟨y, gs, post, post', w1, w2, h1, h2⟩ := pks_at ks o 0 (o + 1) p hw.2.2 (by omega)
    refine ⟨y, gs, post, post', w1, w2, by rw [Vt.flat, List.drop_succ_cons]; exact h1, ?_⟩
    rw [Vt.pk, h2, show o + 1 + p = o + (p + 1) by omega]
theorem pks_at : ∀ (ts : Vts) (par k o p : Nat), ts.wf → p < ts.flat.length → ∃ (x : Nd) (ks : Vts) (post : List Nd) (post' : List (Nat × Nat)), ks.wf ∧ (ks.len : Int) = x.kids ∧ ts.flat.drop p = (Vt.node x ks).flat ++ post ∧ (ts.pkS par k o).drop (p + 1) = ks.pkS (o + p) 0 (o + p + 1) ++ post'
  | .nil, par, k, o, p, _, h => by simp [Vts.flat] at h
  | .cons t ts, par, k, o, p, hw, h => by
    simp only [Vts.flat, List.length_append] at h
    have hl := pk_len t o
    rw [Vts.pkS, List.drop_succ_cons, Vts.flat]
    by_cases hp : p < t.flat.length
    · obtain ⟨y, gs, post, post', w1, w2, h1, h2⟩ := pkt_at t o p hw.1 hp
      exact ⟨y, gs, post ++ ts.flat, post' ++ ts.pkS par (k + 1) (o + t.flat.length), w1, w2, by rw [List.drop_append_of_le_length (by omega), h1, List.append_assoc], by rw [List.drop_append_of_le_length (by omega), h2, List.append_assoc]⟩
    · obtain ⟨y, gs, post, post', w1, w2, h1, h2⟩ := pks_at ts par (k + 1) (o + t.flat.length) (p - t.flat.length) hw.2 (by omega)
      refine ⟨y, gs, post, post', w1, w2, by rw [List.drop_append, List.drop_eq_nil_of_le (by omega), List.nil_append, h1], ?_⟩
      rw [List.drop_append, List.drop_eq_nil_of_le (by omega), List.nil_append, show p - (t.pk o).length = p - t.flat.length + 1 by omega, h2, show o + t.flat.length + (p - t.flat.length) = o + p by omega]
end
def PK (t : Vt) : List (Nat × Nat) := (0, 0) :: t.pk 0
def pkO (t : Vt) (j : Nat) : Nat × Nat := (PK t).getD j (0, 0)
theorem pkS_drop {L post : List Nd} {Q post' : List (Nat × Nat)} {o i : Nat} : ∀ (k : Nat) (ks : Vts), ks.wf → L.drop o = ks.flat ++ post → Q.drop o = ks.pkS i 0 o ++ post' → k ≤ ks.len →
    ∃ g : Vts, g.len + k = ks.len ∧ g.wf ∧ L.drop (kidP L o k) = g.flat ++ post ∧ Q.drop (kidP L o k) = g.pkS i k (kidP L o k) ++ post'
  | 0, ks, hw, h, h', _ => ⟨ks, rfl, hw, h, h'⟩
  | k + 1, ks, hw, h, h', hk => by
    obtain ⟨g, h1, h2, h3, h4⟩ := pkS_drop k ks hw h h' (by omega)
    cases g with
    | nil => simp only [Vts.len] at h1; omega
    | cons t g =>
      have h5 : nextV L (kidP L o k) = kidP L o k + t.flat.length := next_tree (post := g.flat ++ post) (by rw [h3, Vts.flat, List.append_assoc]) h2.1
      simp only [Vts.len] at h1
      have hl := pk_len t (kidP L o k)
      refine ⟨g, by omega, h2.2, ?_, ?_⟩
      · show L.drop (nextV L (kidP L o k)) = _
        rw [h5, ← List.drop_drop, h3, Vts.flat, List.append_assoc, List.drop_left']
        rfl
      · show Q.drop (nextV L (kidP L o k)) = g.pkS i (k + 1) (nextV L (kidP L o k)) ++ post'
        rw [h5, ← List.drop_drop, h4, Vts.pkS, List.cons_append, ← hl, List.drop_succ_cons, List.append_assoc, List.drop_left' rfl, hl]
/-- kid number k of node i -/
theorem pk_kid {t : Vt} (hw : t.wf) {i k : Nat} (hi : i < t.flat.length) (hk : (k : Int) < t.flat[i].kids) : pkO t (kidP t.flat (i + 1) k) = (i, k) := by
  obtain ⟨x, ks, post, post', w1, w2, h1, h2⟩ := pkt_at t 0 i hw hi
  have h8 : t.flat.drop i = t.flat[i] :: t.flat.drop (i + 1) := (List.getElem_cons_drop hi).symm
  rw [h8, Vt.flat, List.cons_append, List.cons.injEq] at h1
  have hPd : (PK t).drop (i + 1) = ks.pkS i 0 (i + 1) ++ post' := by rw [PK, List.drop_succ_cons, h2, Nat.zero_add]
  rw [h1.1] at hk
  obtain ⟨g, g1, g2, g3, g4⟩ := pkS_drop k ks w1 h1.2 hPd (by omega)
  cases g with
  | nil => simp only [Vts.len] at g1; omega
  | cons u g =>
    rw [Vts.pkS] at g4
    have : (PK t)[kidP t.flat (i + 1) k]? = some (i, k) := by
      rw [← List.head?_drop, g4]; rfl
    rw [pkO, List.getD_eq_getElem?_getD, this]
    rfl
/-- each node but the root is a kid -/
theorem is_kid {L : List Nd} (hc : (chkV L).1 = 0) {j : Nat} : ∀ (m i : Nat), j - i ≤ m → i < j → j < nextV L i → ∃ (i' k : Nat) (h : i' < L.length), i' < j ∧ (k : Int) < L[i'].kids ∧ kidP L (i' + 1) k = j
  | 0, i, h1, h2, h3 => by omega
  | m + 1, i, h1, h2, h3 => by
    have hi : i < L.length := by
      rcases Nat.lt_or_ge i L.length with h | h
      · exact h
      · rw [nextV, List.drop_eq_nil_of_le h, spanG] at h3; omega
    obtain ⟨ks, post, hr, hkl, -, -, -⟩ := node_at hc hi
    have hend := kid_end hc hi (k := ks.len) hkl
    have key : ∀ n, n ≤ ks.len → j < kidP L (i + 1) n → ∃ k, k < n ∧ kidP L (i + 1) k ≤ j ∧ j < kidP L (i + 1) (k + 1) := by
      intro n
      induction n with
      | zero => intro _ h; exact absurd h (by show ¬ j < i + 1; omega)
      | succ n ih =>
        intro hn h
        by_cases hj : j < kidP L (i + 1) n
        · obtain ⟨k, k1, k2⟩ := ih (by omega) hj
          exact ⟨k, by omega, k2⟩
        · exact ⟨n, by omega, by omega, h⟩
    obtain ⟨k, k1, k2, k3⟩ := key ks.len (Nat.le_refl _) (by omega)
    by_cases he : kidP L (i + 1) k = j
    · exact ⟨i, k, hi, h2, by omega, he⟩
    · have h4 := (kid_lt hc hi (k := k) (by omega)).2
      exact is_kid hc m (kidP L (i + 1) k) (by omega) (by omega) k3
theorem pk_of {t : Vt} (hw : t.wf) {j : Nat} (h0 : j ≠ 0) (hj : j < t.flat.length) : ∃ h : (pkO t j).1 < t.flat.length, (pkO t j).1 < j ∧ ((pkO t j).2 : Int) < t.flat[(pkO t j).1].kids ∧ kidP t.flat ((pkO t j).1 + 1) (pkO t j).2 = j := by
  have hc : (chkV t.flat).1 = 0 := chk_ok.2 ⟨t, hw, rfl⟩
  obtain ⟨i, k, h1, h2, h3, h4⟩ := is_kid hc (j := j) j 0 (by omega) (by omega) (by rw [next_0 hc]; exact hj)
  have h5 := pk_kid hw h1 h3
  rw [h4] at h5
  rw [h5]
  exact ⟨h1, h2, h3, h4⟩
theorem kid_pos {t : Vt} (hw : t.wf) {i k : Nat} (hi : i < t.flat.length) (hk : (k : Int) < t.flat[i].kids) : kidP t.flat (i + 1) k < t.flat.length ∧ i < kidP t.flat (i + 1) k := kid_lt (chk_ok.2 ⟨t, hw, rfl⟩) hi hk

end Go.Proofs.YtgmjfcekeglhjaaDoor

set_option linter.unusedSimpArgs false
set_option linter.unusedVariables false
set_option maxRecDepth 100000
namespace Go.Proofs.YtgmjfcekeglhjaaDoor
open Go Go.Vc Go.RowKit Go.Proofs

/-- node x of the value, asx it stands in the arena -/
def mkO (t : Vt) (x : Nat) (p : Int) : Mk := ⟨(t.flat.getD x nd0).kind, (t.flat.getD x nd0).n, p, if x = 0 then 0 else ((pkO t x).2 : Int)⟩
/-- D is added, S is open -/
structure OrdS (t : Vt) (D S : List Nat) (A : List Mk) : Prop where
  nd : (D ++ S).Nodup
  lt : ∀ x ∈ D ++ S, x < t.flat.length
  up : ∀ x ∈ D ++ S, x ≠ 0 → (pkO t x).1 ∈ D
  down : ∀ x ∈ D, ∀ j, x < j → j < t.flat.length → (pkO t j).1 = x → j ∈ D ++ S
  root : D = [] ∧ S = [0] ∨ D[0]? = some 0
  len : A.length = D.length
  node : ∀ (m x : Nat), D[m]? = some x → ∃ p : Int, A[m]? = some (mkO t x p) ∧ (x = 0 → p = -1) ∧ (x ≠ 0 → ∃ q : Nat, p = (q : Int) ∧ D[q]? = some (pkO t x).1)
def kidsOf (t : Vt) (x : Nat) : List Nat := ((List.range t.flat.length).drop (x + 1)).filter (fun j => decide ((pkO t j).1 = x))
theorem mem_kidsOf {t : Vt} {x j : Nat} : j ∈ kidsOf t x ↔ x < j ∧ j < t.flat.length ∧ (pkO t j).1 = x := by
  rw [kidsOf, List.mem_filter, decide_eq_true_eq, List.mem_drop_iff_getElem]
  constructor
  · rintro ⟨⟨i, hi, he⟩, h2⟩
    rw [List.length_range] at hi
    rw [List.getElem_range] at he
    exact ⟨by omega, by omega, h2⟩
  · rintro ⟨h1, h2, h3⟩
    exact ⟨⟨j - (x + 1), by rw [List.length_range]; omega, by rw [List.getElem_range]; omega⟩, h3⟩
theorem kidsOf_nodup (t : Vt) (x : Nat) : (kidsOf t x).Nodup := (List.Sublist.nodup (List.drop_sublist _ _) (List.nodup_range)).filter _
theorem OrdS.start (t : Vt) : OrdS t [] [0] [] :=
  ⟨by simp, fun x hx => by simp at hx; subst hx; exact t.flat_pos, fun x hx h => by simp at hx; exact absurd hx h, fun x hx => by simp at hx, .inl ⟨rfl, rfl⟩, rfl, fun m x h => by simp at h⟩
theorem mem_erase_iff {S : List Nat} {k : Nat} (hk : k < S.length) (h : S.Nodup) (y : Nat) : y ∈ S.eraseIdx k ↔ y ∈ S ∧ y ≠ S[k] := by
  rw [List.mem_eraseIdx_iff_getElem]
  constructor
  · rintro ⟨i, hi, hne, rfl⟩
    exact ⟨List.getElem_mem hi, fun e => hne ((List.getElem_inj h).1 e)⟩
  · rintro ⟨hy, hne⟩
    obtain ⟨i, hi, rfl⟩ := List.getElem_of_mem hy
    exact ⟨i, hi, fun e => hne (by subst e; rfl), rfl⟩
theorem OrdS.x0 {t : Vt} {D S : List Nat} {A : List Mk} (h : OrdS t D S A) {k : Nat} (hk : k < S.length) : (S[k] = 0 ↔ D = []) := by
  constructor
  · intro e
    rcases h.root with h1 | h1
    · exact h1.1
    · exfalso
      have hd := (List.nodup_append.1 h.nd).2.2 0 (List.mem_of_getElem? h1) S[k] (List.getElem_mem hk)
      exact hd e.symm
  · intro e
    rcases h.root with h1 | h1
    · obtain ⟨-, rfl⟩ := h1
      have : k = 0 := by simpa using hk
      subst this
      rfl
    · rw [e] at h1; simp at h1
/-- what is added next is taken -/
theorem OrdS.add {t : Vt} (hw : t.wf) {D S : List Nat} {A : List Mk} (h : OrdS t D S A) {k : Nat} (hk : k < S.length) {p : Int} (hp0 : S[k] = 0 → p = -1) (hp1 : S[k] ≠ 0 → ∃ q : Nat, p = (q : Int) ∧ D[q]? = some (pkO t S[k]).1) {z : Int} (hz : S[k] ≠ 0 → z = ((pkO t S[k]).2 : Int)) :
    addV A p z (t.flat.getD S[k] nd0).kind (t.flat.getD S[k] nd0).n = ((D.length : Int), 0, A ++ [mkO t S[k] p]) := by
  have hc : (chkV t.flat).1 = 0 := chk_ok.2 ⟨t, hw, rfl⟩
  have hx : S[k] < t.flat.length := h.lt _ (List.mem_append_right _ (List.getElem_mem hk))
  have hgd : t.flat.getD S[k] nd0 = t.flat[S[k]] := by rw [List.getD_eq_getElem?_getD, List.getElem?_eq_getElem hx]; rfl
  obtain ⟨-, -, hr, -⟩ := node_at hc hx
  have hn : numB t.flat[S[k]].kind t.flat[S[k]].n = true := by
    simp only [rightN, Bool.and_eq_true] at hr
    exact hr.1.1
  have hn2 : ¬ numB t.flat[S[k]].kind t.flat[S[k]].n = false := by rw [hn]; decide
  by_cases h0 : S[k] = 0
  · have hD := (h.x0 hk).1 h0
    have hA : A = [] := List.eq_nil_of_length_eq_zero (by rw [h.len, hD]; rfl)
    rw [hA, hD, hgd, hp0 h0, addV, if_neg hn2, if_pos (show ([] : List Mk).length = 0 from rfl), if_pos rfl, mkO, hgd, if_pos h0]
    rfl
  · have hD : D ≠ [] := fun e => h0 ((h.x0 hk).2 e)
    have hAl : ¬ A.length = 0 := fun e => hD (List.eq_nil_of_length_eq_zero (by rw [← h.len, e]))
    obtain ⟨q, rfl, hq⟩ := hp1 h0
    have hql : q < D.length := (List.getElem?_eq_some_iff.1 hq).1
    obtain ⟨hpl, hpj, hpk, hpe⟩ := pk_of hw h0 hx
    obtain ⟨p', hA', -, -⟩ := h.node q _ hq
    have hkd : (A.getD q ⟨0, 0, 0, 0⟩).kind = t.flat[(pkO t S[k]).1].kind := by
      rw [List.getD_eq_getElem?_getD, hA']
      show (t.flat.getD (pkO t S[k]).1 nd0).kind = _
      rw [List.getD_eq_getElem?_getD, List.getElem?_eq_getElem hpl]
      rfl
    have hrp := (node_at hc hpl).choose_spec.choose_spec.1
    have hmost : t.flat[(pkO t S[k]).1].kids ≤ mostK t.flat[(pkO t S[k]).1].kind := by
      simp only [rightN, Bool.and_eq_true, decide_eq_true_eq] at hrp
      exact hrp.2
    rw [hz h0, hgd, addV, if_neg hn2, if_neg hAl, if_neg (by rw [h.len]; omega), if_neg, h.len, mkO, hgd, if_neg h0]
    rw [Int.toNat_natCast, hkd]
    rintro (h1 | h1)
    · omega
    · obtain ⟨m, hm⟩ := Option.isSome_iff_exists.1 h1
      obtain ⟨-, y, hy, hyp, hyk⟩ := kidAt_some A 0 q _ m hm
      rw [Nat.sub_zero] at hy
      have hml : m < D.length := by rw [← h.len]; exact (List.getElem?_eq_some_iff.1 hy).1
      obtain ⟨p2, hA2, hr0, hr1⟩ := h.node m D[m] (List.getElem?_eq_getElem hml)
      rw [hy] at hA2
      simp only [Option.some.injEq] at hA2
      subst hA2
      by_cases hm0 : D[m] = 0
      · have := hr0 hm0
        simp only [mkO] at hyp
        omega
      · obtain ⟨q2, hq2, hq3⟩ := hr1 hm0
        simp only [mkO, if_neg hm0] at hyp hyk
        have : q2 = q := by omega
        subst this
        rw [hq] at hq3
        simp only [Option.some.injEq] at hq3
        have hDm : D[m] < t.flat.length := h.lt _ (List.mem_append_left _ (List.getElem_mem hml))
        obtain ⟨-, -, -, hpe2⟩ := pk_of hw hm0 hDm
        have e2 : (pkO t D[m]).2 = (pkO t S[k]).2 := by omega
        rw [← hq3, e2, hpe] at hpe2
        exact (List.nodup_append.1 h.nd).2.2 D[m] (List.getElem_mem hml) S[k] (List.getElem_mem hk) hpe2.symm
theorem OrdS.step {t : Vt} (hw : t.wf) {D S : List Nat} {A : List Mk} (h : OrdS t D S A) {k : Nat} (hk : k < S.length) {p : Int} (hp0 : S[k] = 0 → p = -1) (hp1 : S[k] ≠ 0 → ∃ q : Nat, p = (q : Int) ∧ D[q]? = some (pkO t S[k]).1) :
    OrdS t (D ++ [S[k]]) (S.eraseIdx k ++ kidsOf t S[k]) (A ++ [mkO t S[k] p]) := by
  obtain ⟨n1, n2, n3⟩ := List.nodup_append.1 h.nd
  have hxS := List.getElem_mem hk
  have hmem := mem_erase_iff hk n2
  have hkn : ∀ j ∈ kidsOf t S[k], j ∉ D ++ S := fun j hj hm => by
    obtain ⟨j1, j2, j3⟩ := mem_kidsOf.1 hj
    have := h.up j hm (by omega)
    rw [j3] at this
    exact n3 S[k] this S[k] hxS rfl
  refine ⟨?_, ?_, ?_, ?_, ?_, by rw [List.length_append, List.length_append, h.len]; rfl, ?_⟩
  · rw [List.append_assoc, List.nodup_append]
    refine ⟨n1, ?_, ?_⟩
    · rw [List.singleton_append, List.nodup_cons]
      refine ⟨fun hm => ?_, ?_⟩
      · rcases List.mem_append.1 hm with hm | hm
        · exact ((hmem _).1 hm).2 rfl
        · exact hkn _ hm (List.mem_append_right _ hxS)
      · rw [List.nodup_append]
        refine ⟨n2.sublist (List.eraseIdx_sublist _ _), kidsOf_nodup t _, fun a ha b hb e => ?_⟩
        subst e
        exact hkn a hb (List.mem_append_right _ ((hmem a).1 ha).1)
    · intro a ha b hb e
      subst e
      simp only [List.mem_append, List.mem_singleton] at hb
      rcases hb with hb | hb | hb
      · exact n3 a ha S[k] hxS hb
      · exact n3 a ha a ((hmem a).1 hb).1 rfl
      · exact hkn a hb (List.mem_append_left _ ha)
  · intro x hx
    simp only [List.mem_append, List.mem_singleton] at hx
    rcases hx with (hx | rfl) | hx | hx
    · exact h.lt x (List.mem_append_left _ hx)
    · exact h.lt _ (List.mem_append_right _ hxS)
    · exact h.lt x (List.mem_append_right _ ((hmem x).1 hx).1)
    · exact (mem_kidsOf.1 hx).2.1
  · intro x hx h0
    simp only [List.mem_append, List.mem_singleton] at hx ⊢
    rcases hx with (hx | rfl) | hx | hx
    · exact .inl (h.up x (List.mem_append_left _ hx) h0)
    · exact .inl (h.up _ (List.mem_append_right _ hxS) h0)
    · exact .inl (h.up x (List.mem_append_right _ ((hmem x).1 hx).1) h0)
    · exact .inr (mem_kidsOf.1 hx).2.2
  · intro x hx j h1 h2 h3
    simp only [List.mem_append, List.mem_singleton] at hx ⊢
    rcases hx with hx | rfl
    · have := h.down x hx j h1 h2 h3
      rcases List.mem_append.1 this with h4 | h4
      · exact .inl (.inl h4)
      · by_cases he : j = S[k]
        · exact .inl (.inr he)
        · exact .inr (.inl ((hmem j).2 ⟨h4, he⟩))
    · exact .inr (.inr (mem_kidsOf.2 ⟨h1, h2, h3⟩))
  · right
    rcases h.root with ⟨h1, h2⟩ | h1
    · have : S[k] = 0 := (h.x0 hk).2 h1
      rw [h1, this]; rfl
    · have := (List.getElem?_eq_some_iff.1 h1).1
      rw [List.getElem?_append_left this]; exact h1
  · intro m x hm
    by_cases hl : m < D.length
    · rw [List.getElem?_append_left hl] at hm
      obtain ⟨p', h1, h2, h3⟩ := h.node m x hm
      refine ⟨p', by rw [List.getElem?_append_left (by rw [h.len]; exact hl)]; exact h1, h2, fun h0 => ?_⟩
      obtain ⟨q, e1, e2⟩ := h3 h0
      exact ⟨q, e1, by rw [List.getElem?_append_left (List.getElem?_eq_some_iff.1 e2).1]; exact e2⟩
    · have hme : m = D.length := by
        have := (List.getElem?_eq_some_iff.1 hm).1
        rw [List.length_append] at this
        simp only [List.length_cons, List.length_nil] at this
        omega
      subst hme
      rw [List.getElem?_append_right (Nat.le_refl _), Nat.sub_self] at hm
      simp only [List.getElem?_cons_zero, Option.some.injEq] at hm
      subst hm
      refine ⟨p, by rw [← h.len, List.getElem?_append_right (Nat.le_refl _), Nat.sub_self]; rfl, hp0, fun h0 => ?_⟩
      obtain ⟨q, e1, e2⟩ := hp1 h0
      exact ⟨q, e1, by rw [List.getElem?_append_left (List.getElem?_eq_some_iff.1 e2).1]; exact e2⟩
theorem OrdS.bound {t : Vt} {D S : List Nat} {A : List Mk} (h : OrdS t D S A) : D.length + S.length ≤ t.flat.length := by
  have := nodup_len t.flat.length (D ++ S) h.nd h.lt
  rwa [List.length_append] at this
theorem sub_len : ∀ (l1 l2 : List Nat), l1.Nodup → (∀ x ∈ l1, x ∈ l2) → l1.length ≤ l2.length
  | [], l2, _, _ => Nat.zero_le _
  | a :: l1, l2, h, hs => by
    have ha := hs a (List.mem_cons_self ..)
    obtain ⟨h1, h2⟩ := List.nodup_cons.1 h
    have := sub_len l1 (l2.erase a) h2 (fun x hx => (List.mem_erase_of_ne (fun e => h1 (by rw [← e]; exact hx))).2 (hs x (List.mem_cons_of_mem _ hx)))
    rw [List.length_erase_of_mem ha] at this
    have : 0 < l2.length := List.length_pos_of_mem ha
    rw [List.length_cons]
    omega
end Go.Proofs.YtgmjfcekeglhjaaDoor

set_option linter.unusedSimpArgs false
set_option linter.unusedVariables false
set_option maxRecDepth 100000
namespace Go.Proofs.YtgmjfcekeglhjaaDoor
open Go Go.Vc Go.RowKit Go.Proofs

theorem nd_inj {l : List Nat} (h : l.Nodup) {i j x : Nat} (hi : l[i]? = some x) (hj : l[j]? = some x) : i = j := by
  obtain ⟨h1, h2⟩ := List.getElem?_eq_some_iff.1 hi
  obtain ⟨h3, h4⟩ := List.getElem?_eq_some_iff.1 hj
  exact (List.getElem_inj h).1 (h2.trans h4.symm)
theorem OrdS.back {t : Vt} (hw : t.wf) {D S : List Nat} {A : List Mk} (h : OrdS t D S A) {m x : Nat} (hm : D[m]? = some x) {m' : Nat} {y : Mk} (hy : A[m']? = some y) (hp : y.par = (m : Int)) : ∃ (hx : x < t.flat.length) (k : Nat), y.k = (k : Int) ∧ (k : Int) < t.flat[x].kids ∧ D[m']? = some (kidP t.flat (x + 1) k) := by
  have hl : m' < D.length := by rw [← h.len]; exact (List.getElem?_eq_some_iff.1 hy).1
  obtain ⟨p, h1, h2, h3⟩ := h.node m' D[m'] (List.getElem?_eq_getElem hl)
  rw [hy] at h1
  simp only [Option.some.injEq] at h1
  subst h1
  have hpm : p = (m : Int) := hp
  by_cases h0 : D[m'] = 0
  · have := h2 h0; omega
  · obtain ⟨q, e1, e2⟩ := h3 h0
    have : q = m := by omega
    subst this
    rw [hm] at e2
    simp only [Option.some.injEq] at e2
    obtain ⟨g1, g2, g3, g4⟩ := pk_of hw h0 (h.lt _ (List.mem_append_left _ (List.getElem_mem hl)))
    refine ⟨by rw [e2]; exact g1, (pkO t D[m']).2, by rw [mkO, if_neg h0], by simpa [e2] using g3, ?_⟩
    rw [List.getElem?_eq_getElem hl, e2, g4]
theorem high_le : ∀ (A : List Mk) (i : Nat) (c : Int), 0 ≤ c → (∀ x ∈ A, x.par = (i : Int) → x.k + 1 ≤ c) → highN A i ≤ c
  | [], i, c, h, _ => h
  | x :: A, i, c, h0, hc => by
    have h1 := high_le A i c h0 (fun y hy => hc y (List.mem_cons_of_mem _ hy))
    rw [highN]
    split
    · have := hc x (List.mem_cons_self ..) ‹_›
      omega
    · exact h1
theorem OrdS.all {t : Vt} {D S : List Nat} {A : List Mk} (h : OrdS t D S A) (hn : D.length = t.flat.length) : ∀ j : Nat, j < t.flat.length → ∃ m : Nat, D[m]? = some j := by
  intro j hj
  have h1 := (List.nodup_append.1 h.nd).1
  by_cases hm : j ∈ D
  · obtain ⟨m, hm1, hm2⟩ := List.getElem_of_mem hm
    exact ⟨m, by rw [List.getElem?_eq_getElem hm1, hm2]⟩
  · have := nodup_len t.flat.length (j :: D) (List.nodup_cons.2 ⟨hm, h1⟩) (fun x hx => by
      rcases List.mem_cons.1 hx with rfl | hx
      · exact hj
      · exact h.lt x (List.mem_append_left _ hx))
    rw [List.length_cons] at this
    omega
section
variable {t : Vt} (hw : t.wf) {D S : List Nat} {A : List Mk} (h : OrdS t D S A) (hn : D.length = t.flat.length)
include hw h hn
theorem OrdS.kid {m x : Nat} (hm : D[m]? = some x) (hx : x < t.flat.length) {k : Nat} (hk : (k : Int) < t.flat[x].kids) : ∃ (m' : Nat), D[m']? = some (kidP t.flat (x + 1) k) ∧ 0 < m' ∧ A[m']? = some (mkO t (kidP t.flat (x + 1) k) (m : Int)) ∧ (mkO t (kidP t.flat (x + 1) k) (m : Int)).k = (k : Int) := by
  obtain ⟨k1, k2⟩ := kid_pos hw hx hk
  have k3 := pk_kid hw hx hk
  obtain ⟨m', hm'⟩ := h.all hn _ k1
  obtain ⟨p, h1, -, h2⟩ := h.node m' _ hm'
  obtain ⟨q, rfl, hq⟩ := h2 (by omega)
  rw [k3] at hq
  have := nd_inj (List.nodup_append.1 h.nd).1 hq hm
  subst this
  refine ⟨m', hm', ?_, h1, ?_⟩
  · rcases Nat.eq_zero_or_pos m' with e | e
    · exfalso
      subst e
      rcases h.root with ⟨h3, -⟩ | h3
      · rw [h3] at hm'; simp at hm'
      · rw [hm'] at h3; simp only [Option.some.injEq] at h3; omega
    · exact e
  · rw [mkO, if_neg (by omega), k3]
theorem OrdS.knum (hg : Good A) {m x : Nat} (hm : D[m]? = some x) (hx : x < t.flat.length) : (kidsN A m : Int) = t.flat[x].kids ∧ highN A m = t.flat[x].kids := by
  have hc : (chkV t.flat).1 = 0 := chk_ok.2 ⟨t, hw, rfl⟩
  have hk0 := (right_kids (node_at hc hx).choose_spec.choose_spec.1).1
  have hback : ∀ y ∈ A, y.par = (m : Int) → ∃ k : Nat, y.k = (k : Int) ∧ (k : Int) < t.flat[x].kids := fun y hy hp => by
    obtain ⟨m', hm', rfl⟩ := List.getElem_of_mem hy
    obtain ⟨hx2, k, k1, k2, -⟩ := h.back hw hm (List.getElem?_eq_getElem hm') hp
    exact ⟨k, k1, k2⟩
  have hkid : ∀ k : Nat, (k : Int) < t.flat[x].kids → ∃ y ∈ A, y.par = (m : Int) ∧ y.k = (k : Int) := fun k hk => by
    obtain ⟨m', -, -, k1, k2⟩ := h.kid hw hn hm hx hk
    exact ⟨_, List.mem_of_getElem? k1, rfl, k2⟩
  let l := (A.filter (fun y => decide (y.par = (m : Int)))).map (fun y => y.k.toNat)
  have hlen : l.length = kidsN A m := by show ((A.filter _).map _).length = _; rw [List.length_map, kidsN, List.countP_eq_length_filter]
  have hnd : l.Nodup := by
    show ((A.filter _).map _).Nodup
    rw [List.Nodup, List.pairwise_map, List.pairwise_filter, List.pairwise_iff_getElem]
    intro a b ha hb hab h1 h2 he
    simp only [decide_eq_true_eq] at h1 h2
    obtain ⟨ka, ka1, -⟩ := hback _ (List.getElem_mem ha) h1
    obtain ⟨kb, kb1, -⟩ := hback _ (List.getElem_mem hb) h2
    have := hg.one b a _ _ (List.getElem?_eq_getElem hb) (List.getElem?_eq_getElem ha) (by omega) (by rw [h1, h2]) (by omega)
    omega
  have hub : l.length ≤ t.flat[x].kids.toNat := nodup_len _ l hnd (fun z hz => by
    obtain ⟨y, hy, rfl⟩ := List.mem_map.1 hz
    obtain ⟨hyA, hyp⟩ := List.mem_filter.1 hy
    obtain ⟨k, k1, k2⟩ := hback y hyA (by simpa using hyp)
    show y.k.toNat < _
    omega)
  have hlb := sub_len (List.range t.flat[x].kids.toNat) l List.nodup_range (fun k hk => by
    obtain ⟨y, hyA, hyp, hyk⟩ := hkid k (by have := List.mem_range.1 hk; omega)
    exact List.mem_map.2 ⟨y, List.mem_filter.2 ⟨hyA, by simpa using hyp⟩, by show y.k.toNat = k; omega⟩)
  rw [List.length_range] at hlb
  refine ⟨by omega, ?_⟩
  have h1 : highN A m ≤ t.flat[x].kids := high_le A m _ hk0 (fun y hy hp => by
    obtain ⟨k, k1, k2⟩ := hback y hy hp
    omega)
  by_cases hz : t.flat[x].kids = 0
  · have := high_zero A m (fun y hy hp => by
      obtain ⟨k, k1, k2⟩ := hback y hy hp
      omega)
    rw [this.2, hz]
  · obtain ⟨y, hyA, hyp, hyk⟩ := hkid (t.flat[x].kids.toNat - 1) (by omega)
    have := high_ge A m y hyA hyp
    omega
theorem OrdS.full (hg : Good A) : fullP A := by
  have hc : (chkV t.flat).1 = 0 := chk_ok.2 ⟨t, hw, rfl⟩
  have hp := t.flat_pos
  refine ⟨by rw [h.len]; omega, fun m y hy => ?_⟩
  have hl : m < D.length := by rw [← h.len]; exact (List.getElem?_eq_some_iff.1 hy).1
  have hm := List.getElem?_eq_getElem hl
  have hx := h.lt _ (List.mem_append_left _ (List.getElem_mem hl))
  obtain ⟨h1, h2⟩ := h.knum hw hn hg hm hx
  obtain ⟨p, h3, -, -⟩ := h.node m _ hm
  rw [hy] at h3
  simp only [Option.some.injEq] at h3
  have hk : y.kind = t.flat[D[m]].kind := by
    rw [h3, mkO]
    show (t.flat.getD D[m] nd0).kind = _
    rw [List.getD_eq_getElem?_getD, List.getElem?_eq_getElem hx]
    rfl
  have hr := (node_at hc hx).choose_spec.choose_spec.1
  simp only [rightN, Bool.and_eq_true, decide_eq_true_eq] at hr
  rintro (hb | hb)
  · exact hb (by rw [h1, h2])
  · rw [h1, hk] at hb
    omega
theorem OrdS.kido (hg : Good A) {m x : Nat} (hm : D[m]? = some x) (hx : x < t.flat.length) {k : Nat} (hk : (k : Int) < t.flat[x].kids) : D[kidO A m k]? = some (kidP t.flat (x + 1) k) := by
  obtain ⟨m', h1, h2, h3, h4⟩ := h.kid hw hn hm hx hk
  have hf := h.full hw hn hg
  have hml : m < A.length := by rw [h.len]; exact (List.getElem?_eq_some_iff.1 hm).1
  have hkn := (h.knum hw hn hg hm hx).1
  obtain ⟨y, -, g1, g2, g3, -⟩ := kidO_spec hg (hf.kids hml) (k := k) (by omega)
  have := hg.one m' (kidO A m k) _ y h3 g1 h2 (by rw [g2]; rfl) (by rw [g3]; exact h4)
  rw [← this]
  exact h1
mutual
theorem told_tree (hg : Good A) : ∀ (s : Vt) (x m : Nat) (post : List Nd), s.wf → D[m]? = some x → t.flat.drop x = s.flat ++ post → told A A.length m = s.flat
  | .node y ks, x, m, post, hsw, hm, hd => by
    have hx : x < t.flat.length := h.lt x (List.mem_append_left _ (List.mem_of_getElem? hm))
    have hml : m < A.length := by rw [h.len]; exact (List.getElem?_eq_some_iff.1 hm).1
    have hf := h.full hw hn hg
    have h8 : t.flat.drop x = t.flat[x] :: t.flat.drop (x + 1) := (List.getElem_cons_drop hx).symm
    rw [h8, Vt.flat, List.cons_append, List.cons.injEq] at hd
    have hkn := (h.knum hw hn hg hm hx).1
    rw [hd.1] at hkn
    obtain ⟨p, h3, -, -⟩ := h.node m _ hm
    have hgd : t.flat.getD x nd0 = y := by rw [List.getD_eq_getElem?_getD, List.getElem?_eq_getElem hx, ← hd.1]; rfl
    have hlen : (ks.len : Int) = y.kids := hsw.2.1
    have hks := told_trees hg ks x m 0 post hsw.2.2 hm (by rw [hgd]; omega) hd.2
    rw [told_step hg hf hml, Vt.flat]
    congr 1
    · rw [List.getD_eq_getElem?_getD, h3]
      show (⟨(t.flat.getD x nd0).kind, (t.flat.getD x nd0).n, _⟩ : Nd) = y
      rw [hgd, hkn]
    · rw [kidL, show kidsN A m = ks.len by omega, List.flatMap_map, List.range_eq_range']
      exact hks
theorem told_trees (hg : Good A) : ∀ (ts : Vts) (x m k : Nat) (post : List Nd), ts.wf → D[m]? = some x → ((ts.len + k : Nat) : Int) = (t.flat.getD x nd0).kids → t.flat.drop (kidP t.flat (x + 1) k) = ts.flat ++ post → (List.range' k ts.len).flatMap (fun k => told A A.length (kidO A m k)) = ts.flat
  | .nil, x, m, k, post, _, _, _, _ => rfl
  | .cons s ts, x, m, k, post, hsw, hm, hk, hd => by
    have hx : x < t.flat.length := h.lt x (List.mem_append_left _ (List.mem_of_getElem? hm))
    have hgd : t.flat.getD x nd0 = t.flat[x] := by rw [List.getD_eq_getElem?_getD, List.getElem?_eq_getElem hx]; rfl
    have hkk : (k : Int) < t.flat[x].kids := by rw [← hgd]; simp only [Vts.len] at hk; omega
    have hD := h.kido hw hn hg hm hx hkk
    have h1 := told_tree hg s _ _ (ts.flat ++ post) hsw.1 hD (by rw [hd, Vts.flat, List.append_assoc])
    have hnx : nextV t.flat (kidP t.flat (x + 1) k) = kidP t.flat (x + 1) k + s.flat.length := next_tree (post := ts.flat ++ post) (by rw [hd, Vts.flat, List.append_assoc]) hsw.1
    have h2 := told_trees hg ts x m (k + 1) post hsw.2 hm (by rw [← hk, Vts.len]; congr 1; omega) (by
      show t.flat.drop (nextV t.flat (kidP t.flat (x + 1) k)) = _
      rw [hnx, ← List.drop_drop, hd, Vts.flat, List.append_assoc, List.drop_left' rfl])
    rw [Vts.len, List.range'_succ, List.flatMap_cons, h1, h2, Vts.flat]
end
theorem OrdS.value (hg : Good A) : told A A.length 0 = t.flat := by
  refine told_tree hw h hn hg t 0 0 [] hw ?_ (by simp)
  rcases h.root with ⟨h1, -⟩ | h1
  · have := t.flat_pos
    rw [h1] at hn
    simp at hn
    omega
  · exact h1
end

end Go.Proofs.YtgmjfcekeglhjaaDoor

set_option linter.unusedSimpArgs false
set_option linter.unusedVariables false
set_option maxRecDepth 100000
namespace Go.Proofs.YtgmjfcekeglhjaaDoor
open Go Go.Vc Go.RowKit Go.Proofs
/-- what the loops have written -/
def Wr (t : Vt) (PA KA : List Nat) (i k : Nat) : Prop := PA.length = t.flat.length ∧ KA.length = t.flat.length ∧ ∀ (i' k' : Nat), (i' < i ∨ i' = i ∧ k' < k) → ∀ h : i' < t.flat.length, (k' : Int) < t.flat[i'].kids → PA[kidP t.flat (i' + 1) k']? = some i' ∧ KA[kidP t.flat (i' + 1) k']? = some k'
theorem Wr.put {t : Vt} (hw : t.wf) {PA KA : List Nat} {i k : Nat} (h : Wr t PA KA i k) (hi : i < t.flat.length) (hk : (k : Int) < t.flat[i].kids) : Wr t (PA.set (kidP t.flat (i + 1) k) i) (KA.set (kidP t.flat (i + 1) k) k) i (k + 1) := by
  obtain ⟨h1, h2, h3⟩ := h
  refine ⟨by rw [List.length_set, h1], by rw [List.length_set, h2], fun i' k' hlt hi' hk' => ?_⟩
  have hj := (kid_pos hw hi hk).1
  have e1 := pk_kid hw hi hk
  have e2 := pk_kid hw hi' hk'
  by_cases he : kidP t.flat (i' + 1) k' = kidP t.flat (i + 1) k
  · rw [he, e1] at e2
    simp only [Prod.mk.injEq] at e2
    rw [he, List.getElem?_set_self (by rw [h1]; exact hj), List.getElem?_set_self (by rw [h2]; exact hj), e2.1, e2.2]
    exact ⟨rfl, rfl⟩
  · rw [List.getElem?_set_ne (fun e => he e.symm), List.getElem?_set_ne (fun e => he e.symm)]
    refine h3 i' k' ?_ hi' hk'
    rcases hlt with hlt | ⟨rfl, hlt⟩
    · exact .inl hlt
    · refine .inr ⟨rfl, ?_⟩
      rcases Nat.lt_or_ge k' k with h4 | h4
      · exact h4
      · exact absurd (by rw [show k' = k by omega]) he
theorem Wr.next {t : Vt} {PA KA : List Nat} {i k : Nat} (h : Wr t PA KA i k) (hi : i < t.flat.length) (hk : ¬ (k : Int) < t.flat[i].kids) : Wr t PA KA (i + 1) 0 :=
  ⟨h.1, h.2.1, fun i' k' hlt hi' hk' => h.2.2 i' k' (by
    rcases hlt with hlt | ⟨rfl, hlt⟩
    · by_cases he : i' = i
      · subst he
        exact .inr ⟨rfl, by omega⟩
      · exact .inl (by omega)
    · omega) hi' hk'⟩
theorem Wr.get {t : Vt} (hw : t.wf) {PA KA : List Nat} (h : Wr t PA KA t.flat.length 0) {j : Nat} (h0 : j ≠ 0) (hj : j < t.flat.length) : PA[j]? = some (pkO t j).1 ∧ KA[j]? = some (pkO t j).2 := by
  obtain ⟨h1, h2, h3, h4⟩ := pk_of hw h0 hj
  have := h.2.2 _ _ (.inl h1) h1 h3
  rwa [h4] at this
end Go.Proofs.YtgmjfcekeglhjaaDoor

set_option linter.unusedSimpArgs false
set_option linter.unusedVariables false
set_option maxRecDepth 100000
namespace Go.Proofs.YtgmjfcekeglhjaaDoor
open Go Go.Vc Go.RowKit Go.Proofs

def vals (V : Nat → Value) (n : Nat) : List Value := (List.range n).map V
theorem vals_snoc (V : Nat → Value) (n : Nat) (v : Value) : vals (fun j => if j = n then v else V j) (n + 1) = vals V n ++ [v] := by
  rw [vals, List.range_succ, List.map_append, List.map_singleton, if_pos rfl]
  congr 1
  exact List.map_congr_left (fun j hj => if_neg (by have := List.mem_range.1 hj; omega))
theorem vals_at {V : Nat → Value} {n j : Nat} (h : j < n) : (vals V n)[j]? = some (V j) := by simp [vals, h]
def mkN (k : Nat) : Nd := ⟨1000 + (k : Int), 0, 0⟩
def ItN (w : World) (v : Value) (k : Nat) : Prop := ∃ m, m ≤ 3000000 ∧ w.ownsRow 0 69 3 v m (nds (List.replicate m (mkN k)))
def ItI (w : World) (v : Value) (k : Nat) : Prop := ∃ m, m ≤ 3000000 ∧ w.ownsRow 0 3 1 v m (List.replicate m (.int .i64 (-1 - (k : Int))))
theorem ItN.only {w w' : World} {F : Nat → Prop} {v : Value} {k : Nat} (h : ItN w v k) (ho : Only F w w') (hn : ∀ j, v.ownBlock = some j → ¬ F j) : ItN w' v k := by obtain ⟨m, hm, h⟩ := h; exact ⟨m, hm, own_only h ho hn⟩
theorem ItI.only {w w' : World} {F : Nat → Prop} {v : Value} {k : Nat} (h : ItI w v k) (ho : Only F w w') (hn : ∀ j, v.ownBlock = some j → ¬ F j) : ItI w' v k := by obtain ⟨m, hm, h⟩ := h; exact ⟨m, hm, own_only h ho hn⟩
theorem ItN.lt {w : World} {v : Value} {k : Nat} (h : ItN w v k) : ∀ j, v.ownBlock = some j → j < w.heap.size := by obtain ⟨m, -, h⟩ := h; exact fun j hj => (h.lt j hj).2
theorem ItI.lt {w : World} {v : Value} {k : Nat} (h : ItI w v k) : ∀ j, v.ownBlock = some j → j < w.heap.size := by obtain ⟨m, -, h⟩ := h; exact fun j hj => (h.lt j hj).2
structure Bk (w : World) (bp : Nat) (a b c d : Value) (nl np : Nat) (VA VB VC VD : Nat → Value) : Prop where
  cell : w.heap[bp]? = some (.cells #[a, b, c, d] 28 (0, 0))
  ra : w.ownsRow 0 30 1 a nl (vals VA nl)
  rb : w.ownsRow 0 30 1 b nl (vals VB nl)
  rc : w.ownsRow 0 75 1 c np (vals VC np)
  rd : w.ownsRow 0 75 1 d np (vals VD np)
  ab : ∀ k, a.ownBlock = some k → ¬ b.ownBlock = some k
  cd : ∀ k, c.ownBlock = some k → ¬ d.ownBlock = some k
  la : ∀ j, j < nl → ItN w (VA j) j
  lb : ∀ j, j < nl → ItN w (VB j) j
  lc : ∀ j, j < np → ItI w (VC j) j
  ld : ∀ j, j < np → ItI w (VD j) j
/-- the book's blocks -/
def BF (bp : Nat) (a b c d : Value) (nl np : Nat) (VA VB VC VD : Nat → Value) (k : Nat) : Prop :=
  k = bp ∨ a.ownBlock = some k ∨ b.ownBlock = some k ∨ c.ownBlock = some k ∨ d.ownBlock = some k ∨ (∃ j, j < nl ∧ ((VA j).ownBlock = some k ∨ (VB j).ownBlock = some k)) ∨ ∃ j, j < np ∧ ((VC j).ownBlock = some k ∨ (VD j).ownBlock = some k)
section
variable {w w' : World} {F : Nat → Prop} {bp : Nat} {a b c d : Value} {nl np : Nat} {VA VB VC VD : Nat → Value}
theorem Bk.only (h : Bk w bp a b c d nl np VA VB VC VD) (ho : Only F w w') (hn : ∀ k, BF bp a b c d nl np VA VB VC VD k → ¬ F k) : Bk w' bp a b c d nl np VA VB VC VD :=
  ⟨ho.blk h.cell (hn bp (.inl rfl)), own_only h.ra ho (fun k hk => hn k (.inr (.inl hk))), own_only h.rb ho (fun k hk => hn k (.inr (.inr (.inl hk)))), own_only h.rc ho (fun k hk => hn k (.inr (.inr (.inr (.inl hk))))), own_only h.rd ho (fun k hk => hn k (.inr (.inr (.inr (.inr (.inl hk)))))), h.ab, h.cd,
    fun j hj => (h.la j hj).only ho (fun k hk => hn k (.inr (.inr (.inr (.inr (.inr (.inl ⟨j, hj, .inl hk⟩))))))), fun j hj => (h.lb j hj).only ho (fun k hk => hn k (.inr (.inr (.inr (.inr (.inr (.inl ⟨j, hj, .inr hk⟩))))))),
    fun j hj => (h.lc j hj).only ho (fun k hk => hn k (.inr (.inr (.inr (.inr (.inr (.inr ⟨j, hj, .inl hk⟩))))))), fun j hj => (h.ld j hj).only ho (fun k hk => hn k (.inr (.inr (.inr (.inr (.inr (.inr ⟨j, hj, .inr hk⟩)))))))⟩
theorem Bk.ext (h : Bk w bp a b c d nl np VA VB VC VD) (ho : Ext w w') : Bk w' bp a b c d nl np VA VB VC VD := h.only ho (fun _ _ h => h)
theorem Bk.lt (h : Bk w bp a b c d nl np VA VB VC VD) : ∀ k, BF bp a b c d nl np VA VB VC VD k → k < w.heap.size := fun k hk => by
  rcases hk with rfl | hk | hk | hk | hk | ⟨j, hj, hk | hk⟩ | ⟨j, hj, hk | hk⟩
  · exact (Array.getElem?_eq_some_iff.1 h.cell).1
  · exact (h.ra.lt k hk).2
  · exact (h.rb.lt k hk).2
  · exact (h.rc.lt k hk).2
  · exact (h.rd.lt k hk).2
  · exact (h.la j hj).lt k hk
  · exact (h.lb j hj).lt k hk
  · exact (h.lc j hj).lt k hk
  · exact (h.ld j hj).lt k hk
/-- what is of another type lies apart -/
theorem Bk.off (h : Bk w bp a b c d nl np VA VB VC VD) {k : Nat} {cs : Array Value} {T : TypeId} {fr : Nat × Nat} (hk : w.heap[k]? = some (.cells cs T fr)) (h1 : 28 ≠ T) (h2 : 30 ≠ T) (h3 : 75 ≠ T) (h4 : 69 ≠ T) (h5 : 3 ≠ T) : ¬ BF bp a b c d nl np VA VB VC VD k := fun hF => by
  rcases hF with rfl | hF | hF | hF | hF | ⟨j, hj, hF | hF⟩ | ⟨j, hj, hF | hF⟩
  · have := h.cell; rw [hk] at this; cases this; exact h1 rfl
  · exact own_off h.ra hk h2 hF
  · exact own_off h.rb hk h2 hF
  · exact own_off h.rc hk h3 hF
  · exact own_off h.rd hk h3 hF
  · obtain ⟨m, -, hr⟩ := h.la j hj; exact own_off hr hk h4 hF
  · obtain ⟨m, -, hr⟩ := h.lb j hj; exact own_off hr hk h4 hF
  · obtain ⟨m, -, hr⟩ := h.lc j hj; exact own_off hr hk h5 hF
  · obtain ⟨m, -, hr⟩ := h.ld j hj; exact own_off hr hk h5 hF
end
theorem nds_rep_at {k m i : Nat} (h : i < m) : (nds (List.replicate m (mkN k)))[i * 3 + 0]? = some (.int .i64 (1000 + (k : Int))) := by
  have := nds_at (L := List.replicate m (mkN k)) (p := i) (c := 0) (by simpa using h) (by decide)
  rw [this, List.getElem_replicate]
  rfl
theorem nds_mark {L : List Nd} {k q : Nat} (h : k < L.length) : (nds (List.replicate k (mkN q) ++ L.drop k)).take (k * 3) ++ (ndV (mkN q)) ++ (nds (List.replicate k (mkN q) ++ L.drop k)).drop (k * 3 + 3) = nds (List.replicate (k + 1) (mkN q) ++ L.drop (k + 1)) := by
  rw [← List.getElem_cons_drop h]
  have e1 : nds (List.replicate k (mkN q) ++ L[k] :: L.drop (k + 1)) = nds (List.replicate k (mkN q)) ++ (ndV L[k] ++ nds (L.drop (k + 1))) := by rw [nds, nds, nds, List.flatMap_append, List.flatMap_cons]
  have e2 : nds (List.replicate (k + 1) (mkN q) ++ L.drop (k + 1)) = nds (List.replicate k (mkN q)) ++ (ndV (mkN q) ++ nds (L.drop (k + 1))) := by rw [List.replicate_succ']; simp [nds]
  have hl : (nds (List.replicate k (mkN q))).length = k * 3 := by rw [nds_len, List.length_replicate]
  rw [e1, e2, List.take_left' hl, show k * 3 + 3 = (nds (List.replicate k (mkN q))).length + 3 by rw [hl], List.drop_append, List.drop_eq_nil_of_le (by omega), List.nil_append, Nat.add_sub_cancel_left, List.drop_left' (by rfl), List.append_assoc]

theorem rep_at {u : Value} {n i : Nat} (h : i < n) : (List.replicate n u)[i]? = some u := by simp [h]
theorem own_len {w w' : World} {base base' : Nat} {el el' : TypeId} {s s' n m : Nat} {v : Value} {xs ys : List Value} (h : w.ownsRow base el s v n xs) (h' : w'.ownsRow base' el' s' v m ys) : n = m := by
  obtain ⟨a, c, h1, -⟩ := own_form h
  obtain ⟨a', c', h2, -⟩ := own_form h'
  rw [h1] at h2
  cases h2
  rfl

set_option maxHeartbeats 8000000 in
theorem holds_spec (bp : Nat) (a b c d : Value) (nl np : Nat) (VA VB VC VD : Nat → Value) (w0 : World) (h : Bk w0 bp a b c d nl np VA VB VC VD) (hnl : nl ≤ 1000000) (hnp : np ≤ 1000000) : Ca Tryd.prog 11 #[.pointer (some ⟨bp, 0, none⟩)] w0 (fun v w' => v = .bool true ∧ Ext w0 w') := by
  refine Ca.of Tryd.func11 Tryd.ntmps11 rfl rfl ?_
  refine W.seq ?_
  refine W.region ?_
  refine WL.c rfl (o_ash (show _ = Value.bool _ from rfl) ?_)
  refine WL.nil ?_
  refine W.seq ?_
  refine W.seq ?_
  refine W.region ?_
  refine WL.c rfl (o_ash (show _ = Value.int _ _ from rfl) ?_)
  refine WL.nil ?_
  refine W.block ?_
  refine W.loop (fun e w => ∃ k : Nat, k ≤ nl ∧ e 0 = .pointer (some ⟨bp, 0, none⟩) ∧ e 3 = .int .i64 (k : Int) ∧ Ext w0 w) (fun e w => nl - (intOf (e 3)).toNat) ?_ ?_
  · exact ⟨0, Nat.zero_le _, rfl, rfl, Only.refl _ _⟩
  rintro e w ⟨k, hk, h0, h3, hx⟩
  have hm3 := h3
  have hB := h.ext hx
  refine W.seq ?_
  refine W.seq ?_
  refine W.region ?_
  refine WL.c rfl (o_mvh h3 ?_)
  refine WL.c rfl (o_mvh h0 ?_)
  refine WL.c rfl (o_nil rfl ?_)
  refine WL.c rfl (o_fa 0 TI28 rfl TI25 rfl rfl ?_)
  refine WL.c rfl (o_ld TI25 rfl rfl (cell_of hB.cell rfl) ?_)
  refine WL.c rfl (o_lenR TI25 rfl (Sl.own hB.ra) ?_)
  refine WL.c rfl (o_lt rfl rfl ?_)
  refine WL.nil ?_
  refine W.cond rfl (fun c13 => ?_) (fun c13 => ?_)
  · try simp only [decide_eq_true_eq, decide_eq_false_iff_not, Bool.not_eq_true', Bool.not_eq_false', Bool.and_eq_true, Bool.or_eq_true, Bool.and_eq_false_iff, Bool.or_eq_false_iff] at c13
    refine W.skip ?_
    refine W.seq ?_
    refine W.block ?_
    refine W.seq ?_
    have hk1 : k < nl := by omega
    obtain ⟨ma, hma, hra⟩ := hB.la k hk1
    obtain ⟨m, hm, hrb⟩ := hB.lb k hk1
    obtain ⟨ag, ac, hae, hag⟩ := own_some hB.ra (by omega)
    obtain ⟨bg, bc, hbe, hbg⟩ := own_some hB.rb (by omega)
    refine W.region ?_
    refine WL.c rfl (o_ash (show _ = Value.int _ _ from rfl) ?_)
    refine WL.nil ?_
    refine W.block ?_
    refine W.loop (fun e w => ∃ i : Nat, i ≤ m ∧ e 0 = .pointer (some ⟨bp, 0, none⟩) ∧ e 3 = .int .i64 (k : Int) ∧ e 4 = .int .i64 (i : Int) ∧ Ext w0 w) (fun e w => m - (intOf (e 4)).toNat) ?_ ?_
    · exact ⟨0, Nat.zero_le _, h0, h3, rfl, hx⟩
    rintro e w ⟨i, hi, h0, h3, h4, hx2⟩
    have hm4 := h4
    have hB := h.ext hx2
    have hcell := hB.cell
    rw [hae, hbe] at hcell
    have hA1 := hB.ra
    have hB1 := hB.rb
    rw [hae] at hA1
    rw [hbe] at hB1
    obtain ⟨ma, hma, hra⟩ := hB.la k hk1
    obtain ⟨m2, hm2, hrb2⟩ := hB.lb k hk1
    obtain rfl : m2 = m := own_len hrb2 hrb
    refine W.seq ?_
    refine W.seq ?_
    refine W.region ?_
    refine WL.c rfl (o_mvh h4 ?_)
    refine WL.c rfl (o_mvh h0 ?_)
    refine WL.c rfl (o_nil rfl ?_)
    refine WL.c rfl (o_fa 1 TI28 rfl TI25 rfl rfl ?_)
    refine WL.c rfl (o_ld TI25 rfl rfl (cell_of hcell rfl) ?_)
    refine WL.c rfl (o_mvh h3 ?_)
    refine WL.c rfl (o_ixB (i := k) TI25 TI30 (show _ = Value.slice (some ⟨bg, 0, none⟩) nl bc from by first | rfl | assumption) (show _ = Value.int .i64 (k : Int) from by first | rfl | assumption) (by omega) ?_)
    refine WL.c rfl (o_ld TI30 rfl rfl (own_cell (j := 0 + k * 1) hB1 (by rw [Nat.zero_add, Nat.mul_one]; exact vals_at hk1)) ?_)
    refine WL.c rfl (o_lenR TI30 rfl (Sl.own hrb2) ?_)
    refine WL.c rfl (o_lt rfl rfl ?_)
    refine WL.nil ?_
    refine W.cond rfl (fun c25 => ?_) (fun c25 => ?_)
    · try simp only [decide_eq_true_eq, decide_eq_false_iff_not, Bool.not_eq_true', Bool.not_eq_false', Bool.and_eq_true, Bool.or_eq_true, Bool.and_eq_false_iff, Bool.or_eq_false_iff] at c25
      refine W.skip ?_
      refine W.seq ?_
      refine W.block ?_
      refine W.seq ?_
      have hi1 : i < m2 := by omega
      obtain ⟨vbg, vbc, hvbe, -⟩ := own_some hrb2 (by omega)
      rw [hvbe] at hrb2
      rcases Nat.lt_or_ge i ma with hi2 | hi2
      · skip
        obtain ⟨vag, vac, hvae, -⟩ := own_some hra (by omega)
        rw [hvae] at hra
        refine W.region ?_
        refine WL.c rfl (o_mvh h0 ?_)
        refine WL.c rfl (o_nil rfl ?_)
        refine WL.c rfl (o_fa 1 TI28 rfl TI25 rfl rfl ?_)
        refine WL.c rfl (o_ld TI25 rfl rfl (cell_of hcell rfl) ?_)
        refine WL.c rfl (o_mvh h3 ?_)
        refine WL.c rfl (o_ixB (i := k) TI25 TI30 (show _ = Value.slice (some ⟨bg, 0, none⟩) nl bc from by first | rfl | assumption) (show _ = Value.int .i64 (k : Int) from by first | rfl | assumption) (by omega) ?_)
        refine WL.c rfl (o_ld TI30 rfl rfl (own_cell (j := 0 + k * 1) hB1 (by rw [Nat.zero_add, Nat.mul_one]; exact vals_at hk1)) ?_)
        refine WL.c rfl (o_mvh h4 ?_)
        refine WL.c rfl (o_ixB (i := i) TI30 TI69 (show _ = Value.slice (some ⟨vbg, 0, none⟩) m2 vbc from hvbe) (show _ = Value.int .i64 (i : Int) from by first | rfl | assumption) (by omega) ?_)
        refine WL.c rfl (o_fa 0 TI69 rfl TI3 rfl rfl ?_)
        refine WL.c rfl (o_ld TI3 rfl rfl (own_cell (j := 0 + i * 3 + 0) hrb2 (by rw [Nat.zero_add]; exact nds_rep_at hi1)) ?_)
        refine WL.c rfl (o_mvh h3 ?_)
        refine WL.c rfl (o_addi rfl rfl (by omega) ?_)
        refine WL.c rfl (o_ne rfl rfl ?_)
        refine WL.c rfl (o_mvh (show _ = Value.bool _ from rfl) ?_)
        refine WL.g rfl (by simp) rfl (o_mvh h4 ?_)
        refine WL.g rfl (by simp) rfl (o_mvh h0 ?_)
        refine WL.g rfl (by simp) rfl (o_nil rfl ?_)
        refine WL.g rfl (by simp) rfl (o_fa 0 TI28 rfl TI25 rfl rfl ?_)
        refine WL.g rfl (by simp) rfl (o_ld TI25 rfl rfl (cell_of hcell rfl) ?_)
        refine WL.g rfl (by simp) rfl (o_mvh h3 ?_)
        refine WL.g rfl (by simp) rfl (o_ixB (i := k) TI25 TI30 (show _ = Value.slice (some ⟨ag, 0, none⟩) nl ac from by first | rfl | assumption) (show _ = Value.int .i64 (k : Int) from by first | rfl | assumption) (by omega) ?_)
        refine WL.g rfl (by simp) rfl (o_ld TI30 rfl rfl (own_cell (j := 0 + k * 1) hA1 (by rw [Nat.zero_add, Nat.mul_one]; exact vals_at hk1)) ?_)
        refine WL.g rfl (by simp) rfl (o_lenR TI30 rfl (Sl.own (hvae ▸ hra)) ?_)
        refine WL.g rfl (by simp) rfl (o_lt rfl rfl ?_)
        refine WL.g rfl (by simp) rfl (o_mvh (show _ = Value.bool _ from rfl) ?_)
        refine WL.g rfl (by simp; omega) rfl (o_mvh h0 ?_)
        refine WL.g rfl (by simp; omega) rfl (o_nil rfl ?_)
        refine WL.g rfl (by simp; omega) rfl (o_fa 0 TI28 rfl TI25 rfl rfl ?_)
        refine WL.g rfl (by simp; omega) rfl (o_ld TI25 rfl rfl (cell_of hcell rfl) ?_)
        refine WL.g rfl (by simp; omega) rfl (o_mvh h3 ?_)
        refine WL.g rfl (by simp; omega) rfl (o_ixB (i := k) TI25 TI30 (show _ = Value.slice (some ⟨ag, 0, none⟩) nl ac from by first | rfl | assumption) (show _ = Value.int .i64 (k : Int) from by first | rfl | assumption) (by omega) ?_)
        refine WL.g rfl (by simp; omega) rfl (o_ld TI30 rfl rfl (own_cell (j := 0 + k * 1) hA1 (by rw [Nat.zero_add, Nat.mul_one]; exact vals_at hk1)) ?_)
        refine WL.g rfl (by simp; omega) rfl (o_mvh h4 ?_)
        refine WL.g rfl (by simp; omega) rfl (o_ixB (i := i) TI30 TI69 (show _ = Value.slice (some ⟨vag, 0, none⟩) ma vac from hvae) (show _ = Value.int .i64 (i : Int) from by first | rfl | assumption) (by omega) ?_)
        refine WL.g rfl (by simp; omega) rfl (o_fa 0 TI69 rfl TI3 rfl rfl ?_)
        refine WL.g rfl (by simp; omega) rfl (o_ld TI3 rfl rfl (own_cell (j := 0 + i * 3 + 0) hra (by rw [Nat.zero_add]; exact nds_rep_at hi2)) ?_)
        refine WL.g rfl (by simp; omega) rfl (o_mvh h3 ?_)
        refine WL.g rfl (by simp; omega) rfl (o_addi rfl rfl (by omega) ?_)
        refine WL.g rfl (by simp; omega) rfl (o_ne rfl rfl ?_)
        refine WL.g rfl (by simp) rfl (o_pickA rfl rfl ?_)
        refine WL.c rfl (o_pickO rfl rfl ?_)
        refine WL.nil ?_
        refine W.condF' rfl (by simp) ?_
        refine W.skip ?_
        refine W.region ?_
        refine WL.c rfl (o_mvh h4 ?_)
        refine WL.c rfl (o_addi rfl rfl (by omega) ?_)
        refine WL.c rfl (o_ash (show _ = Value.int _ _ from rfl) ?_)
        refine WL.nil ?_
        refine ⟨⟨i + 1, by omega, h0, h3, rfl, hx2⟩, ?_⟩
        show m2 - ((i : Int) + 1).toNat < _
        rw [hm4]; simp only [intOf]; omega
      · skip
        refine W.region ?_
        refine WL.c rfl (o_mvh h0 ?_)
        refine WL.c rfl (o_nil rfl ?_)
        refine WL.c rfl (o_fa 1 TI28 rfl TI25 rfl rfl ?_)
        refine WL.c rfl (o_ld TI25 rfl rfl (cell_of hcell rfl) ?_)
        refine WL.c rfl (o_mvh h3 ?_)
        refine WL.c rfl (o_ixB (i := k) TI25 TI30 (show _ = Value.slice (some ⟨bg, 0, none⟩) nl bc from by first | rfl | assumption) (show _ = Value.int .i64 (k : Int) from by first | rfl | assumption) (by omega) ?_)
        refine WL.c rfl (o_ld TI30 rfl rfl (own_cell (j := 0 + k * 1) hB1 (by rw [Nat.zero_add, Nat.mul_one]; exact vals_at hk1)) ?_)
        refine WL.c rfl (o_mvh h4 ?_)
        refine WL.c rfl (o_ixB (i := i) TI30 TI69 (show _ = Value.slice (some ⟨vbg, 0, none⟩) m2 vbc from hvbe) (show _ = Value.int .i64 (i : Int) from by first | rfl | assumption) (by omega) ?_)
        refine WL.c rfl (o_fa 0 TI69 rfl TI3 rfl rfl ?_)
        refine WL.c rfl (o_ld TI3 rfl rfl (own_cell (j := 0 + i * 3 + 0) hrb2 (by rw [Nat.zero_add]; exact nds_rep_at hi1)) ?_)
        refine WL.c rfl (o_mvh h3 ?_)
        refine WL.c rfl (o_addi rfl rfl (by omega) ?_)
        refine WL.c rfl (o_ne rfl rfl ?_)
        refine WL.c rfl (o_mvh (show _ = Value.bool _ from rfl) ?_)
        refine WL.g rfl (by simp) rfl (o_mvh h4 ?_)
        refine WL.g rfl (by simp) rfl (o_mvh h0 ?_)
        refine WL.g rfl (by simp) rfl (o_nil rfl ?_)
        refine WL.g rfl (by simp) rfl (o_fa 0 TI28 rfl TI25 rfl rfl ?_)
        refine WL.g rfl (by simp) rfl (o_ld TI25 rfl rfl (cell_of hcell rfl) ?_)
        refine WL.g rfl (by simp) rfl (o_mvh h3 ?_)
        refine WL.g rfl (by simp) rfl (o_ixB (i := k) TI25 TI30 (show _ = Value.slice (some ⟨ag, 0, none⟩) nl ac from by first | rfl | assumption) (show _ = Value.int .i64 (k : Int) from by first | rfl | assumption) (by omega) ?_)
        refine WL.g rfl (by simp) rfl (o_ld TI30 rfl rfl (own_cell (j := 0 + k * 1) hA1 (by rw [Nat.zero_add, Nat.mul_one]; exact vals_at hk1)) ?_)
        refine WL.g rfl (by simp) rfl (o_lenR TI30 rfl (Sl.own hra) ?_)
        refine WL.g rfl (by simp) rfl (o_lt rfl rfl ?_)
        refine WL.g rfl (by simp) rfl (o_mvh (show _ = Value.bool _ from rfl) ?_)
        refine WL.s rfl (by simp; omega) rfl ?_
        refine WL.s rfl (by simp; omega) rfl ?_
        refine WL.s rfl (by simp; omega) rfl ?_
        refine WL.s rfl (by simp; omega) rfl ?_
        refine WL.s rfl (by simp; omega) rfl ?_
        refine WL.s rfl (by simp; omega) rfl ?_
        refine WL.s rfl (by simp; omega) rfl ?_
        refine WL.s rfl (by simp; omega) rfl ?_
        refine WL.s rfl (by simp; omega) rfl ?_
        refine WL.s rfl (by simp; omega) rfl ?_
        refine WL.s rfl (by simp; omega) rfl ?_
        refine WL.s rfl (by simp; omega) rfl ?_
        refine WL.s rfl (by simp; omega) rfl ?_
        refine WL.s rfl (by simp; omega) rfl ?_
        refine WL.g rfl (by simp) rfl (o_pickF rfl (by simp; omega) ?_)
        refine WL.c rfl (o_pickO rfl rfl ?_)
        refine WL.nil ?_
        refine W.condF' rfl (by simp) ?_
        refine W.skip ?_
        refine W.region ?_
        refine WL.c rfl (o_mvh h4 ?_)
        refine WL.c rfl (o_addi rfl rfl (by omega) ?_)
        refine WL.c rfl (o_ash (show _ = Value.int _ _ from rfl) ?_)
        refine WL.nil ?_
        refine ⟨⟨i + 1, by omega, h0, h3, rfl, hx2⟩, ?_⟩
        show m2 - ((i : Int) + 1).toNat < _
        rw [hm4]; simp only [intOf]; omega
    · try simp only [decide_eq_true_eq, decide_eq_false_iff_not, Bool.not_eq_true', Bool.not_eq_false', Bool.and_eq_true, Bool.or_eq_true, Bool.and_eq_false_iff, Bool.or_eq_false_iff] at c25
      refine W.exit ?_
      refine W.region ?_
      refine WL.c rfl (o_mvh h3 ?_)
      refine WL.c rfl (o_addi rfl rfl (by omega) ?_)
      refine WL.c rfl (o_ash (show _ = Value.int _ _ from rfl) ?_)
      refine WL.nil ?_
      refine ⟨⟨k + 1, by omega, h0, rfl, hx2⟩, ?_⟩
      show nl - ((k : Int) + 1).toNat < _
      rw [hm3]; simp only [intOf]; omega
  · try simp only [decide_eq_true_eq, decide_eq_false_iff_not, Bool.not_eq_true', Bool.not_eq_false', Bool.and_eq_true, Bool.or_eq_true, Bool.and_eq_false_iff, Bool.or_eq_false_iff] at c13
    refine W.exit ?_
    refine W.seq ?_
    refine W.seq ?_
    refine W.region ?_
    refine WL.c rfl (o_ash (show _ = Value.int _ _ from rfl) ?_)
    refine WL.nil ?_
    refine W.block ?_
    refine W.loop (fun e w => ∃ k : Nat, k ≤ np ∧ e 0 = .pointer (some ⟨bp, 0, none⟩) ∧ e 5 = .int .i64 (k : Int) ∧ Ext w0 w) (fun e w => np - (intOf (e 5)).toNat) ?_ ?_
    · exact ⟨0, Nat.zero_le _, h0, rfl, hx⟩
    rintro e w ⟨k, hk, h0, h5, hx⟩
    have hm5 := h5
    have hB := h.ext hx
    refine W.seq ?_
    refine W.seq ?_
    refine W.region ?_
    refine WL.c rfl (o_mvh h5 ?_)
    refine WL.c rfl (o_mvh h0 ?_)
    refine WL.c rfl (o_nil rfl ?_)
    refine WL.c rfl (o_fa 2 TI28 rfl TI26 rfl rfl ?_)
    refine WL.c rfl (o_ld TI26 rfl rfl (cell_of hB.cell rfl) ?_)
    refine WL.c rfl (o_lenR TI26 rfl (Sl.own hB.rc) ?_)
    refine WL.c rfl (o_lt rfl rfl ?_)
    refine WL.nil ?_
    refine W.cond rfl (fun c76 => ?_) (fun c76 => ?_)
    · try simp only [decide_eq_true_eq, decide_eq_false_iff_not, Bool.not_eq_true', Bool.not_eq_false', Bool.and_eq_true, Bool.or_eq_true, Bool.and_eq_false_iff, Bool.or_eq_false_iff] at c76
      refine W.skip ?_
      refine W.seq ?_
      refine W.block ?_
      refine W.seq ?_
      have hk1 : k < np := by omega
      obtain ⟨ma, hma, hra⟩ := hB.lc k hk1
      obtain ⟨m, hm, hrb⟩ := hB.ld k hk1
      obtain ⟨ag, ac, hae, hag⟩ := own_some hB.rc (by omega)
      obtain ⟨bg, bc, hbe, hbg⟩ := own_some hB.rd (by omega)
      refine W.region ?_
      refine WL.c rfl (o_ash (show _ = Value.int _ _ from rfl) ?_)
      refine WL.nil ?_
      refine W.block ?_
      refine W.loop (fun e w => ∃ i : Nat, i ≤ m ∧ e 0 = .pointer (some ⟨bp, 0, none⟩) ∧ e 5 = .int .i64 (k : Int) ∧ e 6 = .int .i64 (i : Int) ∧ Ext w0 w) (fun e w => m - (intOf (e 6)).toNat) ?_ ?_
      · exact ⟨0, Nat.zero_le _, h0, h5, rfl, hx⟩
      rintro e w ⟨i, hi, h0, h5, h6, hx2⟩
      have hm6 := h6
      have hB := h.ext hx2
      have hcell := hB.cell
      rw [hae, hbe] at hcell
      have hA1 := hB.rc
      have hB1 := hB.rd
      rw [hae] at hA1
      rw [hbe] at hB1
      obtain ⟨ma, hma, hra⟩ := hB.lc k hk1
      obtain ⟨m2, hm2, hrb2⟩ := hB.ld k hk1
      obtain rfl : m2 = m := own_len hrb2 hrb
      refine W.seq ?_
      refine W.seq ?_
      refine W.region ?_
      refine WL.c rfl (o_mvh h6 ?_)
      refine WL.c rfl (o_mvh h0 ?_)
      refine WL.c rfl (o_nil rfl ?_)
      refine WL.c rfl (o_fa 3 TI28 rfl TI26 rfl rfl ?_)
      refine WL.c rfl (o_ld TI26 rfl rfl (cell_of hcell rfl) ?_)
      refine WL.c rfl (o_mvh h5 ?_)
      refine WL.c rfl (o_ixB (i := k) TI26 TI75 (show _ = Value.slice (some ⟨bg, 0, none⟩) np bc from by first | rfl | assumption) (show _ = Value.int .i64 (k : Int) from by first | rfl | assumption) (by omega) ?_)
      refine WL.c rfl (o_ld TI75 rfl rfl (own_cell (j := 0 + k * 1) hB1 (by rw [Nat.zero_add, Nat.mul_one]; exact vals_at hk1)) ?_)
      refine WL.c rfl (o_lenR TI75 rfl (Sl.own hrb2) ?_)
      refine WL.c rfl (o_lt rfl rfl ?_)
      refine WL.nil ?_
      refine W.cond rfl (fun c88 => ?_) (fun c88 => ?_)
      · try simp only [decide_eq_true_eq, decide_eq_false_iff_not, Bool.not_eq_true', Bool.not_eq_false', Bool.and_eq_true, Bool.or_eq_true, Bool.and_eq_false_iff, Bool.or_eq_false_iff] at c88
        refine W.skip ?_
        refine W.seq ?_
        refine W.block ?_
        refine W.seq ?_
        have hi1 : i < m2 := by omega
        obtain ⟨vbg, vbc, hvbe, -⟩ := own_some hrb2 (by omega)
        rw [hvbe] at hrb2
        rcases Nat.lt_or_ge i ma with hi2 | hi2
        · skip
          obtain ⟨vag, vac, hvae, -⟩ := own_some hra (by omega)
          rw [hvae] at hra
          refine W.region ?_
          refine WL.c rfl (o_mvh h0 ?_)
          refine WL.c rfl (o_nil rfl ?_)
          refine WL.c rfl (o_fa 3 TI28 rfl TI26 rfl rfl ?_)
          refine WL.c rfl (o_ld TI26 rfl rfl (cell_of hcell rfl) ?_)
          refine WL.c rfl (o_mvh h5 ?_)
          refine WL.c rfl (o_ixB (i := k) TI26 TI75 (show _ = Value.slice (some ⟨bg, 0, none⟩) np bc from by first | rfl | assumption) (show _ = Value.int .i64 (k : Int) from by first | rfl | assumption) (by omega) ?_)
          refine WL.c rfl (o_ld TI75 rfl rfl (own_cell (j := 0 + k * 1) hB1 (by rw [Nat.zero_add, Nat.mul_one]; exact vals_at hk1)) ?_)
          refine WL.c rfl (o_mvh h6 ?_)
          refine WL.c rfl (o_ixB (i := i) TI75 TI3 (show _ = Value.slice (some ⟨vbg, 0, none⟩) m2 vbc from hvbe) (show _ = Value.int .i64 (i : Int) from by first | rfl | assumption) (by omega) ?_)
          refine WL.c rfl (o_ld TI3 rfl rfl (own_cell (j := 0 + i * 1) hrb2 (by rw [Nat.zero_add, Nat.mul_one]; exact rep_at hi1)) ?_)
          refine WL.c rfl (o_mvh h5 ?_)
          refine WL.c rfl (o_subi rfl rfl (by omega) ?_)
          refine WL.c rfl (o_ne rfl rfl ?_)
          refine WL.c rfl (o_mvh (show _ = Value.bool _ from rfl) ?_)
          refine WL.g rfl (by simp) rfl (o_mvh h6 ?_)
          refine WL.g rfl (by simp) rfl (o_mvh h0 ?_)
          refine WL.g rfl (by simp) rfl (o_nil rfl ?_)
          refine WL.g rfl (by simp) rfl (o_fa 2 TI28 rfl TI26 rfl rfl ?_)
          refine WL.g rfl (by simp) rfl (o_ld TI26 rfl rfl (cell_of hcell rfl) ?_)
          refine WL.g rfl (by simp) rfl (o_mvh h5 ?_)
          refine WL.g rfl (by simp) rfl (o_ixB (i := k) TI26 TI75 (show _ = Value.slice (some ⟨ag, 0, none⟩) np ac from by first | rfl | assumption) (show _ = Value.int .i64 (k : Int) from by first | rfl | assumption) (by omega) ?_)
          refine WL.g rfl (by simp) rfl (o_ld TI75 rfl rfl (own_cell (j := 0 + k * 1) hA1 (by rw [Nat.zero_add, Nat.mul_one]; exact vals_at hk1)) ?_)
          refine WL.g rfl (by simp) rfl (o_lenR TI75 rfl (Sl.own (hvae ▸ hra)) ?_)
          refine WL.g rfl (by simp) rfl (o_lt rfl rfl ?_)
          refine WL.g rfl (by simp) rfl (o_mvh (show _ = Value.bool _ from rfl) ?_)
          refine WL.g rfl (by simp; omega) rfl (o_mvh h0 ?_)
          refine WL.g rfl (by simp; omega) rfl (o_nil rfl ?_)
          refine WL.g rfl (by simp; omega) rfl (o_fa 2 TI28 rfl TI26 rfl rfl ?_)
          refine WL.g rfl (by simp; omega) rfl (o_ld TI26 rfl rfl (cell_of hcell rfl) ?_)
          refine WL.g rfl (by simp; omega) rfl (o_mvh h5 ?_)
          refine WL.g rfl (by simp; omega) rfl (o_ixB (i := k) TI26 TI75 (show _ = Value.slice (some ⟨ag, 0, none⟩) np ac from by first | rfl | assumption) (show _ = Value.int .i64 (k : Int) from by first | rfl | assumption) (by omega) ?_)
          refine WL.g rfl (by simp; omega) rfl (o_ld TI75 rfl rfl (own_cell (j := 0 + k * 1) hA1 (by rw [Nat.zero_add, Nat.mul_one]; exact vals_at hk1)) ?_)
          refine WL.g rfl (by simp; omega) rfl (o_mvh h6 ?_)
          refine WL.g rfl (by simp; omega) rfl (o_ixB (i := i) TI75 TI3 (show _ = Value.slice (some ⟨vag, 0, none⟩) ma vac from hvae) (show _ = Value.int .i64 (i : Int) from by first | rfl | assumption) (by omega) ?_)
          refine WL.g rfl (by simp; omega) rfl (o_ld TI3 rfl rfl (own_cell (j := 0 + i * 1) hra (by rw [Nat.zero_add, Nat.mul_one]; exact rep_at hi2)) ?_)
          refine WL.g rfl (by simp; omega) rfl (o_mvh h5 ?_)
          refine WL.g rfl (by simp; omega) rfl (o_subi rfl rfl (by omega) ?_)
          refine WL.g rfl (by simp; omega) rfl (o_ne rfl rfl ?_)
          refine WL.g rfl (by simp) rfl (o_pickA rfl rfl ?_)
          refine WL.c rfl (o_pickO rfl rfl ?_)
          refine WL.nil ?_
          refine W.condF' rfl (by simp) ?_
          refine W.skip ?_
          refine W.region ?_
          refine WL.c rfl (o_mvh h6 ?_)
          refine WL.c rfl (o_addi rfl rfl (by omega) ?_)
          refine WL.c rfl (o_ash (show _ = Value.int _ _ from rfl) ?_)
          refine WL.nil ?_
          refine ⟨⟨i + 1, by omega, h0, h5, rfl, hx2⟩, ?_⟩
          show m2 - ((i : Int) + 1).toNat < _
          rw [hm6]; simp only [intOf]; omega
        · skip
          refine W.region ?_
          refine WL.c rfl (o_mvh h0 ?_)
          refine WL.c rfl (o_nil rfl ?_)
          refine WL.c rfl (o_fa 3 TI28 rfl TI26 rfl rfl ?_)
          refine WL.c rfl (o_ld TI26 rfl rfl (cell_of hcell rfl) ?_)
          refine WL.c rfl (o_mvh h5 ?_)
          refine WL.c rfl (o_ixB (i := k) TI26 TI75 (show _ = Value.slice (some ⟨bg, 0, none⟩) np bc from by first | rfl | assumption) (show _ = Value.int .i64 (k : Int) from by first | rfl | assumption) (by omega) ?_)
          refine WL.c rfl (o_ld TI75 rfl rfl (own_cell (j := 0 + k * 1) hB1 (by rw [Nat.zero_add, Nat.mul_one]; exact vals_at hk1)) ?_)
          refine WL.c rfl (o_mvh h6 ?_)
          refine WL.c rfl (o_ixB (i := i) TI75 TI3 (show _ = Value.slice (some ⟨vbg, 0, none⟩) m2 vbc from hvbe) (show _ = Value.int .i64 (i : Int) from by first | rfl | assumption) (by omega) ?_)
          refine WL.c rfl (o_ld TI3 rfl rfl (own_cell (j := 0 + i * 1) hrb2 (by rw [Nat.zero_add, Nat.mul_one]; exact rep_at hi1)) ?_)
          refine WL.c rfl (o_mvh h5 ?_)
          refine WL.c rfl (o_subi rfl rfl (by omega) ?_)
          refine WL.c rfl (o_ne rfl rfl ?_)
          refine WL.c rfl (o_mvh (show _ = Value.bool _ from rfl) ?_)
          refine WL.g rfl (by simp) rfl (o_mvh h6 ?_)
          refine WL.g rfl (by simp) rfl (o_mvh h0 ?_)
          refine WL.g rfl (by simp) rfl (o_nil rfl ?_)
          refine WL.g rfl (by simp) rfl (o_fa 2 TI28 rfl TI26 rfl rfl ?_)
          refine WL.g rfl (by simp) rfl (o_ld TI26 rfl rfl (cell_of hcell rfl) ?_)
          refine WL.g rfl (by simp) rfl (o_mvh h5 ?_)
          refine WL.g rfl (by simp) rfl (o_ixB (i := k) TI26 TI75 (show _ = Value.slice (some ⟨ag, 0, none⟩) np ac from by first | rfl | assumption) (show _ = Value.int .i64 (k : Int) from by first | rfl | assumption) (by omega) ?_)
          refine WL.g rfl (by simp) rfl (o_ld TI75 rfl rfl (own_cell (j := 0 + k * 1) hA1 (by rw [Nat.zero_add, Nat.mul_one]; exact vals_at hk1)) ?_)
          refine WL.g rfl (by simp) rfl (o_lenR TI75 rfl (Sl.own hra) ?_)
          refine WL.g rfl (by simp) rfl (o_lt rfl rfl ?_)
          refine WL.g rfl (by simp) rfl (o_mvh (show _ = Value.bool _ from rfl) ?_)
          refine WL.s rfl (by simp; omega) rfl ?_
          refine WL.s rfl (by simp; omega) rfl ?_
          refine WL.s rfl (by simp; omega) rfl ?_
          refine WL.s rfl (by simp; omega) rfl ?_
          refine WL.s rfl (by simp; omega) rfl ?_
          refine WL.s rfl (by simp; omega) rfl ?_
          refine WL.s rfl (by simp; omega) rfl ?_
          refine WL.s rfl (by simp; omega) rfl ?_
          refine WL.s rfl (by simp; omega) rfl ?_
          refine WL.s rfl (by simp; omega) rfl ?_
          refine WL.s rfl (by simp; omega) rfl ?_
          refine WL.s rfl (by simp; omega) rfl ?_
          refine WL.s rfl (by simp; omega) rfl ?_
          refine WL.g rfl (by simp) rfl (o_pickF rfl (by simp; omega) ?_)
          refine WL.c rfl (o_pickO rfl rfl ?_)
          refine WL.nil ?_
          refine W.condF' rfl (by simp) ?_
          refine W.skip ?_
          refine W.region ?_
          refine WL.c rfl (o_mvh h6 ?_)
          refine WL.c rfl (o_addi rfl rfl (by omega) ?_)
          refine WL.c rfl (o_ash (show _ = Value.int _ _ from rfl) ?_)
          refine WL.nil ?_
          refine ⟨⟨i + 1, by omega, h0, h5, rfl, hx2⟩, ?_⟩
          show m2 - ((i : Int) + 1).toNat < _
          rw [hm6]; simp only [intOf]; omega
      · try simp only [decide_eq_true_eq, decide_eq_false_iff_not, Bool.not_eq_true', Bool.not_eq_false', Bool.and_eq_true, Bool.or_eq_true, Bool.and_eq_false_iff, Bool.or_eq_false_iff] at c88
        refine W.exit ?_
        refine W.region ?_
        refine WL.c rfl (o_mvh h5 ?_)
        refine WL.c rfl (o_addi rfl rfl (by omega) ?_)
        refine WL.c rfl (o_ash (show _ = Value.int _ _ from rfl) ?_)
        refine WL.nil ?_
        refine ⟨⟨k + 1, by omega, h0, rfl, hx2⟩, ?_⟩
        show np - ((k : Int) + 1).toNat < _
        rw [hm5]; simp only [intOf]; omega
    · try simp only [decide_eq_true_eq, decide_eq_false_iff_not, Bool.not_eq_true', Bool.not_eq_false', Bool.and_eq_true, Bool.or_eq_true, Bool.and_eq_false_iff, Bool.or_eq_false_iff] at c76
      refine W.exit ?_
      refine W.seq ?_
      refine W.region ?_
      refine WL.c rfl (o_ash (show _ = Value.bool _ from rfl) ?_)
      refine WL.nil ?_
      refine W.ret ?_
      refine ret1v rfl (show _ = Value.bool _ from rfl) ?_
      exact ⟨rfl, hx⟩
end Go.Proofs.YtgmjfcekeglhjaaDoor

set_option linter.unusedSimpArgs false
set_option linter.unusedVariables false
set_option maxRecDepth 100000
namespace Go.Proofs.YtgmjfcekeglhjaaDoor
open Go Go.Vc Go.RowKit Go.Proofs

theorem Bk.addN {w w' : World} {bp : Nat} {a b c d a' b' tv gv : Value} {nl np : Nat} {VA VB VC VD : Nat → Value} (h : Bk w bp a b c d nl np VA VB VC VD) (ho : Only (fun k => a.ownBlock = some k ∨ b.ownBlock = some k ∨ k = bp ∨ tv.ownBlock = some k) w w')
    (cell : w'.heap[bp]? = some (.cells #[a', b', c, d] 28 (0, 0))) (ra : w'.ownsRow 0 30 1 a' (nl + 1) (vals VA nl ++ [tv])) (rb : w'.ownsRow 0 30 1 b' (nl + 1) (vals VB nl ++ [gv]))
    (htv : ∀ k, tv.ownBlock = some k → k < w.heap.size ∧ ¬ BF bp a b c d nl np VA VB VC VD k) (ha : ∀ k, a'.ownBlock = some k → a.ownBlock = some k ∨ w.heap.size ≤ k) (hb : ∀ k, b'.ownBlock = some k → b.ownBlock = some k ∨ w.heap.size ≤ k) (hg : ∀ k, gv.ownBlock = some k → tv.ownBlock = some k ∨ w.heap.size ≤ k)
    (hab : ∀ k, a'.ownBlock = some k → ¬ b'.ownBlock = some k) (i1 : ItN w' tv nl) (i2 : ItN w' gv nl) :
    Bk w' bp a' b' c d (nl + 1) np (fun j => if j = nl then tv else VA j) (fun j => if j = nl then gv else VB j) VC VD ∧ ∀ k, BF bp a' b' c d (nl + 1) np (fun j => if j = nl then tv else VA j) (fun j => if j = nl then gv else VB j) VC VD k → BF bp a b c d nl np VA VB VC VD k ∨ tv.ownBlock = some k ∨ w.heap.size ≤ k := by
  have hF : ∀ k, BF bp a b c d nl np VA VB VC VD k → ¬ tv.ownBlock = some k := fun k hk ht => (htv k ht).2 hk
  have hit : ∀ (v : Value) (el : TypeId) (s m : Nat) (xs : List Value), w.ownsRow 0 el s v m xs → 30 ≠ el → 28 ≠ el → (∀ k, v.ownBlock = some k → BF bp a b c d nl np VA VB VC VD k) → ∀ k, v.ownBlock = some k → ¬ (a.ownBlock = some k ∨ b.ownBlock = some k ∨ k = bp ∨ tv.ownBlock = some k) := fun v el s m xs hr h1 h2 h3 k hk hc => by
    rcases hc with hc | hc | rfl | hc
    · exact own_row_off h.ra hr h1 k hk hc
    · exact own_row_off h.rb hr h1 k hk hc
    · exact own_off hr h.cell (Ne.symm h2) hk
    · exact hF k (h3 k hk) hc
  refine ⟨⟨cell, by rw [vals_snoc]; exact ra, by rw [vals_snoc]; exact rb, own_only h.rc ho (hit _ _ _ _ _ h.rc (by decide) (by decide) (fun k hk => .inr (.inr (.inr (.inl hk))))), own_only h.rd ho (hit _ _ _ _ _ h.rd (by decide) (by decide) (fun k hk => .inr (.inr (.inr (.inr (.inl hk)))))), hab, h.cd, fun j hj => by
    by_cases e : j = nl
    · subst e; simp only [if_pos]; exact i1
    · simp only [if_neg e]
      obtain ⟨m, hm, hr⟩ := h.la j (by omega)
      exact ⟨m, hm, own_only hr ho (hit _ _ _ _ _ hr (by decide) (by decide) (fun k hk => .inr (.inr (.inr (.inr (.inr (.inl ⟨j, by omega, .inl hk⟩)))))))⟩, fun j hj => by
    by_cases e : j = nl
    · subst e; simp only [if_pos]; exact i2
    · simp only [if_neg e]
      obtain ⟨m, hm, hr⟩ := h.lb j (by omega)
      exact ⟨m, hm, own_only hr ho (hit _ _ _ _ _ hr (by decide) (by decide) (fun k hk => .inr (.inr (.inr (.inr (.inr (.inl ⟨j, by omega, .inr hk⟩)))))))⟩, fun j hj => by
    obtain ⟨m, hm, hr⟩ := h.lc j hj
    exact ⟨m, hm, own_only hr ho (hit _ _ _ _ _ hr (by decide) (by decide) (fun k hk => .inr (.inr (.inr (.inr (.inr (.inr ⟨j, by omega, .inl hk⟩)))))))⟩, fun j hj => by
    obtain ⟨m, hm, hr⟩ := h.ld j hj
    exact ⟨m, hm, own_only hr ho (hit _ _ _ _ _ hr (by decide) (by decide) (fun k hk => .inr (.inr (.inr (.inr (.inr (.inr ⟨j, by omega, .inr hk⟩)))))))⟩⟩, fun k hk => ?_⟩
  rcases hk with rfl | hk | hk | hk | hk | ⟨j, hj, hk⟩ | ⟨j, hj, hk⟩
  · exact .inl (.inl rfl)
  · rcases ha k hk with h1 | h1
    · exact .inl (.inr (.inl h1))
    · exact .inr (.inr h1)
  · rcases hb k hk with h1 | h1
    · exact .inl (.inr (.inr (.inl h1)))
    · exact .inr (.inr h1)
  · exact .inl (.inr (.inr (.inr (.inl hk))))
  · exact .inl (.inr (.inr (.inr (.inr (.inl hk)))))
  · by_cases e : j = nl
    · simp only [if_pos e] at hk
      rcases hk with hk | hk
      · exact .inr (.inl hk)
      · exact .inr (hg k hk)
    · simp only [if_neg e] at hk
      exact .inl (.inr (.inr (.inr (.inr (.inr (.inl ⟨j, by omega, hk⟩))))))
  · exact .inl (.inr (.inr (.inr (.inr (.inr (.inr ⟨j, hj, hk⟩))))))


theorem Bk.addI {w w' : World} {bp : Nat} {a b c d a' b' tv gv : Value} {nl np : Nat} {VA VB VC VD : Nat → Value} (h : Bk w bp a b c d nl np VA VB VC VD) (ho : Only (fun k => c.ownBlock = some k ∨ d.ownBlock = some k ∨ k = bp ∨ tv.ownBlock = some k) w w')
    (cell : w'.heap[bp]? = some (.cells #[a, b, a', b'] 28 (0, 0))) (ra : w'.ownsRow 0 75 1 a' (np + 1) (vals VC np ++ [tv])) (rb : w'.ownsRow 0 75 1 b' (np + 1) (vals VD np ++ [gv]))
    (htv : ∀ k, tv.ownBlock = some k → k < w.heap.size ∧ ¬ BF bp a b c d nl np VA VB VC VD k) (ha : ∀ k, a'.ownBlock = some k → c.ownBlock = some k ∨ w.heap.size ≤ k) (hb : ∀ k, b'.ownBlock = some k → d.ownBlock = some k ∨ w.heap.size ≤ k) (hg : ∀ k, gv.ownBlock = some k → tv.ownBlock = some k ∨ w.heap.size ≤ k)
    (hab : ∀ k, a'.ownBlock = some k → ¬ b'.ownBlock = some k) (i1 : ItI w' tv np) (i2 : ItI w' gv np) :
    Bk w' bp a b a' b' nl (np + 1) VA VB (fun j => if j = np then tv else VC j) (fun j => if j = np then gv else VD j) ∧ ∀ k, BF bp a b a' b' nl (np + 1) VA VB (fun j => if j = np then tv else VC j) (fun j => if j = np then gv else VD j) k → BF bp a b c d nl np VA VB VC VD k ∨ tv.ownBlock = some k ∨ w.heap.size ≤ k := by
  have hF : ∀ k, BF bp a b c d nl np VA VB VC VD k → ¬ tv.ownBlock = some k := fun k hk ht => (htv k ht).2 hk
  have hit : ∀ (v : Value) (el : TypeId) (s m : Nat) (xs : List Value), w.ownsRow 0 el s v m xs → 75 ≠ el → 28 ≠ el → (∀ k, v.ownBlock = some k → BF bp a b c d nl np VA VB VC VD k) → ∀ k, v.ownBlock = some k → ¬ (c.ownBlock = some k ∨ d.ownBlock = some k ∨ k = bp ∨ tv.ownBlock = some k) := fun v el s m xs hr h1 h2 h3 k hk hc => by
    rcases hc with hc | hc | rfl | hc
    · exact own_row_off h.rc hr h1 k hk hc
    · exact own_row_off h.rd hr h1 k hk hc
    · exact own_off hr h.cell (Ne.symm h2) hk
    · exact hF k (h3 k hk) hc
  refine ⟨⟨cell, own_only h.ra ho (hit _ _ _ _ _ h.ra (by decide) (by decide) (fun k hk => .inr (.inl hk))), own_only h.rb ho (hit _ _ _ _ _ h.rb (by decide) (by decide) (fun k hk => .inr (.inr (.inl hk)))), by rw [vals_snoc]; exact ra, by rw [vals_snoc]; exact rb, h.ab, hab, fun j hj => by
    obtain ⟨m, hm, hr⟩ := h.la j hj
    exact ⟨m, hm, own_only hr ho (hit _ _ _ _ _ hr (by decide) (by decide) (fun k hk => .inr (.inr (.inr (.inr (.inr (.inl ⟨j, by omega, .inl hk⟩)))))))⟩, fun j hj => by
    obtain ⟨m, hm, hr⟩ := h.lb j hj
    exact ⟨m, hm, own_only hr ho (hit _ _ _ _ _ hr (by decide) (by decide) (fun k hk => .inr (.inr (.inr (.inr (.inr (.inl ⟨j, by omega, .inr hk⟩)))))))⟩, fun j hj => by
    by_cases e : j = np
    · subst e; simp only [if_pos]; exact i1
    · simp only [if_neg e]
      obtain ⟨m, hm, hr⟩ := h.lc j (by omega)
      exact ⟨m, hm, own_only hr ho (hit _ _ _ _ _ hr (by decide) (by decide) (fun k hk => .inr (.inr (.inr (.inr (.inr (.inr ⟨j, by omega, .inl hk⟩)))))))⟩, fun j hj => by
    by_cases e : j = np
    · subst e; simp only [if_pos]; exact i2
    · simp only [if_neg e]
      obtain ⟨m, hm, hr⟩ := h.ld j (by omega)
      exact ⟨m, hm, own_only hr ho (hit _ _ _ _ _ hr (by decide) (by decide) (fun k hk => .inr (.inr (.inr (.inr (.inr (.inr ⟨j, by omega, .inr hk⟩)))))))⟩⟩, fun k hk => ?_⟩
  rcases hk with rfl | hk | hk | hk | hk | ⟨j, hj, hk⟩ | ⟨j, hj, hk⟩
  · exact .inl (.inl rfl)
  · exact .inl (.inr (.inl hk))
  · exact .inl (.inr (.inr (.inl hk)))
  · rcases ha k hk with h1 | h1
    · exact .inl (.inr (.inr (.inr (.inl h1))))
    · exact .inr (.inr h1)
  · rcases hb k hk with h1 | h1
    · exact .inl (.inr (.inr (.inr (.inr (.inl h1)))))
    · exact .inr (.inr h1)
  · exact .inl (.inr (.inr (.inr (.inr (.inr (.inl ⟨j, hj, hk⟩))))))
  · by_cases e : j = np
    · simp only [if_pos e] at hk
      rcases hk with hk | hk
      · exact .inr (.inl hk)
      · exact .inr (hg k hk)
    · simp only [if_neg e] at hk
      exact .inl (.inr (.inr (.inr (.inr (.inr (.inr ⟨j, by omega, hk⟩))))))

end Go.Proofs.YtgmjfcekeglhjaaDoor

set_option linter.unusedSimpArgs false
set_option linter.unusedVariables false
set_option maxRecDepth 100000
namespace Go.Proofs.YtgmjfcekeglhjaaDoor
open Go Go.Vc Go.RowKit Go.Proofs

/-- the longer list, and the list itself -/
def Gv (lv : Value) (B n : Nat) (q : Nat) (v : Value) (w : World) : Prop := w.ownsRow 0 69 3 v (n + 1) (nds (List.replicate (n + 1) (mkN q))) ∧ w.ownsRow 0 69 3 lv n (nds (List.replicate n (mkN q))) ∧ ∀ k, v.ownBlock = some k → lv.ownBlock = some k ∨ B ≤ k
theorem own_newv {w w1 : World} {base : Nat} {el T : TypeId} {s n : Nat} {v : Value} {xs : List Value} (h : w.ownsRow base el s v n xs) : (w1.alloc (.cells v.cells T)).ownsRow w1.heap.size T 1 (.slice (some ⟨w1.heap.size, 0, none⟩) 1 1) 1 [v] := by
  obtain ⟨a, c, rfl, -⟩ := own_form h
  exact own_new1 rfl
theorem Gv.keep {lv : Value} {B n q : Nat} {v : Value} {w w' : World} {F : Nat → Prop} (h : Gv lv B n q v w) (ho : Only F w w') (hn : ∀ k, (lv.ownBlock = some k ∨ B ≤ k) → ¬ F k) : Gv lv B n q v w' :=
  ⟨own_only h.1 ho (fun k hk => hn k (h.2.2 k hk)), own_only h.2.1 ho (fun k hk => hn k (.inl hk)), h.2.2⟩

set_option maxHeartbeats 8000000 in
theorem bnodes_spec (bp : Nat) (a b c d : Value) (nl np : Nat) (VA VB VC VD : Nat → Value) (w0 : World) (h : Bk w0 bp a b c d nl np VA VB VC VD) (hnl : nl ≤ 1000000)  (lv : Value) (L : List Nd) (hv : w0.ownsRow 0 69 3 lv L.length (nds L)) (hl : L.length ≤ 2000000) (hnv : ∀ k, lv.ownBlock = some k → ¬ BF bp a b c d nl np VA VB VC VD k) : Ca Tryd.prog 21 #[.pointer (some ⟨bp, 0, none⟩), lv] w0 (fun _ w' => ∃ a' b' VA' VB', Bk w' bp a' b' c d (nl + 1) np VA' VB' VC VD ∧ Only (fun k => BF bp a b c d nl np VA VB VC VD k ∨ lv.ownBlock = some k) w0 w' ∧ ∀ k, BF bp a' b' c d (nl + 1) np VA' VB' VC VD k → BF bp a b c d nl np VA VB VC VD k ∨ lv.ownBlock = some k ∨ w0.heap.size ≤ k) := by
  have h00 := h
  have hv00 := hv
  refine Ca.of Tryd.func21 Tryd.ntmps21 rfl rfl ?_
  refine W.seq ?_
  refine W.region ?_
  refine WL.c rfl (o_mvh (by first | exact (show _ = Value.pointer _ from rfl) | exact rfl) ?_)
  refine WL.c rfl (o_nil rfl ?_)
  refine WL.c rfl (o_fa 0 TI28 rfl TI25 rfl rfl ?_)
  refine WL.c rfl (o_ld TI25 rfl rfl (cell_of h.cell rfl) ?_)
  refine WL.c rfl (o_lenR TI25 rfl (Sl.own h.ra) ?_)
  refine WL.c rfl (o_addi rfl rfl (by omega) ?_)
  refine WL.c rfl (o_bldC (cs := [_, (.int .u64 0), (.int .i64 0)]) TI69 (Sizes.cons TI3 (Sizes.cons TI43 (Sizes.cons TI3 Sizes.nil))) rfl (lcp (show _ = Value.int _ _ from rfl) lnp) rfl rfl ?_)
  refine WL.c rfl (o_alB TI69 ?_)
  intro wa hCa hxa hsa
  refine WL.u (o_stA TI69 rfl (show _ = Value.agg (ndV (mkN nl)).toArray from rfl) rfl rfl hCa rfl ?_)
  intro wb4 hC4 hob hsb
  have hxb := Ext.own hxa (Nat.le_refl _) hob
  obtain ⟨b4, hb4⟩ : ∃ b, b = w0.heap.size := ⟨_, rfl⟩
  rw [← hb4] at hC4 ⊢
  clear hCa hxa hsa hob hsb
  have hx : Ext w0 wb4 := hxb
  replace h := h.ext hx
  replace hv := own_ext hv hx
  have hoff4 : ∀ k, lv.ownBlock = some k → ¬ k = b4 := fun k hk he => by have := (hv00.lt k hk).2; omega
  clear hxb
  refine WL.nil ?_
  refine W.seq ?_
  refine W.seq ?_
  refine W.region ?_
  refine WL.c rfl (o_ash (show _ = Value.int _ _ from rfl) ?_)
  refine WL.nil ?_
  refine W.block ?_
  refine W.loop (fun e w => ∃ k : Nat, k ≤ L.length ∧ e 0 = .pointer (some ⟨bp, 0, none⟩) ∧ e 1 = lv ∧ e 4 = .pointer (some ⟨b4, 0, none⟩) ∧ e 5 = .int .i64 (k : Int) ∧ w.heap[b4]? = some (.cells (ndV (mkN nl)).toArray 69 (0, 0)) ∧ w.ownsRow 0 69 3 lv L.length (nds (List.replicate k (mkN nl) ++ L.drop k)) ∧ Only (fun j => lv.ownBlock = some j) wb4 w) (fun e w => L.length - (intOf (e 5)).toNat) ?_ ?_
  · exact ⟨0, Nat.zero_le _, rfl, rfl, rfl, rfl, hC4, by simpa using hv, Only.refl _ _⟩
  rintro e w ⟨k, hk, h0, h1, h4, h5, hC4, hr, ho⟩
  have hm5 := h5
  refine W.seq ?_
  refine W.seq ?_
  refine W.region ?_
  refine WL.c rfl (o_mvh h5 ?_)
  refine WL.c rfl (o_mvh h1 ?_)
  refine WL.c rfl (o_lenR TI30 rfl (Sl.own hr) ?_)
  refine WL.c rfl (o_lt rfl rfl ?_)
  refine WL.nil ?_
  refine W.cond rfl (fun c16 => ?_) (fun c16 => ?_)
  · try simp only [decide_eq_true_eq, decide_eq_false_iff_not, Bool.not_eq_true', Bool.not_eq_false', Bool.and_eq_true, Bool.or_eq_true, Bool.and_eq_false_iff, Bool.or_eq_false_iff] at c16
    have hk1 : k < L.length := by omega
    obtain ⟨vg, vc, hve, hvg⟩ := own_some hr (by omega)
    rw [hve] at h1
    refine W.skip ?_
    refine W.seq ?_
    refine W.block ?_
    refine W.region ?_
    refine WL.c rfl (o_mvh h1 ?_)
    refine WL.c rfl (o_mvh h5 ?_)
    refine WL.c rfl (o_ldA TI69 rfl h4 (show Cells _ b4 0 (ndV (mkN nl)) from Cells.of hC4 0 _ (by simp)) rfl ?_)
    refine WL.c rfl (o_ixB (i := k) TI30 TI69 (show _ = Value.slice (some ⟨vg, 0, none⟩) L.length vc from by first | rfl | assumption) (show _ = Value.int .i64 (k : Int) from by first | rfl | assumption) (by omega) ?_)
    refine WL.u (o_stRA TI69 rfl (show 0 + k * 3 = k * 3 by omega) (show _ = Value.agg (ndV (mkN nl)).toArray from rfl) rfl rfl hr hvg hk1 ?_)
    intro w22 hr22 ho22 hs22
    have hr2 : w22.ownsRow 0 69 3 lv L.length (nds (List.replicate (k + 1) (mkN nl) ++ L.drop (k + 1))) := by rw [← nds_mark hk1]; exact hr22
    replace hC4 := ho22.blk hC4 (fun hk => hoff4 _ hk rfl)
    replace ho := ho.trans' ho22 (fun _ h => h) (fun _ _ h => h)
    refine WL.nil ?_
    refine W.region ?_
    refine WL.c rfl (o_mvh h5 ?_)
    refine WL.c rfl (o_addi rfl rfl (by omega) ?_)
    refine WL.c rfl (o_ash (show _ = Value.int _ _ from rfl) ?_)
    refine WL.nil ?_
    refine ⟨⟨k + 1, by omega, h0, h1.trans hve.symm, h4, rfl, hC4, hr2, ho⟩, ?_⟩
    show L.length - ((k : Int) + 1).toNat < _
    rw [hm5]; simp [intOf]; omega
  · try simp only [decide_eq_true_eq, decide_eq_false_iff_not, Bool.not_eq_true', Bool.not_eq_false', Bool.and_eq_true, Bool.or_eq_true, Bool.and_eq_false_iff, Bool.or_eq_false_iff] at c16
    obtain rfl : k = L.length := by omega
    rw [List.drop_length, List.append_nil] at hr
    refine W.exit ?_
    refine W.seq ?_
    have hT : Bk w bp a b c d nl np VA VB VC VD := h.only ho (fun k hk hF => hnv k hF hk)
    obtain ⟨wz, rfl⟩ : ∃ wz, wz = w := ⟨_, rfl⟩
    refine W.region ?_
    refine WL.c rfl (o_mvh h0 ?_)
    refine WL.c rfl (o_mvh h0 ?_)
    refine WL.c rfl (o_nil rfl ?_)
    refine WL.c rfl (o_fa 0 TI28 rfl TI25 rfl rfl ?_)
    refine WL.c rfl (o_ld TI25 rfl rfl (cell_of hT.cell rfl) ?_)
    refine WL.c rfl (o_mvh h1 ?_)
    refine WL.apO (0) rfl rfl TI25 TI30 (show _ = lv from rfl) rfl hT.ra (by decide) (by decide) (by rw [own_cells hr]; rfl) (one1 (own_one hr)) rfl (by rw [maxLen_eq]; omega) (by omega) (Nat.zero_le _) ?_
    intro v30 w30 h30 ho30 hb30 hk30
    have hcell30 := ho30.blk hT.cell (own_off hT.ra hT.cell (by decide))
    replace h30 : w30.ownsRow 0 30 1 v30 (nl + 1) (vals VA nl ++ [lv]) := by rw [own_cells hr] at h30; exact h30
    refine WL.c rfl (o_nil rfl ?_)
    refine WL.c rfl (o_fa 0 TI28 rfl TI25 rfl rfl ?_)
    refine WL.u (o_stB TI25 rfl (show _ = v30 from rfl) (own_one h30) hcell30 (show 0 < 4 by decide) ?_)
    intro w32 hB32 ho32 hs32
    replace hB32 : w32.heap[bp]? = some (.cells #[v30, b, c, d] 28 (0, 0)) := hB32
    have ho1 : Only (fun k => a.ownBlock = some k ∨ k = bp) wz w32 := (ho30.mono (fun _ _ h => .inl h)).trans (ho32.mono (fun _ _ h => .inr h))
    have hrA := own_only h30 ho32 (fun k hk he => by subst he; exact own_off h30 hcell30 (by decide) hk)
    have hrB := own_only hT.rb ho1 (fun k hk hF => by rcases hF with hF | rfl; exact hT.ab k hF hk; exact own_off hT.rb hT.cell (by decide) hk)
    have hrL := own_only hr ho1 (fun k hk hF => by rcases hF with hF | rfl; exact own_row_off hT.ra hr (by decide) k hk hF; exact own_off hr hT.cell (by decide) hk)
    have hC4b := ho1.blk hC4 (fun hF => by rcases hF with hF | hF; exact own_off hT.ra hC4 (by decide) hF; subst hF; have := hT.cell; rw [hC4] at this; cases this)
    have ha30 : ∀ k, v30.ownBlock = some k → a.ownBlock = some k ∨ wz.heap.size ≤ k := fun k hk => by
      rcases hb30 with hb | hb
      · rw [hb] at hk; exact .inl hk
      · rw [hb] at hk; cases hk; exact .inr (Nat.le_succ _)
    have hz0 := ho.size
    have hal30 : ∀ k, v30.ownBlock = some k → k < w32.heap.size := fun k hk => (hrA.lt k hk).2
    refine WL.nil ?_
    obtain ⟨wd, hwd⟩ : ∃ wd, wd = w32.drew := ⟨_, rfl⟩
    have hxd : Ext w32 wd := hwd ▸ Only.drew w32
    replace ho1 : Only (fun k => a.ownBlock = some k ∨ k = bp) wz wd := ho1.trans (hxd.mono (fun _ _ h => h.elim))
    replace hrA := own_ext hrA hxd
    replace hrB := own_ext hrB hxd
    replace hrL := own_ext hrL hxd
    replace hC4b := hxd.blk hC4b (fun h => h)
    replace hB32 := hxd.blk hB32 (fun h => h)
    have hbl : ∀ k, b.ownBlock = some k → k < wd.heap.size := fun k hk => (hrB.lt k hk).2
    have htl : ∀ k, lv.ownBlock = some k → k < wd.heap.size := fun k hk => (hrL.lt k hk).2
    have hbn : ∀ k, lv.ownBlock = some k → ¬ b.ownBlock = some k := fun k hk hb => own_row_off hrB hrL (by decide) k hk hb
    have hbG : ∀ k, (lv.ownBlock = some k ∨ wd.heap.size ≤ k) → ¬ b.ownBlock = some k := fun k hk hF => by
      rcases hk with hk | hk
      · exact hbn k hk hF
      · have := hbl k hF; omega
    have hpl : ¬ lv.ownBlock = some bp := own_off hrL hB32 (by decide)
    have hpb : ¬ b.ownBlock = some bp := own_off hrB hB32 (by decide)
    have hp4l : ¬ lv.ownBlock = some b4 := fun hk => hoff4 _ hk rfl
    have hp4b : ¬ b.ownBlock = some b4 := own_off hrB hC4b (by decide)
    have htp : bp < wd.heap.size := (Array.getElem?_eq_some_iff.1 hB32).1
    refine W.drawF 11 [8, 10] [fun k => lv.ownBlock = some k, fun k => b.ownBlock = some k] [(0, fun v _ => v = (Value.pointer (some ⟨bp, 0, none⟩))), (1, fun v _ => v = (lv)), (4, fun v _ => v = (Value.pointer (some ⟨b4, 0, none⟩)))] rfl (by kernel_rfl) (by kernel_rfl) ⟨Mono.eq, Mono.eq, Mono.eq, trivial⟩ ⟨h0, h1, h4, trivial⟩ ?_
    refine WDS.p rfl (by decide) (fun e w hR hh => by obtain ⟨h0, -⟩ := hh; exact SG.n (o_mvh h0 ⟨rfl, Only.refl No _⟩)) ?_
    refine WDS.p rfl (by decide) (fun e w hR hh => by obtain ⟨h0, -⟩ := hh; exact SG.n (o_mvh h0 ⟨rfl, Only.refl No _⟩)) ?_
    refine WDS.p rfl (by decide) (fun e w hR hh => by obtain ⟨h34, -⟩ := hh; exact SG.n (o_nil h34 ⟨rfl, Only.refl No _⟩)) ?_
    refine WDS.p rfl (by decide) (fun e w hR hh => by obtain ⟨h35, -⟩ := hh; exact SG.n (o_fa 1 TI28 rfl TI25 rfl h35 ⟨rfl, Only.refl No _⟩)) ?_
    refine WDS.p rfl (by decide) (fun e w hR hh => by obtain ⟨h36, -⟩ := hh; rw [← hwd] at hR; have hc := hR.blk hB32 (fun hF => by rcases hF with hF | hF | hF; exact hpl hF; exact hpb hF; exact hF); exact SG.n (o_ld TI25 rfl h36 (cell_of hc rfl) ⟨rfl, Only.refl No _⟩)) ?_
    refine WDS.p rfl (by decide) (fun e w hR hh => by obtain ⟨h1, -⟩ := hh; exact SG.n (o_mvh h1 ⟨rfl, Only.refl No _⟩)) ?_
    refine WDS.p rfl (by decide) (fun e w hR hh => by obtain ⟨h4, -⟩ := hh; rw [← hwd] at hR; have hc4 := hR.blk hC4b (fun hF => by rcases hF with hF | hF | hF; exact hp4l hF; exact hp4b hF; exact hF); exact SG.n (o_ldA TI69 rfl h4 (show Cells w b4 0 (ndV (mkN nl)) from Cells.of hc4 0 _ (by simp)) rfl ⟨rfl, Only.refl No _⟩)) ?_
    refine WDS.q 0 (fun v w => w.ownsRow wd.heap.size 69 3 v 1 (ndV (mkN nl))) (fun v w w2 hR hh => own_only hh hR (fun k hk hF => by have := (hh.lt k hk).1; rcases hF with hF | hF | hF; have := htl k hF; omega; have := hbl k hF; omega; exact hF)) (by kernel_rfl) rfl (by decide) (fun e w hR hh => by obtain ⟨h39, -⟩ := hh; rw [← hwd] at hR; exact SG.n (o_bs1 TI30 TI69 (show _ = Value.agg (ndV (mkN nl)).toArray from h39) (by decide) (by decide) rfl ⟨own_mono (own_new1 rfl) hR.size, Only.alloc w _⟩)) ?_
    refine WDS.mf 0 1 (fun v w => Gv lv wd.heap.size L.length nl v w) (fun v w w2 hR hh => hh.keep hR (fun k hk hF => by rcases hF with hF | hF; exact hbG k hk hF; exact hF)) (by kernel_rfl) rfl rfl rfl (fun e w hR hW hh => by obtain ⟨h40, h38, -⟩ := hh; rw [← hwd] at hR hW; have hW2 : Ext wd w := hW.mono (fun _ _ h => h); have hLw := own_ext hrL hW2; exact SGX.n (OP.x (o_apO 0 TI30 TI69 (show _ = lv from h38) rfl hLw (Sl.own h40) rfl (by decide) (fun a ha => by simp [ndV] at ha; rcases ha with rfl | rfl | rfl <;> rfl) (by rw [maxLen_eq]; omega) (by omega) (Nat.zero_le _) (fun v' w' h1 h2 h3 h4 => ⟨⟨by rw [List.replicate_succ', nds_snoc]; exact h1, h4.1, fun k hk => by have := hR.size; rcases h3 with h3 | h3; rw [h3] at hk; exact .inl hk; rw [h3] at hk; cases hk; exact .inr this⟩, h2⟩)))) ?_
    refine WDS.q 1 (fun v w => ∃ u, w.ownsRow wd.heap.size 30 1 v 1 [u] ∧ Gv lv wd.heap.size L.length nl u w) (fun v w w2 hR hh => by obtain ⟨u, h1, h2⟩ := hh; exact ⟨u, own_only h1 hR (fun k hk hF => by have := (h1.lt k hk).1; rcases hF with hF | hF; have := hbl k hF; omega; exact hF), h2.keep hR (fun k hk hF => by rcases hF with hF | hF; exact hbG k hk hF; exact hF)⟩) (by kernel_rfl) rfl (by decide) (fun e w hR hh => by obtain ⟨h41, -⟩ := hh; rw [← hwd] at hR; exact SG.n (o_bs1 TI25 TI30 rfl (by decide) (by decide) (show (e 41).cells.size = 1 by rw [own_cells h41.1]; rfl) ⟨⟨_, own_mono (own_newv h41.1) hR.size, h41.keep (Only.alloc w _) (fun _ _ h => h)⟩, Only.alloc w _⟩)) ?_
    refine WDS.mf 1 2 (fun v w => ∃ u, w.ownsRow 0 30 1 v (nl + 1) (vals VB nl ++ [u]) ∧ Gv lv wd.heap.size L.length nl u w ∧ (v.ownBlock = b.ownBlock ∨ ∃ g, wd.heap.size ≤ g ∧ v.ownBlock = some g)) (fun v w w2 hR hh => by obtain ⟨u, h1, h2, h3⟩ := hh; exact ⟨u, own_ext h1 hR, h2.keep hR (fun _ _ h => h), h3⟩) (by kernel_rfl) rfl rfl rfl (fun e w hR hW hh => by obtain ⟨h42, h37, -⟩ := hh; rw [← hwd] at hR hW; obtain ⟨u42, hr42, hu42⟩ := h42; have hrw := own_only hrB hW (fun k hk hF => by rcases hF with hF | hF; exact hbG k (.inl hF) hk; exact hF); exact SGX.n (OP.x (o_apO 0 TI25 TI30 h37 rfl hrw (Sl.own hr42) rfl (by decide) (by simp; exact own_one hu42.1) (by rw [maxLen_eq]; omega) (by omega) (Nat.zero_le _) (fun v' w' h1 h2 h3 h4 => ⟨⟨u42, h1, hu42.keep h2 hbG, by rcases h3 with h3 | h3; exact .inl h3; exact .inr ⟨_, hW.size, h3⟩⟩, h2⟩)))) ?_
    rintro e w hR ⟨h43, h42, h41, h40, h39, h38, h37, h36, h35, h34, h33, h0, h1, h4, -⟩
    rw [← hwd] at hR
    obtain ⟨gv, hrB2, hG, hb2⟩ := h43
    obtain ⟨v43, hv43⟩ : ∃ v, v = e 43 := ⟨_, rfl⟩
    rw [← hv43] at hrB2 hb2
    have hcm := hR.blk hB32 (fun hF => by rcases hF with hF | hF | hF; exact hpl hF; exact hpb hF; exact hF)
    refine WL.c rfl (o_nil h33 ?_)
    refine WL.c rfl (o_fa 1 TI28 rfl TI25 rfl rfl ?_)
    refine WL.u (o_stB TI25 rfl (show _ = v43 from hv43.symm) (own_one hrB2) hcm (show 1 < 4 by decide) ?_)
    intro w45 hB45 ho45 hs45
    replace hB45 : w45.heap[bp]? = some (.cells #[v30, v43, c, d] 28 (0, 0)) := hB45
    have hFF : Only (fun k => a.ownBlock = some k ∨ b.ownBlock = some k ∨ k = bp ∨ lv.ownBlock = some k) wz w45 := ((ho1.mono (fun k _ hF => by rcases hF with hF | hF; exact .inl hF; exact .inr (.inr (.inl hF)))).trans (hR.mono (fun k _ hF => by rcases hF with hF | hF | hF; exact .inr (.inr (.inr hF)); exact .inr (.inl hF); exact hF.elim))).trans (ho45.mono (fun k _ hF => .inr (.inr (.inl hF))))
    have hab30 : ∀ k, v30.ownBlock = some k → ¬ b.ownBlock = some k := fun k hk hF => by
      have h2 := (hT.rb.lt k hF).2
      rcases ha30 k hk with h3 | h3
      · exact hT.ab k h3 hF
      · omega
    have hA2l : ∀ k, v30.ownBlock = some k → ¬ lv.ownBlock = some k := fun k hk hl => own_row_off hrA hrL (by decide) k hl hk
    have hrA2 := own_only (own_only hrA hR (fun k hk hF => by rcases hF with hF | hF | hF; exact hA2l k hk hF; exact hab30 k hk hF; exact hF)) ho45 (fun k hk he => by subst he; exact own_off hrA hB32 (by decide) hk)
    have hrB3 := own_only hrB2 ho45 (fun k hk he => by subst he; exact own_off hrB2 hcm (by decide) hk)
    have hG2 := hG.keep ho45 (fun k hk he => by subst he; rcases hk with hk | hk; exact hpl hk; omega)
    refine WL.nil ?_
    refine ret0 rfl ?_
    have hwzd := ho1.size
    obtain ⟨hT', hBF'⟩ := hT.addN hFF hB45 hrA2 hrB3 (fun k hk => ⟨(hr.lt k hk).2, hnv k hk⟩) ha30 (fun k hk => by rcases hb2 with hb | ⟨g, hg, hb⟩; rw [hb] at hk; exact .inl hk; rw [hb] at hk; cases hk; exact .inr (by omega)) (fun k hk => (hG2.2.2 k hk).imp (fun h => h) (fun h => by omega)) (fun k hk hk2 => by rcases hb2 with hb | ⟨g, hg, hb⟩; rw [hb] at hk2; exact hab30 k hk hk2; rw [hb] at hk2; cases hk2; have := hal30 k hk; have := hxd.size; omega) ⟨L.length, by omega, hG2.2.1⟩ ⟨L.length + 1, by omega, hG2.1⟩
    refine ⟨_, _, _, _, hT', ?_, fun k hk => ?_⟩
    · refine (hx.trans' ho (fun _ h => h.elim) (fun k _ hk => .inr hk)).trans' hFF (fun _ h => h) (fun k hk hF => ?_)
      rcases hF with hF | hF | rfl | hF
      · exact .inl (.inr (.inl hF))
      · exact .inl (.inr (.inr (.inl hF)))
      · exact .inl (.inl rfl)
      · exact .inr hF
    · rcases hBF' k hk with h1 | h1 | h1
      · exact .inl h1
      · exact .inr (.inl h1)
      · have := hx.size; exact .inr (.inr (by omega))
end Go.Proofs.YtgmjfcekeglhjaaDoor

set_option linter.unusedSimpArgs false
set_option linter.unusedVariables false
set_option maxRecDepth 100000
namespace Go.Proofs.YtgmjfcekeglhjaaDoor
open Go Go.Vc Go.RowKit Go.Proofs

def mkV (x : Mk) : List Value := [.int .i64 x.kind, .int .u64 (x.n : Int), .int .i64 x.par, .int .i64 x.k]
def mks (A : List Mk) : List Value := A.flatMap mkV
structure RArM (w : World) (B p : Nat) (lv : Value) (A : List Mk) : Prop where
  cell : w.heap[p]? = some (.cells #[lv] 41 (0, 0))
  row : w.ownsRow B 99 4 lv A.length (mks A)
  hp : B ≤ p
  good : Good A
theorem RArM.only {w w' : World} {F : Nat → Prop} {B p : Nat} {lv : Value} {A : List Mk} (h : RArM w B p lv A) (ho : Only F w w') (h1 : ¬ F p) (h2 : ∀ k, lv.ownBlock = some k → ¬ F k) : RArM w' B p lv A :=
  ⟨ho.blk h.cell h1, own_only h.row ho h2, h.hp, h.good⟩
theorem RArM.ext {w w' : World} {B p : Nat} {lv : Value} {A : List Mk} (h : RArM w B p lv A) (ho : Ext w w') : RArM w' B p lv A := h.only ho (fun h => h) (fun _ _ h => h)
theorem RArM.szB {w : World} {B p : Nat} {lv : Value} {A : List Mk} (h : RArM w B p lv A) : B ≤ w.heap.size := by
  have := (Array.getElem?_eq_some_iff.1 h.cell).1
  have := h.hp
  omega
/-- a node and all below it are right -/
def okT (A : List Mk) : Nat → Nat → Prop
  | 0, _ => False
  | f + 1, i => rightN ⟨(A.getD i ⟨0, 0, 0, 0⟩).kind, (A.getD i ⟨0, 0, 0, 0⟩).n, (kidsN A i : Int)⟩ = true ∧ ∀ k, k < kidsN A i → ∃ j, kidAt A 0 i (k : Int) = some j ∧ okT A f j
theorem kidAt_up {A : List Mk} (hg : Good A) {i j : Nat} {k : Int} (h : kidAt A 0 i k = some j) : i < j ∧ j < A.length := by
  obtain ⟨-, x, hx, hp, -⟩ := kidAt_some A 0 i k j h
  rw [Nat.sub_zero] at hx
  have hl := (List.getElem?_eq_some_iff.1 hx).1
  refine ⟨?_, hl⟩
  by_cases h0 : 0 < j
  · have := (hg.up j x hx h0).2.1; omega
  · have : j = 0 := by omega
    subst this
    have := hg.root x hx
    omega
theorem ok_fuel {A : List Mk} (hg : Good A) : ∀ (f g i : Nat), A.length ≤ f + i → A.length ≤ g + i → i < A.length → okT A f i → okT A g i ∧ told A f i = told A g i
  | 0, g, i, h1, _, h3, _ => by omega
  | _, 0, i, _, h2, h3, _ => by omega
  | f + 1, g + 1, i, h1, h2, h3, h => by
    obtain ⟨h4, h5⟩ := h
    have key : ∀ k, k < kidsN A i → ∃ j, kidAt A 0 i (k : Int) = some j ∧ okT A g j ∧ told A f j = told A g j := fun k hk => by
      obtain ⟨j, h6, h7⟩ := h5 k hk
      obtain ⟨h8, h9⟩ := kidAt_up hg h6
      obtain ⟨h10, h11⟩ := ok_fuel hg f g j (by omega) (by omega) h9 h7
      exact ⟨j, h6, h10, h11⟩
    refine ⟨⟨h4, fun k hk => by obtain ⟨j, h6, h7, -⟩ := key k hk; exact ⟨j, h6, h7⟩⟩, ?_⟩
    rw [told, told]
    congr 1
    refine fm_same (fun j hj => ?_)
    obtain ⟨k, hk, rfl⟩ := List.mem_map.1 hj
    obtain ⟨j, h6, -, h7⟩ := key k (List.mem_range.1 hk)
    rw [kidO, h6]
    exact h7
theorem ok_step {A : List Mk} (hg : Good A) {i : Nat} (hi : i < A.length) : okT A A.length i ↔ rightN ⟨(A.getD i ⟨0, 0, 0, 0⟩).kind, (A.getD i ⟨0, 0, 0, 0⟩).n, (kidsN A i : Int)⟩ = true ∧ ∀ k, k < kidsN A i → ∃ j, kidAt A 0 i (k : Int) = some j ∧ okT A A.length j := by
  obtain ⟨m, hm⟩ : ∃ m, A.length = m + 1 := ⟨A.length - 1, by omega⟩
  have e : okT A A.length i = okT A (m + 1) i := by rw [hm]
  rw [e, okT]
  refine and_congr_right (fun _ => forall_congr' (fun k => imp_congr_right (fun _ => exists_congr (fun j => and_congr_right (fun hj => ?_)))))
  obtain ⟨h1, h2⟩ := kidAt_up hg hj
  exact ⟨fun h => (ok_fuel hg m A.length j (by omega) (by omega) h2 h).1, fun h => (ok_fuel hg A.length m j (by omega) (by omega) h2 h).1⟩
theorem told_ok {A : List Mk} (hg : Good A) {i : Nat} (hi : i < A.length) (h : okT A A.length i) : told A A.length i = ⟨(A.getD i ⟨0, 0, 0, 0⟩).kind, (A.getD i ⟨0, 0, 0, 0⟩).n, (kidsN A i : Int)⟩ :: (kidL A i).flatMap (told A A.length) := by
  obtain ⟨m, hm⟩ : ∃ m, A.length = m + 1 := ⟨A.length - 1, by omega⟩
  have h2 := ((ok_step hg hi).1 h).2
  have e : told A A.length i = told A (m + 1) i := by rw [hm]
  rw [e, told]
  congr 1
  refine fm_same (fun j hj => ?_)
  obtain ⟨k, hk, rfl⟩ := List.mem_map.1 hj
  obtain ⟨j, h6, h7⟩ := h2 k (List.mem_range.1 hk)
  obtain ⟨h8, h9⟩ := kidAt_up hg h6
  rw [kidO, h6]
  exact ((ok_fuel hg A.length m j (by omega) (by omega) h9 h7).2).symm
end Go.Proofs.YtgmjfcekeglhjaaDoor

set_option linter.unusedSimpArgs false
set_option linter.unusedVariables false
set_option maxRecDepth 100000
namespace Go.Proofs.YtgmjfcekeglhjaaDoor
open Go Go.Vc Go.RowKit Go.Proofs

def RF (p : Nat) (lv : Value) (k : Nat) : Prop := k = p ∨ lv.ownBlock = some k
theorem RArM.lt {w : World} {B p : Nat} {lv : Value} {A : List Mk} (h : RArM w B p lv A) {j : Nat} (hj : RF p lv j) : B ≤ j ∧ j < w.heap.size := by
  rcases hj with rfl | hj
  · exact ⟨h.hp, (Array.getElem?_eq_some_iff.1 h.cell).1⟩
  · exact h.row.lt j hj
end Go.Proofs.YtgmjfcekeglhjaaDoor

set_option linter.unusedSimpArgs false
set_option linter.unusedVariables false
set_option maxRecDepth 100000
namespace Go.Proofs.YtgmjfcekeglhjaaDoor
open Go Go.Vc Go.RowKit Go.Proofs

/-- x stands at i or below it -/
inductive Und (A : List Mk) (i : Nat) : Nat → Prop
  | here : Und A i i
  | down {p x : Nat} {m : Mk} : Und A i p → A[x]? = some m → m.par = (p : Int) → Und A i x
theorem par_lt {A : List Mk} (hg : Good A) {x p : Nat} {m : Mk} (hx : A[x]? = some m) (hp : m.par = (p : Int)) : p < x := by
  by_cases h0 : 0 < x
  · have := (hg.up x m hx h0).2.1; omega
  · have : x = 0 := by omega
    subst this
    have := hg.root m hx
    omega
theorem Und.le {A : List Mk} (hg : Good A) {i x : Nat} (h : Und A i x) : i ≤ x := by
  induction h with
  | here => exact Nat.le_refl _
  | down _ hx hp ih => have := par_lt hg hx hp; omega
theorem Und.tr {A : List Mk} {i j x : Nat} (h1 : Und A i j) (h2 : Und A j x) : Und A i x := by
  induction h2 with
  | here => exact h1
  | down _ hx hp ih => exact .down ih hx hp
theorem Und.one {A : List Mk} (hg : Good A) {p a b : Nat} {ma mb : Mk} (ha : A[a]? = some ma) (hpa : ma.par = (p : Int)) (hb : A[b]? = some mb) (hpb : mb.par = (p : Int)) {x : Nat} (h1 : Und A a x) (h2 : Und A b x) : a = b := by
  induction h1 with
  | here =>
    cases h2 with
    | here => rfl
    | down h3 hx hp =>
      rw [ha] at hx
      cases hx
      have := h3.le hg
      have := par_lt hg hb hpb
      omega
  | down h3 hx hp ih =>
    cases h2 with
    | here =>
      rw [hb] at hx
      cases hx
      have := h3.le hg
      have := par_lt hg ha hpa
      omega
    | down h4 hx2 hp2 =>
      rw [hx] at hx2
      cases hx2
      have : (_ : Nat) = _ := Int.ofNat.inj (hp.symm.trans hp2)
      subst this
      exact ih h4
def hdN (A : List Mk) (i : Nat) : Nd := ⟨(A.getD i ⟨0, 0, 0, 0⟩).kind, (A.getD i ⟨0, 0, 0, 0⟩).n, (kidsN A i : Int)⟩
def outK (A : List Mk) (acc : List Nd) (i k : Nat) : List Nd := acc ++ hdN A i :: ((kidL A i).take k).flatMap (told A A.length)
theorem outK_zero (A : List Mk) (acc : List Nd) (i : Nat) : outK A acc i 0 = acc ++ [hdN A i] := by simp [outK]
theorem outK_succ {A : List Mk} (acc : List Nd) {i k j : Nat} (hk : k < kidsN A i) (hj : kidAt A 0 i (k : Int) = some j) : outK A acc i (k + 1) = outK A acc i k ++ told A A.length j := by
  have hl : k < (kidL A i).length := by rw [kidL_len]; exact hk
  have he : (kidL A i)[k] = j := by simp [kidL, kidO, hj]
  rw [outK, List.take_succ_eq_append_getElem hl, he, List.flatMap_append, outK]
  simp
theorem outK_end {A : List Mk} (hg : Good A) (acc : List Nd) {i : Nat} (hi : i < A.length) (h : okT A A.length i) : outK A acc i (kidsN A i) = acc ++ told A A.length i := by
  rw [told_ok hg hi h, outK, List.take_of_length_le (by rw [kidL_len]; exact Nat.le_refl _)]
  rfl
/-- the row on the way -/
structure TRow (A : List Mk) (acc : List Nd) (D : List Nat) (i k B0 : Nat) (v vk : Value) (w : World) : Prop where
  right : rightN (hdN A i) = true
  kids : ∀ k', k' < k → ∃ j, kidAt A 0 i (k' : Int) = some j ∧ okT A A.length j
  row : w.ownsRow 0 69 3 vk (outK A acc i k).length (nds (outK A acc i k))
  blk : ∀ b, vk.ownBlock = some b → v.ownBlock = some b ∨ B0 ≤ b
  vis : ∃ D2 : List Nat, (D ++ D2).length = (outK A acc i k).length ∧ (D ++ D2).Nodup ∧ ∀ x ∈ D2, x < A.length ∧ (x = i ∨ ∃ k', k' < k ∧ ∃ j, kidAt A 0 i (k' : Int) = some j ∧ Und A j x)
theorem kid_at {A : List Mk} {i j : Nat} {k : Int} (h : kidAt A 0 i k = some j) : ∃ m, A[j]? = some m ∧ m.par = (i : Int) ∧ m.k = k := by
  obtain ⟨-, x, hx, hp, hk⟩ := kidAt_some A 0 i k j h
  exact ⟨x, by simpa using hx, hp, hk⟩
theorem TRow.next {A : List Mk} (hg : Good A) {acc : List Nd} {D D2 D3 : List Nat} {i k B0 j : Nat} {v vk rv : Value} {w w' : World} (h : TRow A acc D i k B0 v vk w) (hk : k < kidsN A i) (hj : kidAt A 0 i (k : Int) = some j) (hok : okT A A.length j)
    (hr : w'.ownsRow 0 69 3 rv (outK A acc i k ++ told A A.length j).length (nds (outK A acc i k ++ told A A.length j))) (hb : ∀ b, rv.ownBlock = some b → vk.ownBlock = some b ∨ w.heap.size ≤ b) (hB : B0 ≤ w.heap.size)
    (h3 : ∀ x ∈ D2, x < A.length ∧ (x = i ∨ ∃ k', k' < k ∧ ∃ j, kidAt A 0 i (k' : Int) = some j ∧ Und A j x)) (h4 : ((D ++ D2) ++ D3).length = (outK A acc i k ++ told A A.length j).length) (h5 : ((D ++ D2) ++ D3).Nodup) (h6 : ∀ x ∈ D3, x < A.length ∧ Und A j x) : TRow A acc D i (k + 1) B0 v rv w' := by
  refine ⟨h.right, fun k' hk' => ?_, by rw [outK_succ acc hk hj]; exact hr, fun b h1 => ?_, D2 ++ D3, by rw [outK_succ acc hk hj, ← List.append_assoc]; exact h4, by rw [← List.append_assoc]; exact h5, fun x hx => ?_⟩
  · by_cases he : k' = k
    · subst he; exact ⟨j, hj, hok⟩
    · exact h.kids k' (by omega)
  · rcases hb b h1 with h2 | h2
    · exact h.blk b h2
    · exact .inr (by omega)
  · rcases List.mem_append.1 hx with hx | hx
    · obtain ⟨a1, a2⟩ := h3 x hx
      refine ⟨a1, a2.imp id ?_⟩
      rintro ⟨k', b1, b2⟩
      exact ⟨k', by omega, b2⟩
    · exact ⟨(h6 x hx).1, .inr ⟨k, by omega, j, hj, (h6 x hx).2⟩⟩
theorem TRow.ok {A : List Mk} (hg : Good A) {acc : List Nd} {D : List Nat} {i B0 : Nat} {v vk : Value} {w : World} (hi : i < A.length) (h : TRow A acc D i (kidsN A i) B0 v vk w) : okT A A.length i := (ok_step hg hi).2 ⟨h.right, h.kids⟩
theorem TRow.out {A : List Mk} (hg : Good A) {acc : List Nd} {D : List Nat} {i B0 : Nat} {v vk : Value} {w : World} (hi : i < A.length) (h : TRow A acc D i (kidsN A i) B0 v vk w) :
    w.ownsRow 0 69 3 vk (acc ++ told A A.length i).length (nds (acc ++ told A A.length i)) ∧ (∀ k, vk.ownBlock = some k → v.ownBlock = some k ∨ B0 ≤ k) ∧ ∃ D2 : List Nat, (D ++ D2).length = (acc ++ told A A.length i).length ∧ (D ++ D2).Nodup ∧ ∀ x ∈ D2, x < A.length ∧ Und A i x := by
  have he := outK_end hg acc hi (h.ok hg hi)
  obtain ⟨D2, h1, h2, h3⟩ := h.vis
  refine ⟨he ▸ h.row, h.blk, D2, by rw [h1, he], h2, fun x hx => ⟨(h3 x hx).1, ?_⟩⟩
  rcases (h3 x hx).2 with rfl | ⟨k', -, j, hj, hu⟩
  · exact .here
  · obtain ⟨m, hm, hp, -⟩ := kid_at hj
    exact (Und.down .here hm hp).tr hu
theorem TRow.start {A : List Mk} {acc : List Nd} {D : List Nat} {i B0 : Nat} {v vk : Value} {w : World} (hi : i < A.length) (hr : rightN (hdN A i) = true) (hrow : w.ownsRow 0 69 3 vk (acc ++ [hdN A i]).length (nds (acc ++ [hdN A i]))) (hb : ∀ b, vk.ownBlock = some b → v.ownBlock = some b ∨ B0 ≤ b) (hDl : D.length = acc.length) (hDn : D.Nodup) (hD : ∀ x ∈ D, x < A.length ∧ ¬ Und A i x) : TRow A acc D i 0 B0 v vk w := by
  refine ⟨hr, fun k' hk => absurd hk (Nat.not_lt_zero _), by rw [outK_zero]; exact hrow, hb, [i], by rw [outK_zero, List.length_append, List.length_append, hDl]; rfl, ?_, fun x hx => ?_⟩
  · rw [List.nodup_append]
    refine ⟨hDn, by simp, fun a ha b hb he => ?_⟩
    rw [List.mem_singleton] at hb
    subst he hb
    exact (hD _ ha).2 .here
  · rw [List.mem_singleton] at hx
    subst hx
    exact ⟨hi, .inl rfl⟩
theorem TRow.keep {A : List Mk} {acc : List Nd} {D : List Nat} {i k B0 : Nat} {v vk : Value} {w w' : World} (h : TRow A acc D i k B0 v vk w) (ho : Ext w w') : TRow A acc D i k B0 v vk w' := ⟨h.right, h.kids, own_ext h.row ho, h.blk, h.vis⟩
end Go.Proofs.YtgmjfcekeglhjaaDoor

set_option linter.unusedSimpArgs false
set_option linter.unusedVariables false
set_option maxRecDepth 100000
namespace Go.Proofs.YtgmjfcekeglhjaaDoor
open Go Go.Vc Go.RowKit Go.Proofs

section
variable {P : Program} {e : Env} {w : World} {K : Value → World → Prop} {ty : TypeId}
end
/-- what kind of block stands there -/
def kindAt (w : World) (k : Nat) : Option (Option TypeId) := match w.heap[k]? with | some (.cells _ T _) => some (some T) | some _ => some none | none => none
def Typed (w : World) (G : Nat → Prop) (ts : List (Option TypeId)) : Prop := ∀ k, G k → ∃ T ∈ ts, kindAt w k = some T
theorem Typed.off {w : World} {G G' : Nat → Prop} {ts ts' : List (Option TypeId)} (h : Typed w G ts) (h' : Typed w G' ts') (hd : (ts.all fun T => !ts'.contains T) = true) : ∀ k, G k → ¬ G' k := fun k hk hk' => by
  obtain ⟨T, h1, h2⟩ := h k hk
  obtain ⟨T', h3, h4⟩ := h' k hk'
  rw [h2] at h4
  cases h4
  have := List.all_eq_true.1 hd T h1
  simp [h3] at this
theorem Typed.row {w : World} {base : Nat} {el : TypeId} {s n : Nat} {v : Value} {xs : List Value} (h : w.ownsRow base el s v n xs) : Typed w (fun k => v.ownBlock = some k) [some el] := fun k hk => by
  obtain ⟨cap, cur, -, -, hb, -⟩ := own_blk h hk
  exact ⟨_, List.mem_singleton.2 rfl, by rw [kindAt, hb]⟩
theorem Typed.cell {w : World} {b : Nat} {cs : Array Value} {T : TypeId} {fr : Nat × Nat} (h : w.heap[b]? = some (.cells cs T fr)) : Typed w (fun k => k = b) [some T] := fun k hk => by
  subst hk
  exact ⟨_, List.mem_singleton.2 rfl, by rw [kindAt, h]⟩
theorem Typed.map {P : Program} {k e : TypeId} {α : Type} {en : α → Lit} {w : World} {b n : Nat} {g : α → Option Int} (h : MapIs P k e en w b n g) : Typed w (fun k => k = b) [none] := fun k hk => by
  subst hk
  obtain ⟨D, ⟨es, clock, hb, r⟩, r2⟩ := h
  exact ⟨_, List.mem_singleton.2 rfl, by rw [kindAt, hb]⟩
theorem Typed.sub {w : World} {G : Nat → Prop} {ts ts' : List (Option TypeId)} (h : Typed w G ts) (hs : (ts.all fun T => ts'.contains T) = true) {k : Nat} (hk : G k) : ∃ T ∈ ts', kindAt w k = some T := by
  obtain ⟨T, h1, h2⟩ := h k hk
  exact ⟨T, by simpa using List.all_eq_true.1 hs T h1, h2⟩
def tyA : List (Option TypeId) := [some 89, some 92, none]
def tyV : List (Option TypeId) := [some 37, some 89, some 92, none]
def tyR : List (Option TypeId) := [some 42, some 41, some 99]
def tyB : List (Option TypeId) := [some 28, some 30, some 75, some 69, some 3]
theorem ArM.typed {w : World} {B p mb : Nat} {cv : Value} {A : List Mk} (h : ArM w B p mb cv A) : Typed w (AF p mb cv) tyA := fun k hk => by
  rcases hk with rfl | rfl | hk
  · exact (Typed.cell h.cell).sub (ts' := tyA) (by decide) rfl
  · exact (Typed.map h.map).sub (ts' := tyA) (by decide) rfl
  · exact (Typed.row h.row).sub (ts' := tyA) (by decide) hk
theorem RArM.typed {w : World} {B p : Nat} {lv : Value} {A : List Mk} (h : RArM w B p lv A) : Typed w (RF p lv) [some 41, some 99] := fun k hk => by
  rcases hk with rfl | hk
  · exact (Typed.cell h.cell).sub (by decide) rfl
  · exact (Typed.row h.row).sub (by decide) hk
theorem Bk.typed {w : World} {bp : Nat} {a b c d : Value} {nl np : Nat} {VA VB VC VD : Nat → Value} (h : Bk w bp a b c d nl np VA VB VC VD) : Typed w (BF bp a b c d nl np VA VB VC VD) tyB := fun k hk => by
  rcases hk with rfl | hk | hk | hk | hk | ⟨j, hj, hk | hk⟩ | ⟨j, hj, hk | hk⟩
  · exact (Typed.cell h.cell).sub (ts' := tyB) (by decide) rfl
  · exact (Typed.row h.ra).sub (ts' := tyB) (by decide) hk
  · exact (Typed.row h.rb).sub (ts' := tyB) (by decide) hk
  · exact (Typed.row h.rc).sub (ts' := tyB) (by decide) hk
  · exact (Typed.row h.rd).sub (ts' := tyB) (by decide) hk
  · obtain ⟨m, -, hr⟩ := h.la j hj; exact (Typed.row hr).sub (ts' := tyB) (by decide) hk
  · obtain ⟨m, -, hr⟩ := h.lb j hj; exact (Typed.row hr).sub (ts' := tyB) (by decide) hk
  · obtain ⟨m, -, hr⟩ := h.lc j hj; exact (Typed.row hr).sub (ts' := tyB) (by decide) hk
  · obtain ⟨m, -, hr⟩ := h.ld j hj; exact (Typed.row hr).sub (ts' := tyB) (by decide) hk
def VF (b : Nat) (p mb : Nat → Nat) (cv : Nat → Value) (k : Nat) : Prop := k = b ∨ AF (p 0) (mb 0) (cv 0) k ∨ AF (p 1) (mb 1) (cv 1) k
/-- the two arenas -/
structure VS (w : World) (B b : Nat) (p mb : Nat → Nat) (cv : Nat → Value) (AL : Nat → List Mk) : Prop where
  cell : w.heap[b]? = some (.cells #[.pointer (some ⟨p 0, 0, none⟩), .pointer (some ⟨p 1, 0, none⟩)] 37 (0, 0))
  ge : B ≤ b
  ar : ∀ j, j < 2 → ArM w B (p j) (mb j) (cv j) (AL j)
  sep : ∀ k, AF (p 0) (mb 0) (cv 0) k → ¬ AF (p 1) (mb 1) (cv 1) k
def RF2 (b : Nat) (q : Nat → Nat) (lv : Nat → Value) (k : Nat) : Prop := k = b ∨ RF (q 0) (lv 0) k ∨ RF (q 1) (lv 1) k
structure RS (w : World) (B b : Nat) (q : Nat → Nat) (lv : Nat → Value) (AL : Nat → List Mk) : Prop where
  cell : w.heap[b]? = some (.cells #[.pointer (some ⟨q 0, 0, none⟩), .pointer (some ⟨q 1, 0, none⟩)] 42 (0, 0))
  ge : B ≤ b
  ar : ∀ j, j < 2 → RArM w B (q j) (lv j) (AL j)
  sep : ∀ k, RF (q 0) (lv 0) k → ¬ RF (q 1) (lv 1) k
theorem two {C : Nat → Prop} (h0 : C 0) (h1 : C 1) : ∀ j, j < 2 → C j := fun j hj => by
  obtain rfl | rfl : j = 0 ∨ j = 1 := by omega
  · exact h0
  · exact h1
section
variable {w w' : World} {B b b2 : Nat} {p mb q : Nat → Nat} {cv lv : Nat → Value} {AL AL2 : Nat → List Mk} {F : Nat → Prop}
theorem VS.only (h : VS w B b p mb cv AL) (ho : Only F w w') (hF : ∀ k, VF b p mb cv k → ¬ F k) : VS w' B b p mb cv AL :=
  ⟨ho.blk h.cell (hF b (.inl rfl)), h.ge, two ((h.ar 0 (by decide)).only ho (fun k hk => hF k (.inr (.inl hk)))) ((h.ar 1 (by decide)).only ho (fun k hk => hF k (.inr (.inr hk)))), h.sep⟩
theorem VS.ext (h : VS w B b p mb cv AL) (ho : Ext w w') : VS w' B b p mb cv AL := h.only ho (fun _ _ h => h)
theorem RS.only (h : RS w B b q lv AL) (ho : Only F w w') (hF : ∀ k, RF2 b q lv k → ¬ F k) : RS w' B b q lv AL :=
  ⟨ho.blk h.cell (hF b (.inl rfl)), h.ge, two ((h.ar 0 (by decide)).only ho (hF (q 0) (.inr (.inl (.inl rfl)))) (fun k hk => hF k (.inr (.inl (.inr hk))))) ((h.ar 1 (by decide)).only ho (hF (q 1) (.inr (.inr (.inl rfl)))) (fun k hk => hF k (.inr (.inr (.inr hk))))), h.sep⟩
theorem RS.ext (h : RS w B b q lv AL) (ho : Ext w w') : RS w' B b q lv AL := h.only ho (fun _ _ h => h)
theorem VS.typed (h : VS w B b p mb cv AL) : Typed w (VF b p mb cv) tyV := fun k hk => by
  rcases hk with hk | hk | hk
  · exact (Typed.cell h.cell).sub (ts' := tyV) (by decide) hk
  · exact (h.ar 0 (by decide)).typed.sub (ts' := tyV) (by decide) hk
  · exact (h.ar 1 (by decide)).typed.sub (ts' := tyV) (by decide) hk
theorem RS.typed (h : RS w B b q lv AL) : Typed w (RF2 b q lv) tyR := fun k hk => by
  rcases hk with hk | hk | hk
  · exact (Typed.cell h.cell).sub (ts' := tyR) (by decide) hk
  · exact (h.ar 0 (by decide)).typed.sub (ts' := tyR) (by decide) hk
  · exact (h.ar 1 (by decide)).typed.sub (ts' := tyR) (by decide) hk
theorem VS.lt (h : VS w B b p mb cv AL) : ∀ k, VF b p mb cv k → B ≤ k ∧ k < w.heap.size := fun k hk => by
  rcases hk with rfl | hk | hk
  · exact ⟨h.ge, (Array.getElem?_eq_some_iff.1 h.cell).1⟩
  · exact (h.ar 0 (by decide)).lt k hk
  · exact (h.ar 1 (by decide)).lt k hk
theorem RS.lt (h : RS w B b q lv AL) : ∀ k, RF2 b q lv k → B ≤ k ∧ k < w.heap.size := fun k hk => by
  rcases hk with rfl | hk | hk
  · exact ⟨h.ge, (Array.getElem?_eq_some_iff.1 h.cell).1⟩
  · exact (h.ar 0 (by decide)).lt hk
  · exact (h.ar 1 (by decide)).lt hk
def putF {α : Type} (f : Nat → α) (i : Nat) (x : α) (j : Nat) : α := if j = i then x else f j
theorem VS.put (h : VS w B b p mb cv AL) {i : Nat} (hi : i < 2) {cv2 : Value} {A2 : List Mk} (ho : Only (AF (p i) (mb i) (cv i)) w w') (ha : ArM w' B (p i) (mb i) cv2 A2) (hb : ∀ k, cv2.ownBlock = some k → (cv i).ownBlock = some k ∨ w.heap.size ≤ k) : VS w' B b p mb (putF cv i cv2) (putF AL i A2) := by
  have hlt := h.lt
  have hcb : ¬ AF (p i) (mb i) (cv i) b := fun hF => Typed.off (h.ar i hi).typed (Typed.cell h.cell) (by decide) b hF rfl
  have hcell := ho.blk h.cell hcb
  have hnew : ∀ k, AF (p i) (mb i) cv2 k → AF (p i) (mb i) (cv i) k ∨ w.heap.size ≤ k := fun k hk => by
    rcases hk with hk | hk | hk
    · exact .inl (.inl hk)
    · exact .inl (.inr (.inl hk))
    · exact (hb k hk).imp (fun h => .inr (.inr h)) id
  obtain rfl | rfl : i = 0 ∨ i = 1 := by omega
  · refine ⟨hcell, h.ge, two ha ((h.ar 1 (by decide)).only ho (fun k hk hF => h.sep k hF hk)), fun k hk hk2 => ?_⟩
    rcases hnew k hk with h1 | h1
    · exact h.sep k h1 hk2
    · have := (hlt k (.inr (.inr hk2))).2; omega
  · refine ⟨hcell, h.ge, two ((h.ar 0 (by decide)).only ho (fun k hk hF => h.sep k hk hF)) ha, fun k hk hk2 => ?_⟩
    rcases hnew k hk2 with h1 | h1
    · exact h.sep k hk h1
    · have := (hlt k (.inr (.inl hk))).2; omega
theorem RS.put (h : RS w B b q lv AL) {i : Nat} (hi : i < 2) {lv2 : Value} {A2 : List Mk} (ho : Only (RF (q i) (lv i)) w w') (ha : RArM w' B (q i) lv2 A2) (hb : ∀ k, lv2.ownBlock = some k → (lv i).ownBlock = some k ∨ w.heap.size ≤ k) : RS w' B b q (putF lv i lv2) (putF AL i A2) := by
  have hlt := h.lt
  have hcb : ¬ RF (q i) (lv i) b := fun hF => Typed.off (h.ar i hi).typed (Typed.cell h.cell) (by decide) b hF rfl
  have hcell := ho.blk h.cell hcb
  have hnew : ∀ k, RF (q i) lv2 k → RF (q i) (lv i) k ∨ w.heap.size ≤ k := fun k hk => by
    rcases hk with hk | hk
    · exact .inl (.inl hk)
    · exact (hb k hk).imp (fun h => .inr h) id
  have keep : ∀ j, j < 2 → j ≠ i → RArM w' B (q j) (lv j) (AL j) := fun j hj hne => (h.ar j hj).only ho (fun hF => by
      obtain ⟨rfl, rfl⟩ | ⟨rfl, rfl⟩ : j = 0 ∧ i = 1 ∨ j = 1 ∧ i = 0 := by omega
      · exact h.sep _ (.inl rfl) hF
      · exact h.sep _ hF (.inl rfl)) (fun k hk hF => by
      obtain ⟨rfl, rfl⟩ | ⟨rfl, rfl⟩ : j = 0 ∧ i = 1 ∨ j = 1 ∧ i = 0 := by omega
      · exact h.sep k (.inr hk) hF
      · exact h.sep k hF (.inr hk))
  obtain rfl | rfl : i = 0 ∨ i = 1 := by omega
  · refine ⟨hcell, h.ge, two ha (keep 1 (by decide) (by decide)), fun k hk hk2 => ?_⟩
    rcases hnew k hk with h1 | h1
    · exact h.sep k h1 hk2
    · have := (hlt k (.inr (.inr hk2))).2; omega
  · refine ⟨hcell, h.ge, two (keep 0 (by decide) (by decide)) ha, fun k hk hk2 => ?_⟩
    rcases hnew k hk2 with h1 | h1
    · exact h.sep k hk h1
    · have := (hlt k (.inr (.inl hk))).2; omega
end
theorem ArM.mono {w : World} {B B2 p mb : Nat} {cv : Value} {A : List Mk} (h : ArM w B p mb cv A) (hB : B2 ≤ B) : ArM w B2 p mb cv A := ⟨h.cell, own_mono h.row hB, h.map, Nat.le_trans hB h.hp, Nat.le_trans hB h.hm, h.good⟩
section
variable {H : Type} {enc : TypeId × Value → H} {P : Program} {W : World} {held : Bool}
theorem six_cells {cs : List Value} (h : cs.length = 6) : ∃ a b c d e f, cs = [a, b, c, d, e, f] := by
  match cs, h with
  | [a, b, c, d, e, f], _ => exact ⟨a, b, c, d, e, f, rfl⟩
end

end Go.Proofs.YtgmjfcekeglhjaaDoor

set_option linter.unusedSimpArgs false
set_option linter.unusedVariables false
set_option maxRecDepth 100000
namespace Go.Proofs.YtgmjfcekeglhjaaDoor
open Go Go.Vc Go.RowKit Go.Proofs

theorem rep_step {xs : List Value} {u : Value} {k : Nat} (h : k < xs.length) : (List.replicate k u ++ xs.drop k).set k u = List.replicate (k + 1) u ++ xs.drop (k + 1) := by
  rw [← List.getElem_cons_drop h, List.set_append_right _ _ (by simp), List.length_replicate, Nat.sub_self, List.set_cons_zero, List.replicate_succ']
  simp
/-- the longer list, and the list itself -/
def GvI (lv : Value) (B n : Nat) (q : Nat) (v : Value) (w : World) : Prop := w.ownsRow 0 3 1 v (n + 1) (List.replicate (n + 1) (.int .i64 (-1 - (q : Int)))) ∧ w.ownsRow 0 3 1 lv n (List.replicate n (.int .i64 (-1 - (q : Int)))) ∧ ∀ k, v.ownBlock = some k → lv.ownBlock = some k ∨ B ≤ k
theorem GvI.keep {lv : Value} {B n q : Nat} {v : Value} {w w' : World} {F : Nat → Prop} (h : GvI lv B n q v w) (ho : Only F w w') (hn : ∀ k, (lv.ownBlock = some k ∨ B ≤ k) → ¬ F k) : GvI lv B n q v w' :=
  ⟨own_only h.1 ho (fun k hk => hn k (h.2.2 k hk)), own_only h.2.1 ho (fun k hk => hn k (.inl hk)), h.2.2⟩

set_option maxHeartbeats 8000000 in
theorem bints_spec (bp : Nat) (a b c d : Value) (nl np : Nat) (VA VB VC VD : Nat → Value) (w0 : World) (h : Bk w0 bp a b c d nl np VA VB VC VD) (hnp : np ≤ 1000000) (lv : Value) (L : List Nat) (hv : w0.ownsRow 0 3 1 lv L.length (ints L)) (hl : L.length ≤ 2000000) (hnv : ∀ k, lv.ownBlock = some k → ¬ BF bp a b c d nl np VA VB VC VD k) : Ca Tryd.prog 58 #[.pointer (some ⟨bp, 0, none⟩), lv] w0 (fun _ w' => ∃ c' d' VC' VD', Bk w' bp a b c' d' nl (np + 1) VA VB VC' VD' ∧ Only (fun k => BF bp a b c d nl np VA VB VC VD k ∨ lv.ownBlock = some k) w0 w' ∧ ∀ k, BF bp a b c' d' nl (np + 1) VA VB VC' VD' k → BF bp a b c d nl np VA VB VC VD k ∨ lv.ownBlock = some k ∨ w0.heap.size ≤ k) := by
  have h00 := h
  have hv00 := hv
  refine Ca.of Tryd.func58 Tryd.ntmps58 rfl rfl ?_
  refine W.seq ?_
  refine W.region ?_
  refine WL.c rfl (o_mvh (by first | exact (show _ = Value.pointer _ from rfl) | exact rfl) ?_)
  refine WL.c rfl (o_nil rfl ?_)
  refine WL.c rfl (o_fa 2 TI28 rfl TI26 rfl rfl ?_)
  refine WL.c rfl (o_ld TI26 rfl rfl (cell_of h.cell rfl) ?_)
  refine WL.c rfl (o_lenR TI26 rfl (Sl.own h.rc) ?_)
  refine WL.c rfl (o_subi rfl rfl (by omega) ?_)
  refine WL.c rfl (o_ash (show _ = Value.int _ _ from rfl) ?_)
  refine WL.nil ?_
  refine W.seq ?_
  refine W.seq ?_
  refine W.region ?_
  refine WL.c rfl (o_ash (show _ = Value.int _ _ from rfl) ?_)
  refine WL.nil ?_
  refine W.block ?_
  refine W.loop (fun e w => ∃ k : Nat, k ≤ L.length ∧ e 0 = .pointer (some ⟨bp, 0, none⟩) ∧ e 1 = lv ∧ e 4 = Value.int .i64 (-1 - (np : Int)) ∧ e 5 = .int .i64 (k : Int) ∧ w.ownsRow 0 3 1 lv L.length (List.replicate k (Value.int .i64 (-1 - (np : Int))) ++ (ints L).drop k) ∧ Only (fun j => lv.ownBlock = some j) w0 w) (fun e w => L.length - (intOf (e 5)).toNat) ?_ ?_
  · exact ⟨0, Nat.zero_le _, rfl, rfl, rfl, rfl, by simpa using hv, Only.refl _ _⟩
  rintro e w ⟨k, hk, h0, h1, h4, h5, hr, ho⟩
  have hm5 := h5
  have hil : (ints L).length = L.length := by simp [ints]
  refine W.seq ?_
  refine W.seq ?_
  refine W.region ?_
  refine WL.c rfl (o_mvh h5 ?_)
  refine WL.c rfl (o_mvh h1 ?_)
  refine WL.c rfl (o_lenR TI75 rfl (Sl.own hr) ?_)
  refine WL.c rfl (o_lt rfl rfl ?_)
  refine WL.nil ?_
  refine W.cond rfl (fun c15 => ?_) (fun c15 => ?_)
  · try simp only [decide_eq_true_eq, decide_eq_false_iff_not, Bool.not_eq_true', Bool.not_eq_false', Bool.and_eq_true, Bool.or_eq_true, Bool.and_eq_false_iff, Bool.or_eq_false_iff] at c15
    have hk1 : k < L.length := by omega
    obtain ⟨vg, vc, hve, hvg⟩ := own_some hr (by omega)
    rw [hve] at h1
    refine W.skip ?_
    refine W.seq ?_
    refine W.block ?_
    refine W.region ?_
    refine WL.c rfl (o_mvh h1 ?_)
    refine WL.c rfl (o_mvh h5 ?_)
    refine WL.c rfl (o_mvh h4 ?_)
    refine WL.c rfl (o_ixB (i := k) TI75 TI3 (show _ = Value.slice (some ⟨vg, 0, none⟩) L.length vc from by first | rfl | assumption) (show _ = Value.int .i64 (k : Int) from by first | rfl | assumption) (by omega) ?_)
    refine WL.u (o_stRj TI3 rfl (show 0 + k * 1 = k by omega) (show _ = Value.int .i64 (-1 - (np : Int)) from by first | rfl | assumption) rfl hr hvg (by omega) ?_)
    intro w21 hr21 ho21 hs21
    have hr2 : w21.ownsRow 0 3 1 lv L.length (List.replicate (k + 1) (Value.int .i64 (-1 - (np : Int))) ++ (ints L).drop (k + 1)) := by rw [← rep_step (by omega)]; exact hr21
    replace ho := ho.trans' ho21 (fun _ h => h) (fun _ _ h => h)
    refine WL.nil ?_
    refine W.region ?_
    refine WL.c rfl (o_mvh h5 ?_)
    refine WL.c rfl (o_addi rfl rfl (by omega) ?_)
    refine WL.c rfl (o_ash (show _ = Value.int _ _ from rfl) ?_)
    refine WL.nil ?_
    refine ⟨⟨k + 1, by omega, h0, h1.trans hve.symm, h4, rfl, hr2, ho⟩, ?_⟩
    show L.length - ((k : Int) + 1).toNat < _
    rw [hm5]; simp [intOf]; omega
  · try simp only [decide_eq_true_eq, decide_eq_false_iff_not, Bool.not_eq_true', Bool.not_eq_false', Bool.and_eq_true, Bool.or_eq_true, Bool.and_eq_false_iff, Bool.or_eq_false_iff] at c15
    obtain rfl : k = L.length := by omega
    rw [← hil, List.drop_length, List.append_nil, hil] at hr
    refine W.exit ?_
    refine W.seq ?_
    have hT : Bk w bp a b c d nl np VA VB VC VD := h.only ho (fun k hk hF => hnv k hF hk)
    obtain ⟨wz, rfl⟩ : ∃ wz, wz = w := ⟨_, rfl⟩
    refine W.region ?_
    refine WL.c rfl (o_mvh h0 ?_)
    refine WL.c rfl (o_mvh h0 ?_)
    refine WL.c rfl (o_nil rfl ?_)
    refine WL.c rfl (o_fa 2 TI28 rfl TI26 rfl rfl ?_)
    refine WL.c rfl (o_ld TI26 rfl rfl (cell_of hT.cell rfl) ?_)
    refine WL.c rfl (o_mvh h1 ?_)
    refine WL.apO (0) rfl rfl TI26 TI75 (show _ = lv from rfl) rfl hT.rc (by decide) (by decide) (by rw [own_cells hr]; rfl) (one1 (own_one hr)) rfl (by rw [maxLen_eq]; omega) (by omega) (Nat.zero_le _) ?_
    intro v30 w30 h30 ho30 hb30 hk30
    have hcell30 := ho30.blk hT.cell (own_off hT.rc hT.cell (by decide))
    replace h30 : w30.ownsRow 0 75 1 v30 (np + 1) (vals VC np ++ [lv]) := by rw [own_cells hr] at h30; exact h30
    refine WL.c rfl (o_nil rfl ?_)
    refine WL.c rfl (o_fa 2 TI28 rfl TI26 rfl rfl ?_)
    refine WL.u (o_stB TI26 rfl (show _ = v30 from rfl) (own_one h30) hcell30 (show 2 < 4 by decide) ?_)
    intro w32 hB32 ho32 hs32
    replace hB32 : w32.heap[bp]? = some (.cells #[a, b, v30, d] 28 (0, 0)) := hB32
    have ho1 : Only (fun k => c.ownBlock = some k ∨ k = bp) wz w32 := (ho30.mono (fun _ _ h => .inl h)).trans (ho32.mono (fun _ _ h => .inr h))
    have hrA := own_only h30 ho32 (fun k hk he => by subst he; exact own_off h30 hcell30 (by decide) hk)
    have hrB := own_only hT.rd ho1 (fun k hk hF => by rcases hF with hF | rfl; exact hT.cd k hF hk; exact own_off hT.rd hT.cell (by decide) hk)
    have hrL := own_only hr ho1 (fun k hk hF => by rcases hF with hF | rfl; exact own_row_off hT.rc hr (by decide) k hk hF; exact own_off hr hT.cell (by decide) hk)
    have ha30 : ∀ k, v30.ownBlock = some k → c.ownBlock = some k ∨ wz.heap.size ≤ k := fun k hk => by
      rcases hb30 with hb | hb
      · rw [hb] at hk; exact .inl hk
      · rw [hb] at hk; cases hk; exact .inr (Nat.le_succ _)
    have hz0 := ho.size
    have hal30 : ∀ k, v30.ownBlock = some k → k < w32.heap.size := fun k hk => (hrA.lt k hk).2
    refine WL.nil ?_
    obtain ⟨wd, hwd⟩ : ∃ wd, wd = w32.drew := ⟨_, rfl⟩
    have hxd : Ext w32 wd := hwd ▸ Only.drew w32
    replace ho1 : Only (fun k => c.ownBlock = some k ∨ k = bp) wz wd := ho1.trans (hxd.mono (fun _ _ h => h.elim))
    replace hrA := own_ext hrA hxd
    replace hrB := own_ext hrB hxd
    replace hrL := own_ext hrL hxd
    replace hB32 := hxd.blk hB32 (fun h => h)
    have hbl : ∀ k, d.ownBlock = some k → k < wd.heap.size := fun k hk => (hrB.lt k hk).2
    have htl : ∀ k, lv.ownBlock = some k → k < wd.heap.size := fun k hk => (hrL.lt k hk).2
    have hbn : ∀ k, lv.ownBlock = some k → ¬ d.ownBlock = some k := fun k hk hb => own_row_off hrB hrL (by decide) k hk hb
    have hbG : ∀ k, (lv.ownBlock = some k ∨ wd.heap.size ≤ k) → ¬ d.ownBlock = some k := fun k hk hF => by
      rcases hk with hk | hk
      · exact hbn k hk hF
      · have := hbl k hF; omega
    have hpl : ¬ lv.ownBlock = some bp := own_off hrL hB32 (by decide)
    have hpb : ¬ d.ownBlock = some bp := own_off hrB hB32 (by decide)
    have htp : bp < wd.heap.size := (Array.getElem?_eq_some_iff.1 hB32).1
    refine W.drawF 11 [8, 10] [fun k => lv.ownBlock = some k, fun k => d.ownBlock = some k] [(0, fun v _ => v = (Value.pointer (some ⟨bp, 0, none⟩))), (1, fun v _ => v = (lv)), (4, fun v _ => v = (Value.int .i64 (-1 - (np : Int))))] rfl (by kernel_rfl) (by kernel_rfl) ⟨Mono.eq, Mono.eq, Mono.eq, trivial⟩ ⟨h0, h1, h4, trivial⟩ ?_
    refine WDS.p rfl (by decide) (fun e w hR hh => by obtain ⟨h0, -⟩ := hh; exact SG.n (o_mvh h0 ⟨rfl, Only.refl No _⟩)) ?_
    refine WDS.p rfl (by decide) (fun e w hR hh => by obtain ⟨h0, -⟩ := hh; exact SG.n (o_mvh h0 ⟨rfl, Only.refl No _⟩)) ?_
    refine WDS.p rfl (by decide) (fun e w hR hh => by obtain ⟨h33, -⟩ := hh; exact SG.n (o_nil h33 ⟨rfl, Only.refl No _⟩)) ?_
    refine WDS.p rfl (by decide) (fun e w hR hh => by obtain ⟨h34, -⟩ := hh; exact SG.n (o_fa 3 TI28 rfl TI26 rfl h34 ⟨rfl, Only.refl No _⟩)) ?_
    refine WDS.p rfl (by decide) (fun e w hR hh => by obtain ⟨h35, -⟩ := hh; rw [← hwd] at hR; have hc := hR.blk hB32 (fun hF => by rcases hF with hF | hF | hF; exact hpl hF; exact hpb hF; exact hF); exact SG.n (o_ld TI26 rfl h35 (cell_of hc rfl) ⟨rfl, Only.refl No _⟩)) ?_
    refine WDS.p rfl (by decide) (fun e w hR hh => by obtain ⟨h1, -⟩ := hh; exact SG.n (o_mvh h1 ⟨rfl, Only.refl No _⟩)) ?_
    refine WDS.p rfl (by decide) (fun e w hR hh => by obtain ⟨h4, -⟩ := hh; exact SG.n (o_mvh h4 ⟨rfl, Only.refl No _⟩)) ?_
    refine WDS.q 0 (fun v w => w.ownsRow wd.heap.size 3 1 v 1 [Value.int .i64 (-1 - (np : Int))]) (fun v w w2 hR hh => own_only hh hR (fun k hk hF => by have := (hh.lt k hk).1; rcases hF with hF | hF | hF; have := htl k hF; omega; have := hbl k hF; omega; exact hF)) (by kernel_rfl) rfl (by decide) (fun e w hR hh => by obtain ⟨h38, -⟩ := hh; rw [← hwd] at hR; exact SG.n (o_bs1 TI75 TI3 (show _ = Value.int .i64 (-1 - (np : Int)) from h38) (by decide) (by decide) rfl ⟨own_mono (own_new1 rfl) hR.size, Only.alloc w _⟩)) ?_
    refine WDS.mf 0 1 (fun v w => GvI lv wd.heap.size L.length np v w) (fun v w w2 hR hh => hh.keep hR (fun k hk hF => by rcases hF with hF | hF; exact hbG k hk hF; exact hF)) (by kernel_rfl) rfl rfl rfl (fun e w hR hW hh => by obtain ⟨h39, h37, -⟩ := hh; rw [← hwd] at hR hW; have hW2 : Ext wd w := hW.mono (fun _ _ h => h); have hLw := own_ext hrL hW2; exact SGX.n (OP.x (o_apO 0 TI75 TI3 (show _ = lv from h37) rfl hLw (Sl.own h39) rfl (by decide) (fun a ha => by simp at ha; rw [ha]; rfl) (by rw [maxLen_eq]; omega) (by omega) (Nat.zero_le _) (fun v' w' h1 h2 h3 h4 => ⟨⟨by rw [List.replicate_succ']; exact h1, h4.1, fun k hk => by have := hR.size; rcases h3 with h3 | h3; rw [h3] at hk; exact .inl hk; rw [h3] at hk; cases hk; exact .inr this⟩, h2⟩)))) ?_
    refine WDS.q 1 (fun v w => ∃ u, w.ownsRow wd.heap.size 75 1 v 1 [u] ∧ GvI lv wd.heap.size L.length np u w) (fun v w w2 hR hh => by obtain ⟨u, h1, h2⟩ := hh; exact ⟨u, own_only h1 hR (fun k hk hF => by have := (h1.lt k hk).1; rcases hF with hF | hF; have := hbl k hF; omega; exact hF), h2.keep hR (fun k hk hF => by rcases hF with hF | hF; exact hbG k hk hF; exact hF)⟩) (by kernel_rfl) rfl (by decide) (fun e w hR hh => by obtain ⟨h40, -⟩ := hh; rw [← hwd] at hR; exact SG.n (o_bs1 TI26 TI75 rfl (by decide) (by decide) (show (e 40).cells.size = 1 by rw [own_cells h40.1]; rfl) ⟨⟨_, own_mono (own_newv h40.1) hR.size, h40.keep (Only.alloc w _) (fun _ _ h => h)⟩, Only.alloc w _⟩)) ?_
    refine WDS.mf 1 2 (fun v w => ∃ u, w.ownsRow 0 75 1 v (np + 1) (vals VD np ++ [u]) ∧ GvI lv wd.heap.size L.length np u w ∧ (v.ownBlock = d.ownBlock ∨ ∃ g, wd.heap.size ≤ g ∧ v.ownBlock = some g)) (fun v w w2 hR hh => by obtain ⟨u, h1, h2, h3⟩ := hh; exact ⟨u, own_ext h1 hR, h2.keep hR (fun _ _ h => h), h3⟩) (by kernel_rfl) rfl rfl rfl (fun e w hR hW hh => by obtain ⟨h41, h36, -⟩ := hh; rw [← hwd] at hR hW; obtain ⟨u42, hr42, hu42⟩ := h41; have hrw := own_only hrB hW (fun k hk hF => by rcases hF with hF | hF; exact hbG k (.inl hF) hk; exact hF); exact SGX.n (OP.x (o_apO 0 TI26 TI75 h36 rfl hrw (Sl.own hr42) rfl (by decide) (by simp; exact own_one hu42.1) (by rw [maxLen_eq]; omega) (by omega) (Nat.zero_le _) (fun v' w' h1 h2 h3 h4 => ⟨⟨u42, h1, hu42.keep h2 hbG, by rcases h3 with h3 | h3; exact .inl h3; exact .inr ⟨_, hW.size, h3⟩⟩, h2⟩)))) ?_
    rintro e w hR ⟨h42, h41, h40, h39, h38, h37, h36, h35, h34, h33, h32, h0, h1, h4, -⟩
    rw [← hwd] at hR
    obtain ⟨gv, hrB2, hG, hb2⟩ := h42
    obtain ⟨v43, hv43⟩ : ∃ v, v = e 42 := ⟨_, rfl⟩
    rw [← hv43] at hrB2 hb2
    have hcm := hR.blk hB32 (fun hF => by rcases hF with hF | hF | hF; exact hpl hF; exact hpb hF; exact hF)
    refine WL.c rfl (o_nil h32 ?_)
    refine WL.c rfl (o_fa 3 TI28 rfl TI26 rfl rfl ?_)
    refine WL.u (o_stB TI26 rfl (show _ = v43 from hv43.symm) (own_one hrB2) hcm (show 3 < 4 by decide) ?_)
    intro w45 hB45 ho45 hs45
    replace hB45 : w45.heap[bp]? = some (.cells #[a, b, v30, v43] 28 (0, 0)) := hB45
    have hFF : Only (fun k => c.ownBlock = some k ∨ d.ownBlock = some k ∨ k = bp ∨ lv.ownBlock = some k) wz w45 := ((ho1.mono (fun k _ hF => by rcases hF with hF | hF; exact .inl hF; exact .inr (.inr (.inl hF)))).trans (hR.mono (fun k _ hF => by rcases hF with hF | hF | hF; exact .inr (.inr (.inr hF)); exact .inr (.inl hF); exact hF.elim))).trans (ho45.mono (fun k _ hF => .inr (.inr (.inl hF))))
    have hab30 : ∀ k, v30.ownBlock = some k → ¬ d.ownBlock = some k := fun k hk hF => by
      have h2 := (hT.rd.lt k hF).2
      rcases ha30 k hk with h3 | h3
      · exact hT.cd k h3 hF
      · omega
    have hA2l : ∀ k, v30.ownBlock = some k → ¬ lv.ownBlock = some k := fun k hk hl => own_row_off hrA hrL (by decide) k hl hk
    have hrA2 := own_only (own_only hrA hR (fun k hk hF => by rcases hF with hF | hF | hF; exact hA2l k hk hF; exact hab30 k hk hF; exact hF)) ho45 (fun k hk he => by subst he; exact own_off hrA hB32 (by decide) hk)
    have hrB3 := own_only hrB2 ho45 (fun k hk he => by subst he; exact own_off hrB2 hcm (by decide) hk)
    have hG2 := hG.keep ho45 (fun k hk he => by subst he; rcases hk with hk | hk; exact hpl hk; omega)
    refine WL.nil ?_
    refine ret0 rfl ?_
    have hwzd := ho1.size
    obtain ⟨hT', hBF'⟩ := hT.addI hFF hB45 hrA2 hrB3 (fun k hk => ⟨(hr.lt k hk).2, hnv k hk⟩) ha30 (fun k hk => by rcases hb2 with hb | ⟨g, hg, hb⟩; rw [hb] at hk; exact .inl hk; rw [hb] at hk; cases hk; exact .inr (by omega)) (fun k hk => (hG2.2.2 k hk).imp (fun h => h) (fun h => by omega)) (fun k hk hk2 => by rcases hb2 with hb | ⟨g, hg, hb⟩; rw [hb] at hk2; exact hab30 k hk hk2; rw [hb] at hk2; cases hk2; have := hal30 k hk; have := hxd.size; omega) ⟨L.length, by omega, hG2.2.1⟩ ⟨L.length + 1, by omega, hG2.1⟩
    refine ⟨_, _, _, _, hT', ?_, fun k hk => ?_⟩
    · refine ho.trans' hFF (fun k hk => .inr hk) (fun k hk hF => ?_) |>.mono (fun k _ h => h)
      rcases hF with hF | hF | rfl | hF
      · exact .inl (.inr (.inr (.inr (.inl hF))))
      · exact .inl (.inr (.inr (.inr (.inr (.inl hF)))))
      · exact .inl (.inl rfl)
      · exact .inr hF
    · rcases hBF' k hk with h1 | h1 | h1
      · exact .inl h1
      · exact .inr (.inl h1)
      · exact .inr (.inr (by omega))
end Go.Proofs.YtgmjfcekeglhjaaDoor
