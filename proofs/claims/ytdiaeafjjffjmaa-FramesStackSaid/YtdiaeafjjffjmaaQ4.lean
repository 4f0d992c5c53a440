/-
  Walks. Written by program out of specs of mine.
-/
import Derived.Test.YtdiaeafjjffjmaaQ3
import Derived.Test.YtdiaeafjjffjmaaArg
set_option linter.unusedSimpArgs false
set_option linter.unusedVariables false
set_option maxRecDepth 100000
namespace Go.Proofs.Ytdiaeafjjffjmaa
open Go Go.Vc Go.RowKit Go.Proofs

open Go.ChangeShapes Go.WideShapes
theorem seven_cells {cs : List Value} (h : cs.length = 7) : ∃ a b c d e f g, cs = [a, b, c, d, e, f, g] := by
  match cs, h with
  | [a, b, c, d, e, f, g], _ => exact ⟨a, b, c, d, e, f, g, rfl⟩
abbrev FrD := Fr × Value
def frV (o : FrD) : List Value := fcells o.1 o.2
theorem open_intl {H : Type} {enc : TypeId × Value → H} {P : Program} {W : World} {held : Bool} {t e : TypeId} (hu : P.underlying t = some (.slice e)) (he : P.underlying e = some (.int .i64)) (hs : P.cellsOf e = 1) {fuel : Nat} {v : Value} {x : DataW H × List MemPlace}
    (h : DataW.trod enc P W 0 (fun _ => true) held fuel t [v] = some x) : ∃ xs : List Int, xs.length ≤ 9223372036854775807 ∧ Sl W 1 v xs.length (ints xs) := by
  rcases open_ints hu he hs h with ⟨hcs, hd, _⟩ | ⟨a, l, c, zs, hcs, -, hl, hm, hzl, hd, hcell, hwz⟩
  · simp only [List.cons.injEq, and_true] at hcs
    subst hcs
    exact ⟨[], by decide, Sl.nil _ _⟩
  · simp only [List.cons.injEq, and_true] at hcs
    subst hcs
    obtain ⟨ys, h1, -, h2, h4⟩ := ints_row (w := W) (k := .i64) (.inr ⟨_, rfl, hl, hm, hzl, hcell⟩)
    exact ⟨ys, by rw [h1]; exact h2, h4⟩
theorem open_frame {H : Type} {enc : TypeId × Value → H} {W : World} {held : Bool} {n : Nat} {cs : List Value} {y : DataW H × List MemPlace} (h : DataW.trod enc Try.prog W 0 (fun _ => true) held n 39 cs = some y) (hz : Small Try.prog 39 y.1) : ∃ o : FrD, cs = frV o ∧ In W o.2 o.1.tab := by
  have hl := open_struct_len (s := 7) Try.underlying39 (by kernel_rfl) h
  obtain ⟨a, b, c, d, e, f, g, rfl⟩ := seven_cells hl
  obtain ⟨n0, y0, h0, -⟩ := open_field 0 0 1 Try.underlying39 rfl rfl rfl (by kernel_rfl) h hz
  obtain ⟨n1, y1, h1, -⟩ := open_field 1 1 1 Try.underlying39 rfl rfl rfl (by kernel_rfl) h hz
  obtain ⟨n2, y2, h2, -⟩ := open_field 2 2 1 Try.underlying39 rfl rfl rfl (by kernel_rfl) h hz
  obtain ⟨n3, y3, h3, -⟩ := open_field 3 3 1 Try.underlying39 rfl rfl rfl (by kernel_rfl) h hz
  obtain ⟨n4, y4, h4, -⟩ := open_field 4 4 1 Try.underlying39 rfl rfl rfl (by kernel_rfl) h hz
  obtain ⟨n5, y5, h5, -⟩ := open_field 5 5 1 Try.underlying39 rfl rfl rfl (by kernel_rfl) h hz
  obtain ⟨n6, y6, h6, -⟩ := open_field 6 6 1 Try.underlying39 rfl rfl rfl (by kernel_rfl) h hz
  obtain ⟨k0, e0, -, -⟩ := DataW.trod_int Try.underlying3 h0
  obtain ⟨k1, e1, -, -⟩ := DataW.trod_int Try.underlying3 h1
  obtain ⟨k2, e2, -, -⟩ := DataW.trod_int Try.underlying3 h2
  obtain ⟨k3, e3, -, -⟩ := DataW.trod_int Try.underlying3 h3
  obtain ⟨k4, e4, -, -⟩ := DataW.trod_int Try.underlying3 h4
  obtain ⟨k5, e5, -, -⟩ := DataW.trod_int Try.underlying3 h5
  obtain ⟨xs, -, hS⟩ := open_intl Try.underlying37 Try.underlying3 (by kernel_rfl) h6
  simp only [List.drop_zero, List.drop_succ_cons, List.take_succ_cons, List.take_zero, List.cons.injEq, and_true] at e0 e1 e2 e3 e4 e5
  exact ⟨(⟨k0, k1, k2, k3, k4, k5, xs⟩, g), by rw [e0, e1, e2, e3, e4, e5]; rfl, hS⟩
theorem flatMap_getD {α β : Type} (f : α → List β) (d : α) (l : List α) : l.flatMap f = (List.range l.length).flatMap (fun j => f (l.getD j d)) := by
  have h : l = (List.range l.length).map (fun j => l.getD j d) := by
    apply List.ext_getElem
    · simp
    · intro i h1 h2; simp [List.getD_eq_getElem?_getD, h1]
  conv => lhs; rw [h]
  rw [List.flatMap_map]
theorem Fs.open {w : World} {v : Value} {os : List FrD} (h : Sl w 7 v os.length (os.flatMap frV)) (ht : ∀ o ∈ os, In w o.2 o.1.tab) : Fs w v (os.map Prod.fst) (fun j => (os.getD j (Fr.nil, undef)).2) := by
  have hg : ∀ j, j < os.length → (os.map Prod.fst).getD j Fr.nil = (os.getD j (Fr.nil, undef)).1 := fun j hj => by simp [List.getD_eq_getElem?_getD, hj]
  refine ⟨?_, fun j hj => ?_⟩
  · rw [List.length_map]
    have : frows (os.map Prod.fst) (fun j => (os.getD j (Fr.nil, undef)).2) = os.flatMap frV := by
      rw [flatMap_getD frV (Fr.nil, undef) os, frows, List.length_map]
      refine fm_congr fun j hj => ?_
      rw [hg j (List.mem_range.1 hj)]; rfl
    rw [this]; exact h
  · rw [List.length_map] at hj
    have hm : os.getD j (Fr.nil, undef) = os[j] := by simp [List.getD_eq_getElem?_getD, hj]
    rw [tabl, hg j hj]
    show In w (os.getD j (Fr.nil, undef)).2 _
    rw [hm]
    exact ht _ (List.getElem_mem hj)
theorem back_walk' (w0 : World) (v : Value) (os : List FrD) (hol : os.length ≤ maxLen) (hS : Sl w0 7 v os.length (os.flatMap frV)) (ht : ∀ o ∈ os, In w0 o.2 o.1.tab) (gone : Int) (_ : -9223372036854775808 ≤ gone ∧ gone ≤ 9223372036854775807) (at_ : Int) (_ : -9223372036854775808 ≤ at_ ∧ at_ ≤ 9223372036854775807) (mv : Value) (xs : List UInt8) (hxl : xs.length ≤ 140737488351232) (hX : By w0 mv xs) (yv : Value) (ys : List UInt8) (hyl : ys.length ≤ 140737488351232) (hY : By w0 yv ys) :
    Ca Try.prog 3 #[v, .int .i64 gone, .int .i64 at_, mv, yv] w0 (fun r w' => r = .bool true ∧ Ext w0 w') :=
  back_walk w0 v _ _ (Fs.open hS ht) gone at_ mv xs hxl hX yv ys hyl hY

end Go.Proofs.Ytdiaeafjjffjmaa
