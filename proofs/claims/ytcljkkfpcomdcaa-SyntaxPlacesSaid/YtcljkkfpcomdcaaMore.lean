/-
  The walker's laws, more: slices written out with several elements; min and max.
-/
import Derived.Test.YtcljkkfpcomdcaaDraw
set_option linter.unusedSimpArgs false
set_option linter.unusedVariables false
namespace Go.Vc
open Go Go.RowKit

theorem fill_step {n i : Nat} {v : Value} {cells : Array Value} {rest : List (Nat × Value)} (hv : v.oneCell' = true) (hi : i < cells.size) :
    Instr.fill (fun i => some (i * 1, 1)) cells ((i, v) :: rest) = Instr.fill (fun i => some (i * 1, 1)) (cells.setIfInBounds i v) rest := by
  have hc : v.cells = #[v] := by cases v <;> first | rfl | simp [Value.oneCell'] at hv
  simp [Instr.fill, hc]; omega
theorem fill_all : ∀ (vs : List Value) (k : Nat) (cells : Array Value), (∀ v ∈ vs, v.oneCell' = true) → k + vs.length = cells.size →
    Instr.fill (fun i => some (i * 1, 1)) cells ((vs.zipIdx k).map fun x => (x.2, x.1)) = some ((cells.toList.take k ++ vs).toArray)
  | [], k, cells, _, h => by
    simp at h
    have : cells.toList.take k = cells.toList := List.take_of_length_le (by simp [h])
    simp [Instr.fill, this]
  | v :: vs, k, cells, h1, h => by
    simp only [List.length_cons] at h
    rw [List.zipIdx_cons, List.map_cons, fill_step (n := 0) (h1 v (List.mem_cons_self ..)) (by omega), fill_all vs (k + 1) _ (fun v hv => h1 v (List.mem_cons_of_mem _ hv)) (by simp; omega)]
    congr 2
    simp only [Array.toList_setIfInBounds]
    rw [List.take_succ_eq_append_getElem (by simp; omega)]
    rw [List.take_set_of_le (by omega)]
    simp
section
variable {P : Program} {e : Env} {w : World} {K : Value → World → Prop} {ty : TypeId}
theorem o_bsn {t el : TypeId} {len s bs bs' : Nat} {z z' : Value} {d' : TypeDesc} {xs : List Operand} {vs : List Value} {parts : Array (Nat × Operand)} (ht : Ty P t (.slice el) s bs z) (hel : Ty P el d' 1 bs' z') (hp : parts = ((xs.zipIdx 0).map fun x => (x.2, x.1)).toArray) (hx : xs.map (ev e) = vs) (hv : vs.all (·.oneCell') = true) (hl : vs.length = len) (h0 : 0 < len) (hs : len ≤ 16777216)
    (k : K (.slice (some ⟨w.heap.size, 0, none⟩) len len) (w.alloc (.cells vs.toArray el))) : OP P e (.buildSlice t len parts) ty w K := by
  subst hp
  refine o_bs ht hel (by simp; omega) (cells := vs.toArray) ?_ (by simp; omega) k
  have hm : ((((xs.zipIdx 0).map fun x => (x.2, x.1)).toArray.map fun (x : Nat × Operand) => (x.1, ev e x.2))).toList = (vs.zipIdx 0).map fun x => (x.2, x.1) := by
    subst hx
    simp only [List.map_toArray, List.map_map]
    have gen : ∀ (l : List Operand) (k : Nat), (l.zipIdx k).map ((fun (x : Nat × Operand) => (x.1, ev e x.2)) ∘ fun x => (x.2, x.1)) = ((l.map (ev e)).zipIdx k).map fun x => (x.2, x.1) := by
      intro l
      induction l with
      | nil => intro k; rfl
      | cons a l ih => intro k; simp only [List.zipIdx_cons, List.map_cons, ih (k + 1)]; rfl
    exact gen xs 0
  rw [hm, fill_all vs 0 _ (by simpa using hv) (by simp [hl])]
  simp
theorem n_min {x y : Operand} {t u : TypeId} {k : IntKind} {a b : Nat} (hx : ev e x = .int k (a : Int)) (hy : ev e y = .int k (b : Int)) (kk : K (.int k ((min a b : Nat) : Int)) w) : OP P e (.call ⟨.builtin .min, #[x, y], #[t, u]⟩) ty w K := by
  refine OP.of ?_ kk
  have : (if b < a then (b : Int) else a) = ((min a b : Nat) : Int) := by split <;> omega
  simp [execOp, resolve, invoke, builtin, Builtin.min_, Builtin.min2, hx, hy, this]
theorem r_max {x y : Operand} {t u : TypeId} {k : IntKind} {a b : Nat} (hx : ev e x = .int k (a : Int)) (hy : ev e y = .int k (b : Int)) : RV P e (.call ⟨.builtin .max, #[x, y], #[t, u]⟩) ty w (.int k ((max a b : Nat) : Int)) := by
  have : (if a < b then (b : Int) else a) = ((max a b : Nat) : Int) := by split <;> omega
  simp [RV, execOp, resolve, invoke, builtin, Builtin.max_, Builtin.max2, hx, hy, this]
theorem n_max {x y : Operand} {t u : TypeId} {k : IntKind} {a b : Nat} (hx : ev e x = .int k (a : Int)) (hy : ev e y = .int k (b : Int)) (kk : K (.int k ((max a b : Nat) : Int)) w) : OP P e (.call ⟨.builtin .max, #[x, y], #[t, u]⟩) ty w K := by
  refine OP.of ?_ kk
  have : (if a < b then (b : Int) else a) = ((max a b : Nat) : Int) := by split <;> omega
  simp [execOp, resolve, invoke, builtin, Builtin.max_, Builtin.max2, hx, hy, this]
end

/-! ### what comes in -/
theorem nat_u64 {a : Int} (h : (Lit.int .u64 a).wf = true) : ∃ n : Nat, a = (n : Int) ∧ n < 18446744073709551616 := by
  simp [Lit.wf, IntKind.min, IntKind.max, IntKind.signed, IntKind.bits] at h
  exact ⟨a.toNat, by omega, by omega⟩
theorem nat_u8 {a : Int} (h : (Lit.int .u8 a).wf = true) : ∃ n : Nat, a = (n : Int) ∧ n < 256 := by
  simp [Lit.wf, IntKind.min, IntKind.max, IntKind.signed, IntKind.bits] at h
  exact ⟨a.toNat, by omega, by omega⟩
theorem rng_i64 {a : Int} (h : (Lit.int .i64 a).wf = true) : -9223372036854775808 ≤ a ∧ a ≤ 9223372036854775807 := by
  simp [Lit.wf, IntKind.min, IntKind.max, IntKind.signed, IntKind.bits] at h
  omega
theorem rng_i32 {a : Int} (h : (Lit.int .i32 a).wf = true) : -2147483648 ≤ a ∧ a ≤ 2147483647 := by
  simp [Lit.wf, IntKind.min, IntKind.max, IntKind.signed, IntKind.bits] at h
  omega
theorem by_row {w : World} {a : Option Addr} {len cap : Nat} {zs : List Int} (h : (a = none ∧ len = 0 ∧ cap = 0 ∧ zs = []) ∨ ∃ x, a = some x ∧ len ≤ cap ∧ cap ≤ maxLen ∧ zs.length = cap ∧ (∀ i, i < zs.length → w.cell? (x.add i) = some (.int .u8 (zs.getD i 0))) ∧ ∀ n ∈ zs, (Lit.int .u8 n).wf = true) :
    ∃ xs : List UInt8, xs.length = len ∧ len ≤ cap ∧ cap = zs.length ∧ Sl w 1 (.slice a len cap) xs.length (xs.map bv) := by
  rcases h with ⟨rfl, rfl, rfl, rfl⟩ | ⟨x, rfl, hlc, hm, hz, hc, hw⟩
  · exact ⟨[], rfl, Nat.le_refl _, rfl, Sl.nil w 1⟩
  · refine ⟨(zs.take len).map (fun n => UInt8.ofNat n.toNat), by simp; omega, hlc, hz.symm, ?_⟩
    have hl : ((zs.take len).map (fun n => UInt8.ofNat n.toNat)).length = len := by simp; omega
    rw [hl]
    have hval : ∀ n ∈ zs, (n.toNat % 256 : Int) = n := by
      intro n hn
      have := hw n hn
      simp [Lit.wf, IntKind.min, IntKind.max, IntKind.signed, IntKind.bits] at this
      omega
    by_cases h0 : len = 0
    · subst h0
      exact ⟨by simp, .inl ⟨rfl, _, _, rfl⟩⟩
    · obtain ⟨b, off, spot⟩ := x
      have := hc 0 (by omega)
      have hs : spot = none := by simpa [Addr.add] using World.cell?_spot this
      subst hs
      refine ⟨by simp; omega, .inr ⟨b, off, cap, rfl, hlc, ?_⟩⟩
      intro i v hv
      have hi : i < len := by
        have := (List.getElem?_eq_some_iff.1 hv).1
        simp at this; omega
      have h1 := hc i (by omega)
      rw [add_none] at h1
      rw [h1]
      have hzi : i < zs.length := by omega
      simp only [List.map_map, List.getElem?_map, List.getElem?_take, hi, if_true, List.getElem?_eq_getElem hzi, Option.map_some, Option.some.injEq, Function.comp_apply] at hv
      rw [← hv]
      simp only [List.getD, List.getElem?_eq_getElem hzi, Option.getD_some, bv]
      have := hval zs[i] (List.getElem_mem _)
      simp; omega
/-- a slice of whole numbers of any kind, as it is handed in -/
theorem ints_row {w : World} {k : IntKind} {a : Option Addr} {len cap : Nat} {zs : List Int} (h : (a = none ∧ len = 0 ∧ cap = 0 ∧ zs = []) ∨ ∃ x, a = some x ∧ len ≤ cap ∧ cap ≤ maxLen ∧ zs.length = cap ∧ (∀ i, i < zs.length → w.cell? (x.add i) = some (.int k (zs.getD i 0)))) :
    ∃ ys : List Int, ys.length = len ∧ ys = zs.take len ∧ len ≤ maxLen ∧ Sl w 1 (.slice a len cap) ys.length (ys.map (Value.int k)) := by
  rcases h with ⟨rfl, rfl, rfl, rfl⟩ | ⟨x, rfl, hlc, hm, hz, hc⟩
  · exact ⟨[], rfl, rfl, Nat.zero_le _, Sl.nil w 1⟩
  · have hl : (zs.take len).length = len := by simp; omega
    refine ⟨zs.take len, hl, rfl, Nat.le_trans hlc hm, ?_⟩
    rw [hl]
    by_cases h0 : len = 0
    · subst h0
      exact ⟨by simp, .inl ⟨rfl, _, _, rfl⟩⟩
    · obtain ⟨b, off, spot⟩ := x
      have := hc 0 (by omega)
      have hs : spot = none := by simpa [Addr.add] using World.cell?_spot this
      subst hs
      refine ⟨by simp; omega, .inr ⟨b, off, cap, rfl, hlc, ?_⟩⟩
      intro i v hv
      have hi : i < len := by
        have := (List.getElem?_eq_some_iff.1 hv).1
        simp at this; omega
      have h1 := hc i (by omega)
      rw [add_none] at h1
      rw [h1, ← hv]
      have hlt : i < zs.length := by omega
      simp [hi, hlt]
end Go.Vc
