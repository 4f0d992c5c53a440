/-
  The walker's laws: a string appended to bytes; own rows of unlike element types lie in unlike blocks.
-/
import Derived.Test.YtcljkkfpcomdcaaStr
import Derived.Laws.AppendOwn
set_option linter.unusedSimpArgs false
set_option linter.unusedVariables false
namespace Go.Vc
open Go Go.RowKit
/-! ### a string is appended to bytes -/
theorem firstCells_str (P : Program) (w : World) (size : Nat) (ys : List UInt8) : (Builtin.firstCells size ys.length (st ys)).run P w = .ok (ys.map bv).toArray w := by
  have : (⟨ys.toArray⟩ : ByteArray).extract 0 ys.length = ⟨ys.toArray⟩ := by rw [ba_extract]; simp
  simp only [Builtin.firstCells, this, Sem.run_pure]
  congr 1
  simp [bv]
theorem run_apS {P : Program} (w : World) (base : Nat) (t u ty e : TypeId) (i : TypeInfo) (z : Value) (ht : P.underlying t = some (.slice e)) (hu : P.underlying u = some .string) (hi : P.info? e = some i) (hz : i.zero = some z)
    (hsize : i.size = 1) (hby : i.bytes = 1) (hzs : z.cells.size = 1) (v : Value) (n : Nat) (xs : List Value) (hown : w.ownsRow base e 1 v n xs) (ys : List UInt8)
    (h63 : n + ys.length ≤ maxLen) (hbytes : n + ys.length ≤ 140737488355328) (hbase : base ≤ w.heap.size) :
    ∃ v' w', (Builtin.append_ #[t, u] ty #[v, st ys]).run P w = .ok v' w' ∧ w'.ownsRow base e 1 v' (n + ys.length) (xs ++ ys.map bv) ∧ w.grownBy w' v.ownBlock := by
  have hsmall : n + ys.length ≤ 9223372036854775807 := by simp only [maxLen] at h63; omega
  have hl : (ys.map bv).length = ys.length * 1 := by simp
  have hlen : (xs ++ ys.map bv).length = (n + ys.length) * 1 := by rw [List.length_append, hown.1, hl, Nat.add_mul]
  have hsz : (⟨ys.toArray⟩ : ByteArray).size = ys.length := rfl
  have grown : ∀ (old : Nat), old < n + ys.length → ∀ (row : Option Nat),
      (w.drew.alloc (.cells (xs.toArray ++ (ys.map bv).toArray ++ Builtin.zeroCells z.cells (grownCap w (n + ys.length) old e - (n + ys.length))) e)).ownsRow base e 1
        (.slice (some ⟨w.heap.size, 0, none⟩) (n + ys.length) (grownCap w (n + ys.length) old e)) (n + ys.length) (xs ++ ys.map bv) ∧
      w.grownBy (w.drew.alloc (.cells (xs.toArray ++ (ys.map bv).toArray ++ Builtin.zeroCells z.cells (grownCap w (n + ys.length) old e - (n + ys.length))) e)) row := by
    intro old ho row
    have hge := grownCap_ge w (n + ys.length) old e
    have hcm : grownCap w (n + ys.length) old e ≤ maxLen := grownCap_le_maxLen w (n + ys.length) old e h63
    refine ⟨⟨hlen, .inr ⟨w.heap.size, _, _, rfl, hbase, heap_alloc_new w.drew _, hge, hcm, ?_, ?_⟩⟩, ⟨rfl, rfl, rfl, by simp, fun k hk _ => heap_alloc_old w.drew _ hk⟩⟩
    · simp only [Array.size_append, List.size_toArray, size_zeroCells, hzs, hown.1, hl]
      omega
    · simp only [Array.toList_append, List.append_assoc]
      rw [← List.append_assoc, ← hlen]
      exact List.take_left
  have hext : ∀ w : World, (Builtin.firstCells 1 ys.length (.string ⟨ys.toArray⟩)).run P w = .ok (ys.map bv).toArray w := fun w => firstCells_str P w 1 ys
  rcases hown.2 with ⟨rfl, rfl⟩ | ⟨g, cap, cur, rfl, hbg, hg, hnc, hcm, hcs, htake⟩
  · have hx : xs = [] := List.eq_nil_of_length_eq_zero (by simpa using hown.1)
    subst hx
    by_cases hm : ys.length = 0
    · have hn : ys = [] := List.eq_nil_of_length_eq_zero hm
      subst hn
      refine ⟨.slice none 0 0, w, ?_, World.ownsRow_nil w base e 1, ⟨rfl, rfl, rfl, Nat.le_refl _, fun _ _ _ => rfl⟩⟩
      have he : (⟨#[]⟩ : ByteArray) = ByteArray.empty := rfl
      have hs0 : (⟨#[]⟩ : ByteArray).size = 0 := rfl
      simp [Builtin.append_, run_underlying ht, run_underlying hu, sizeOf, typeInfo, hi, Builtin.lenOf, Builtin.firstCells, he, hs0]
    · have hn : ys.length ≠ 0 := hm
      have h63' : ¬ (9223372036854775807 < (ys.length : Int)) := by omega
      have h48' : ¬ (281474976710656 < Builtin.nextslicecap ys.length 0) := by rw [nextslicecap_zero (by omega)]; omega
      have hgr := grown 0 (by omega) (Value.ownBlock (.slice none 0 0))
      simp only [Nat.zero_add, List.nil_append, Array.empty_append] at hgr ⊢
      refine ⟨_, _, ?_, hgr.1, hgr.2⟩
      simp [Builtin.append_, run_underlying ht, run_underlying hu, sizeOf, typeInfo, zeroValue, hi, hz, hsize, hby, Builtin.lenOf, hsz, hn, h63', h48', Question.forced, run_firstCells_none, hext, newRow, grownCap]
  · by_cases hroom : n + ys.length ≤ cap
    · have hfit : n * 1 + (ys.map bv).length ≤ cur.size := by rw [hl, hcs]; omega
      have hst := run_storeCells_at P g (n * 1) e (ys.map bv) 0 cur w hg (by simpa using hfit) one_bv
      simp only [Nat.add_zero] at hst
      refine ⟨_, w.setRow g (cur.toList.take (n * 1) ++ ys.map bv ++ cur.toList.drop (n * 1 + (ys.map bv).length)).toArray, ?_, ⟨hlen, .inr ⟨g, cap, _, rfl, hbg, setRow_heap w g cur _ e _ hg, hroom, hcm, ?_, ?_⟩⟩, ⟨rfl, rfl, rfl, by simp, fun k _ hk => setRow_other w g k _ (fun e => hk (by simp [Value.ownBlock, e]))⟩⟩
      · simp [Builtin.append_, run_underlying ht, run_underlying hu, sizeOf, typeInfo, hi, hsize, Builtin.lenOf, hsz, hroom, hext, Addr.add_lit]
        have hst' := hst
        simp at hst'
        simp [hst']
      · simp only [List.size_toArray, List.length_append, List.length_take, List.length_drop, Array.length_toList]
        omega
      · rw [htake, ← hlen]
        exact List.take_left
    · have holds : ∀ j u, xs[j]? = some u → w.cell? ((⟨g, 0, none⟩ : Addr).add j) = some u := hown.cells (g := g) rfl
      have hn : ¬ (n + ys.length ≤ cap) := hroom
      have h63' : ¬ (9223372036854775807 < ((n : Int) + (ys.length : Int))) := by omega
      have hf48 := growslice_fits (need := n + ys.length) (old := cap) (bytes := 1) (by omega) (by omega)
      have h48' : ¬ (281474976710656 < Builtin.nextslicecap (n + ys.length) cap) := by omega
      have hfo := run_firstCells_some (P := P) w.drew 1 n ⟨g, 0, none⟩ n cap xs (by simpa using hown.1) (by simpa using holds)
      have hgr := grown cap (by omega) (Value.ownBlock (.slice (some ⟨g, 0, none⟩) n cap))
      refine ⟨_, _, ?_, hgr.1, hgr.2⟩
      simp [Builtin.append_, run_underlying ht, run_underlying hu, sizeOf, typeInfo, zeroValue, hi, hz, hsize, hby, Builtin.lenOf, hsz, hn, h63', h48', Question.forced, hext, hfo, newRow, grownCap]
      congr 2
      apply Array.ext'
      simp [List.append_assoc]
theorem o_apS {P : Program} {e : Env} {w : World} {K : Value → World → Prop} {ty : TypeId} {x y : Operand} {t u el : TypeId} {s bs s2 bs2 n : Nat} {z z' z2 v : Value} {d' : TypeDesc} {xs : List Value} {ys : List UInt8} (base : Nat) (ht : Ty P t (.slice el) s bs z) (hel : Ty P el d' 1 1 z') (hu : Ty P u .string s2 bs2 z2) (hx : ev e x = v) (hy : ev e y = st ys)
    (hown : w.ownsRow base el 1 v n xs) (hzs : z'.cells.size = 1) (h63 : n + ys.length ≤ maxLen) (hby : n + ys.length ≤ 140737488355328) (hbase : base ≤ w.heap.size)
    (k : ∀ v' w', w'.ownsRow base el 1 v' (n + ys.length) (xs ++ ys.map bv) → Only (fun k => v.ownBlock = some k) w w' → K v' w') : OP P e (.call ⟨.builtin .append, #[x, y], #[t, u]⟩) ty w K := by
  obtain ⟨i, hi1, hi2, hi3, hi4⟩ := hel.info
  obtain ⟨v', w', hr, h2, h3⟩ := run_apS (P := P) w base t u ty el i z' ht.und hu.und hi1 hi4 hi2 hi3 hzs v n xs hown ys h63 hby hbase
  exact OP.of (by simp [execOp, resolve, invoke, builtin, hx, hy, hr]) (k v' w' h2 ((Only.grown h3).mono (fun _ _ h => h.symm)))
theorem own_off {w : World} {base : Nat} {el : TypeId} {s n : Nat} {v : Value} {xs : List Value} {j : Nat} {cs : Array Value} {T : TypeId} {fr : Nat × Nat} (h : w.ownsRow base el s v n xs) (hj : w.heap[j]? = some (.cells cs T fr)) (hne : el ≠ T) : ¬ v.ownBlock = some j := by
  intro he
  rcases h.2 with ⟨rfl, rfl⟩ | ⟨g, cap, cur, rfl, hb, hc, r⟩
  · simp [Value.ownBlock] at he
  · simp only [Value.ownBlock, Option.some.injEq] at he
    subst he
    rw [hj] at hc
    simp only [Option.some.injEq, Obj.cells.injEq] at hc
    exact hne hc.2.1.symm
theorem own_row_off {w : World} {base base' : Nat} {el el' : TypeId} {s n s' n' : Nat} {v v' : Value} {xs xs' : List Value} (h : w.ownsRow base el s v n xs) (h' : w.ownsRow base' el' s' v' n' xs') (hne : el ≠ el') : ∀ k, v'.ownBlock = some k → ¬ v.ownBlock = some k := by
  intro k hk
  rcases h'.2 with ⟨rfl, rfl⟩ | ⟨g, cap, cur, rfl, hb, hc, r⟩
  · simp [Value.ownBlock] at hk
  · simp only [Value.ownBlock, Option.some.injEq] at hk
    subst hk
    exact own_off h hc hne
theorem o_remN {P : Program} {e : Env} {w : World} {K : Value → World → Prop} {ty : TypeId} {x y : Operand} {t u : TypeId} {a b : Nat} (hx : ev e x = .int .i64 (a : Int)) (hy : ev e y = .int .i64 (b : Int)) (hb : 0 < b) (ha : a < 9223372036854775808) (kk : K (.int .i64 ((a % b : Nat) : Int)) w) : OP P e (.binOp .rem t x y u) ty w K := by
  refine o_rem hx hy (by omega) ?_
  have h1 : (a : Int).tmod (b : Int) = ((a % b : Nat) : Int) := by rw [Int.tmod_eq_emod_of_nonneg (by omega)]; simp
  have h2 : a % b ≤ a := Nat.mod_le _ _
  rw [h1]
  simpa [wrap64' ((a % b : Nat) : Int) (by omega)] using kk
end Go.Vc
