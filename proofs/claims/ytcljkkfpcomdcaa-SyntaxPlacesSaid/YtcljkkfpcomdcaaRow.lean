/-
  The walker's laws, more: slicing, structs built by value, slices written out, append of one element.
-/
import Derived.Test.YtcljkkfpcomdcaaQ
set_option linter.unusedSimpArgs false
set_option linter.unusedVariables false
namespace Go.Vc
open Go Go.RowKit

theorem sliced_own (a : Option Addr) (l h c s n c' : Nat) : (sliced a l h c s).ownBlock = (Value.slice a n c').ownBlock := by
  unfold sliced
  cases a with
  | none => split <;> rfl
  | some a => split <;> simp [Value.ownBlock, Addr.add] <;> split <;> rfl
theorem Sl.sliced {w : World} {s n c : Nat} {a : Option Addr} {xs : List Value} (h : Sl w s (.slice a n c) n xs) (l k : Nat) (hl : l ≤ k) (hk : k ≤ n) : Sl w s (sliced a l k c s) (k - l) ((xs.drop (l * s)).take ((k - l) * s)) := by
  refine ⟨?_, ?_⟩
  · rw [List.length_take, List.length_drop, h.len]
    have : (k - l) * s ≤ n * s - l * s := by rw [← Nat.sub_mul]; exact Nat.mul_le_mul_right _ (by omega)
    omega
  · rcases h.val with ⟨hn, a', c', hv⟩ | ⟨b, off, c', hv, hnc, hc⟩
    · have : l = 0 := by omega
      have : k = 0 := by omega
      subst_vars
      exact .inl ⟨rfl, _, _, rfl⟩
    · simp only [Value.slice.injEq] at hv
      obtain ⟨rfl, -, rfl⟩ := hv
      unfold Go.sliced
      by_cases hcl : c = l
      · rw [if_pos hcl]
        refine .inr ⟨b, off, c - l, rfl, by omega, ?_⟩
        have : k - l = 0 := by omega
        rw [this]
        intro i v hv
        simp at hv
      · rw [if_neg hcl]
        refine .inr ⟨b, off + l * s, c - l, by simp [add_none], by omega, hc.sub _ _⟩

section
variable {P : Program} {e : Env} {w : World} {K : Value → World → Prop} {ty : TypeId}

theorem bound_run {k : IntKind} {i y : Nat} {code : BoundsCode} (h : i ≤ y) : (Instr.sliceBound (.int k (i : Int)) y code).run P w = .ok i w := by
  have := run_sliceBound (P := P) (w := w) k (i : Int) y code (by omega) (by omega)
  simpa using this
def Lo (e : Env) (lo : Option Operand) (l : Nat) : Prop := (lo = none ∧ l = 0) ∨ ∃ x k, lo = some x ∧ ev e x = .int k (l : Int)
def Hi (e : Env) (hi : Option Operand) (h n : Nat) : Prop := (hi = none ∧ h = n) ∨ ∃ x k, hi = some x ∧ ev e x = .int k (h : Int)
theorem Lo.n : Lo e none 0 := .inl ⟨rfl, rfl⟩
theorem Lo.s {x : Operand} {k : IntKind} {l : Nat} (h : ev e x = .int k (l : Int)) : Lo e (some x) l := .inr ⟨x, k, rfl, h⟩
theorem Hi.n {n : Nat} : Hi e none n n := .inl ⟨rfl, rfl⟩
theorem Hi.s {x : Operand} {k : IntKind} {h n : Nat} (hh : ev e x = .int k (h : Int)) : Hi e (some x) h n := .inr ⟨x, k, rfl, hh⟩
theorem bounds_run {isS : Bool} {n c l h : Nat} {lo hi : Option Operand} (hl : Lo e lo l) (hh : Hi e hi h n) (h1 : l ≤ h) (h2 : h ≤ c) : (Instr.sliceBounds isS n c (lo.map (ev e)) (hi.map (ev e)) none).run P w = .ok (l, h, c) w := by
  rcases hl with ⟨rfl, rfl⟩ | ⟨x, k, rfl, hx⟩ <;> rcases hh with ⟨rfl, rfl⟩ | ⟨y, k', rfl, hy⟩ <;>
    simp [Instr.sliceBounds, *, bound_run]

/-- a slice of a slice: as values; what lies between length and capacity may come in again -/
theorem o_slv {x : Operand} {t el : TypeId} {lo hi : Option Operand} {s bs s' bs' n c l h : Nat} {z z' : Value} {d' : TypeDesc} {a : Option Addr} (ht : Ty P t (.slice el) s bs z) (hel : Ty P el d' s' bs' z') (hx : ev e x = .slice a n c) (hl : Lo e lo l) (hh : Hi e hi h n) (h1 : l ≤ h) (h2 : h ≤ c)
    (k : K (sliced a l h c s') w) : OP P e (.slice t x lo hi none) ty w K := by
  refine OP.of ?_ k
  simp [execOp, Instr.sliceAt, Instr.slice, ht.run_und, hx, bounds_run hl hh h1 h2, hel.run_size, sliced]
/-- .. as a reading -/
theorem o_sl {x : Operand} {t el : TypeId} {lo hi : Option Operand} {s bs s' bs' n l h : Nat} {z z' v : Value} {d' : TypeDesc} {xs : List Value} (ht : Ty P t (.slice el) s bs z) (hel : Ty P el d' s' bs' z') (hx : ev e x = v) (hS : Sl w s' v n xs) (hl : Lo e lo l) (hh : Hi e hi h n) (h1 : l ≤ h) (h2 : h ≤ n)
    (k : ∀ v', v'.ownBlock = v.ownBlock → Sl w s' v' (h - l) ((xs.drop (l * s')).take ((h - l) * s')) → K v' w) : OP P e (.slice t x lo hi none) ty w K := by
  obtain ⟨a, c, rfl⟩ := hS.isSlice
  have hnc : n ≤ c := by
    rcases hS.val with ⟨rfl, _⟩ | ⟨b, off, c', hv, hnc, _⟩
    · omega
    · simp only [Value.slice.injEq] at hv; omega
  exact o_slv ht hel hx hl hh h1 (by omega) (k _ (sliced_own _ _ _ _ _ _ _) (hS.sliced l h h1 h2))
theorem q_sl {x : Operand} {t el : TypeId} {lo hi : Option Operand} {s bs s' bs' n l h : Nat} {z z' v : Value} {d' : TypeDesc} {xs : List Value} (ht : Ty P t (.slice el) s bs z) (hel : Ty P el d' s' bs' z') (hx : ev e x = v) (hS : Sl w s' v n xs) (hl : Lo e lo l) (hh : Hi e hi h n) (h1 : l ≤ h) (h2 : h ≤ n) : 
    ∃ v', v'.ownBlock = v.ownBlock ∧ Sl w s' v' (h - l) ((xs.drop (l * s')).take ((h - l) * s')) ∧ ∀ w', OP P e (.slice t x lo hi none) ty w' (fun u w1 => w1 = w' ∧ v' = u) := by
  obtain ⟨a, c, rfl⟩ := hS.isSlice
  have hnc : n ≤ c := by
    rcases hS.val with ⟨rfl, _⟩ | ⟨b, off, c', hv, hnc, _⟩
    · omega
    · simp only [Value.slice.injEq] at hv; omega
  exact ⟨sliced a l h c s', sliced_own _ _ _ _ _ _ _, hS.sliced l h h1 h2, fun w' => o_slv ht hel hx hl hh h1 (by omega) ⟨rfl, rfl⟩⟩
/-- a slice of an array behind a pointer -/
theorem o_sa {x : Operand} {t el : TypeId} {lo hi : Option Operand} {s bs s' bs' n l h b o : Nat} {z z' : Value} {d' : TypeDesc} (ht : Ty P t (.array n el) s bs z) (hel : Ty P el d' s' bs' z') (hx : ev e x = .pointer (some ⟨b, o, none⟩)) (hl : Lo e lo l) (hh : Hi e hi h n) (h1 : l ≤ h) (h2 : h ≤ n)
    (k : K (.slice (some (if n = l then ⟨b, o, none⟩ else ⟨b, o + l * s', none⟩)) (h - l) (n - l)) w) : OP P e (.slice t x lo hi none) ty w K := by
  refine OP.of ?_ k
  simp [execOp, Instr.sliceAt, ht.run_und, hx, Instr.sureAddr, bounds_run hl hh h1 h2, hel.run_size, add_none]
/-- a piece of a text -/
theorem o_ss {x : Operand} {t : TypeId} {lo hi : Option Operand} {s bs l h : Nat} {z : Value} {a : ByteArray} (ht : Ty P t .string s bs z) (hx : ev e x = .string a) (hl : Lo e lo l) (hh : Hi e hi h a.size) (h1 : l ≤ h) (h2 : h ≤ a.size)
    (k : K (.string (a.extract l h)) w) : OP P e (.slice t x lo hi none) ty w K := by
  refine OP.of ?_ k
  simp [execOp, Instr.sliceAt, Instr.slice, ht.run_und, hx, bounds_run hl hh h1 h2]

/-! ### built by value -/
inductive Sizes (P : Program) : List Field → List (Nat × Nat) → Prop
  | nil : Sizes P [] []
  | cons {f : Field} {fs : List Field} {pl : List (Nat × Nat)} {d : TypeDesc} {s bs : Nat} {z : Value} : Ty P f.type d s bs z → Sizes P fs pl → Sizes P (f :: fs) ((f.offset, s) :: pl)
theorem Sizes.run {fs : List Field} {pl : List (Nat × Nat)} (h : Sizes P fs pl) : (fs.toArray.mapM fun f => do pure (f.offset, ← sizeOf f.type) : Sem (Array (Nat × Nat))).run P w = .ok pl.toArray w := by
  rw [List.mapM_toArray]
  rw [Sem.run_map]
  have : (fs.mapM fun f => do pure (f.offset, ← sizeOf f.type) : Sem (List (Nat × Nat))).run P w = .ok pl w := by
    induction h with
    | nil => rfl
    | cons hf _ ih =>
      rw [List.mapM_cons]
      simp only [Sem.run_bind, hf.run_size, Result.andThen_ok, Sem.run_pure]
      rw [ih]; rfl
  rw [this]; rfl
theorem o_bld {t : TypeId} {fs : List Field} {pl : List (Nat × Nat)} {s bs : Nat} {z : Value} {parts : List (Nat × Operand)} {vs : List (Nat × Value)} {cells : Array Value} (ht : Ty P t (.struct fs.toArray) s bs z) (hs : Sizes P fs pl) (hp : (parts.map fun (i, x) => (i, ev e x)) = vs)
    (hf : Instr.fill (pl.toArray[·]?) z.cells vs = some cells) (k : K (.agg cells) w) : OP P e (.build t parts.toArray) ty w K := by
  subst hp
  refine OP.of ?_ k
  simp only [execOp, Instr.build, Sem.run_bind, ht.run_zero, Result.andThen_ok, ht.run_und, hs.run, List.map_toArray]
  rw [hf]
  rfl

/-! ### slices written out -/
theorem fill_one {s : Nat} {v : Value} {cells : Array Value} (hv : v.cells.size = s) (hc : cells.size = s) : Instr.fill (fun i => some (i * s, s)) cells [(0, v)] = some v.cells := by
  simp only [Instr.fill, Nat.zero_mul, Nat.zero_add, hv, hc, ne_eq, not_true_eq_false, decide_false, Nat.lt_irrefl, gt_iff_lt, Bool.or_self, Bool.false_eq_true, if_false]
  congr 1
  apply Array.ext_getElem?
  intro i
  have key : ∀ (l : List (Value × Nat)) (cs : Array Value), (l.foldl (fun cs (x : Value × Nat) => cs.setIfInBounds x.2 x.1) cs).size = cs.size := by
    intro l; induction l with
    | nil => intro cs; rfl
    | cons x l ih => intro cs; rw [List.foldl_cons, ih]; simp
  have gen : ∀ (l : List Value) (k : Nat) (cs : Array Value) (j : Nat), k + l.length ≤ cs.size → ((l.zipIdx k).foldl (fun cs (x : Value × Nat) => cs.setIfInBounds x.2 x.1) cs)[j]? = if k ≤ j ∧ j < k + l.length then l[j - k]? else cs[j]? := by
    intro l
    induction l with
    | nil => intro k cs j _; simp; intro h1 h2; omega
    | cons x l ih =>
      intro k cs j h
      simp only [List.length_cons] at h
      rw [List.zipIdx_cons, List.foldl_cons, ih (k + 1) _ j (by simp; omega)]
      simp only [List.length_cons]
      by_cases hj : j = k
      · subst hj
        rw [if_neg (by omega), if_pos (by omega)]
        simp [Array.getElem?_setIfInBounds]; omega
      · by_cases h2 : k + 1 ≤ j ∧ j < k + 1 + l.length
        · rw [if_pos h2, if_pos (by omega)]
          rw [show j - k = (j - (k + 1)) + 1 by omega]; rfl
        · rw [if_neg h2, if_neg (by omega), Array.getElem?_setIfInBounds, if_neg (by omega)]
  have := gen v.cells.toList 0 cells i (by simp [hv, hc])
  rw [← Array.foldl_toList, Array.toList_zipIdx]
  rw [this]
  by_cases hi : i < v.cells.size
  · simp [hi]
  · simp [hi]; omega
theorem o_bs1 {t el : TypeId} {s bs s' bs' : Nat} {z z' v : Value} {d' : TypeDesc} {x : Operand} (ht : Ty P t (.slice el) s bs z) (hel : Ty P el d' s' bs' z') (hx : ev e x = v) (hs : 0 < s') (hs2 : s' ≤ 16777216) (hv : v.cells.size = s')
    (k : K (.slice (some ⟨w.heap.size, 0, none⟩) 1 1) (w.alloc (.cells v.cells el))) : OP P e (.buildSlice t 1 #[(0, x)]) ty w K := by
  refine o_bs ht hel (by simp; omega) (cells := v.cells) ?_ (by simp; omega) k
  simp only [List.map_toArray, List.map_cons, List.map_nil, hx]
  exact fill_one hv (by simp)
theorem o_bs0 {t el : TypeId} {s bs s' bs' : Nat} {z z' : Value} {d' : TypeDesc} (ht : Ty P t (.slice el) s bs z) (hel : Ty P el d' s' bs' z')
    (k : K (.slice (some ⟨w.heap.size, 0, none⟩) 0 0) (w.alloc (.cells #[] el))) : OP P e (.buildSlice t 0 #[]) ty w K := by
  refine OP.of ?_ k
  simp [execOp, Instr.buildSlice, ht.run_und, hel.run_size, Instr.fill, newRow, Array.range_zero']
theorem Sl.one {w : World} {v : Value} {el s : Nat} (hv : v.cells.size = s) : Sl (w.alloc (.cells v.cells el)) s (.slice (some ⟨w.heap.size, 0, none⟩) 1 1) 1 v.cells.toList :=
  ⟨by simp [hv], .inr ⟨w.heap.size, 0, 1, rfl, by omega, Cells.of (heap_alloc_new w _) 0 _ (by simp)⟩⟩
/-- the cells of a block of our own, as a slice -/
theorem Sl.blk {w : World} {b n c s : Nat} {cs : Array Value} {el : TypeId} {fr : Nat × Nat} (h : w.heap[b]? = some (.cells cs el fr)) (off : Nat) (xs : List Value) (hx : xs.length = n * s) (hc : n ≤ c) (hxs : ∀ i v, xs[i]? = some v → cs[off + i]? = some v) : Sl w s (.slice (some ⟨b, off, none⟩) n c) n xs :=
  ⟨hx, .inr ⟨b, off, c, rfl, hc, Cells.of h off xs hxs⟩⟩

theorem one1 {v : Value} (h : v.oneCell' = true) : ∀ a ∈ v.cells.toList, a.oneCell' = true := by
  have : v.cells = #[v] := by cases v <;> first | rfl | simp [Value.oneCell'] at h
  rw [this]; intro a ha; simp at ha; subst ha; exact h
/-- append of one element, the slice of one that it makes with it -/
theorem WL.ap1 {all rest : List Oper} {Q : Exit → Env → World → Prop} {n d1 d2 : Nat} {t el ty2 : TypeId} {s bs s' bs' m : Nat} {z z' v u : Value} {d' : TypeDesc} {x y : Operand} {xs : List Value} {pos pos2 : String} {after after2 : Array Edge} (base : Nat)
    (hd1 : Nat.blt d1 n = true) (hd2 : Nat.blt d2 n = true) (ht : Ty P t (.slice el) s bs z) (hel : Ty P el d' s' bs' z') (hx : ev e x = u) (hy : ev (upd e d1 (.slice (some ⟨w.heap.size, 0, none⟩) 1 1)) y = v) (hown : w.ownsRow base el s' v m xs)
    (hs : 0 < s') (hs2 : s' ≤ 16777216) (hu : u.cells.size = s') (h1 : ∀ a ∈ u.cells.toList, a.oneCell' = true) (hzs : z'.cells.size = s') (h63 : m + 1 ≤ maxLen) (hby : (m + 1) * bs' ≤ 140737488355328) (hbase : base ≤ w.heap.size)
    (k : ∀ v' w', w'.ownsRow base el s' v' (m + 1) (xs ++ u.cells.toList) → Only (fun k => v.ownBlock = some k) w w' → WL P all rest Q n (upd (upd e d1 (.slice (some ⟨w.heap.size, 0, none⟩) 1 1)) d2 v') w') :
    WL P all (⟨some d1, .buildSlice t 1 #[(0, x)], ty, pos, after, none⟩ :: ⟨some d2, .call ⟨.builtin .append, #[y, .tmp d1], #[t, t]⟩, ty2, pos2, after2, none⟩ :: rest) Q n e w := by
  refine WL.c hd1 (o_bs1 ht hel hx hs hs2 hu (WL.c hd2 (o_ap base ht hel hy (u := .slice (some ⟨w.heap.size, 0, none⟩) 1 1) (by simp [ev, upd]) (hown.alloc _) (Sl.one hu) hzs hs h1 h63 hby (by simp; omega) ?_)))
  intro v' w' ho hg
  refine k v' w' ho ?_
  refine (Only.alloc w _).trans' (Only.grown hg) (fun _ h => h.elim) (fun k _ h => h.symm)

theorem o_eqSN {x y : Operand} {t u el : TypeId} {s b n c : Nat} {z : Value} {a : Option Addr} (ht : Ty P t (.slice el) s b z) (hx : ev e x = .slice a n c) (hy : ev e y = .slice none 0 0) (k : K (.bool a.isNone) w) : OP P e (.binOp .eql t x y u) ty w K := by
  obtain ⟨d, hd⟩ := equal_d t (.slice a n c) (.slice none 0 0)
  refine OP.of ?_ k
  cases a <;> simp [execOp, eqGuard, binOp, hx, hy, hd, Op.equalIn, ht.run_und]
theorem o_boxh {t : TypeId} {x : Operand} {v : Value} (hx : ev e x = v) (k : K (.pointer (some ⟨w.heap.size, 0, none⟩)) (w.alloc (.cells v.cells t))) : OP P e (.box t x) ty w K :=
  o_box (by rw [hx]; exact k)
end
end Go.Vc
