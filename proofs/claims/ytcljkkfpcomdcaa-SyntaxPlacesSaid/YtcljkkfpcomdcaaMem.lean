/-
  The walker's laws for what reads and writes memory, over any program: cells, slices that are read, slices that the call owns, calls.
-/
import Derived.Test.YtcljkkfpcomdcaaOp
set_option linter.unusedSimpArgs false
set_option linter.unusedVariables false
namespace Go.Vc
open Go Go.RowKit

/-! ### What a step leaves as it was -/
structure Only (F : Nat → Prop) (w w' : World) : Prop where
  os : w'.os = w.os
  tape : w'.tape = w.tape
  output : w'.output = w.output
  size : w.heap.size ≤ w'.heap.size
  block : ∀ k, k < w.heap.size → ¬ F k → w'.heap[k]? = w.heap[k]?
def No : Nat → Prop := fun _ => False
abbrev Ext (w w' : World) : Prop := Only No w w'

theorem Only.refl (F : Nat → Prop) (w : World) : Only F w w := ⟨rfl, rfl, rfl, Nat.le_refl _, fun _ _ _ => rfl⟩
theorem Only.trans' {F G H : Nat → Prop} {a b c : World} (h : Only F a b) (k : Only G b c) (hF : ∀ k, F k → H k) (hG : ∀ k, k < a.heap.size → G k → H k) : Only H a c :=
  ⟨k.os.trans h.os, k.tape.trans h.tape, k.output.trans h.output, Nat.le_trans h.size k.size, fun i hi hn =>
    (k.block i (Nat.lt_of_lt_of_le hi h.size) fun hg => hn (hG i hi hg)).trans (h.block i hi fun hf => hn (hF i hf))⟩
theorem Only.trans {F : Nat → Prop} {a b c : World} (h : Only F a b) (k : Only F b c) : Only F a c := h.trans' k (fun _ h => h) (fun _ _ h => h)
theorem Only.mono {F G : Nat → Prop} {a b : World} (h : Only F a b) (hF : ∀ k, k < a.heap.size → F k → G k) : Only G a b :=
  ⟨h.os, h.tape, h.output, h.size, fun k hk hn => h.block k hk fun hf => hn (hF k hk hf)⟩
theorem Only.ext {F : Nat → Prop} {a b c : World} (h : Only F a b) (k : Ext b c) : Only F a c := h.trans' k (fun _ h => h) (fun _ _ h => h.elim)
theorem Only.grown {a b : World} {row : Option Nat} (h : a.grownBy b row) : Only (fun k => some k = row) a b :=
  ⟨h.os, h.tape, h.output, h.size, fun k hk hn => h.block k hk hn⟩
theorem Only.alloc (w : World) (o : Obj) : Ext w (w.alloc o) := ⟨rfl, rfl, rfl, by simp, fun k hk _ => heap_alloc_old w o hk⟩
theorem Only.setCell (w : World) (a : Addr) (v : Value) : Only (fun k => k = a.block) w (w.setCell a v) :=
  ⟨rfl, rfl, rfl, by simp [World.setCell], fun k _ hn => heap_setCell_other w a k v hn⟩
theorem Only.drew (w : World) : Ext w w.drew := ⟨rfl, rfl, rfl, Nat.le_refl _, fun _ _ _ => rfl⟩
theorem Only.drewN (w : World) (n : Nat) : Ext w (w.drewN n) := ⟨rfl, rfl, rfl, Nat.le_refl _, fun _ _ _ => rfl⟩
theorem Only.below {B : Nat} {a b : World} (h : Only (fun k => B ≤ k) a b) (hB : B ≤ a.heap.size) : Below B a b :=
  ⟨h.os, h.tape, h.output, h.size, fun k hk => h.block k (Nat.lt_of_lt_of_le hk hB) (by omega)⟩

theorem cell_lt {w : World} {b o : Nat} {v : Value} (h : w.cell? ⟨b, o, none⟩ = some v) : b < w.heap.size := block_lt_of_cell h
theorem Only.cell {F : Nat → Prop} {a b : World} (h : Only F a b) {k o : Nat} {v : Value} (hc : a.cell? ⟨k, o, none⟩ = some v) (hn : ¬ F k) : b.cell? ⟨k, o, none⟩ = some v :=
  (World.cell?_of_block (h.block k (cell_lt hc) hn)).trans hc
theorem Only.blk {F : Nat → Prop} {a b : World} (h : Only F a b) {k : Nat} {o : Obj} (hc : a.heap[k]? = some o) (hn : ¬ F k) : b.heap[k]? = some o :=
  (h.block k (Array.getElem?_eq_some_iff.1 hc).1 hn).trans hc

theorem add_none (b o n : Nat) : (⟨b, o, none⟩ : Addr).add n = ⟨b, o + n, none⟩ := by unfold Addr.add; split <;> simp_all
theorem cell_of {w : World} {b o : Nat} {cs : Array Value} {t : TypeId} {fr : Nat × Nat} {v : Value} (h : w.heap[b]? = some (.cells cs t fr)) (hv : cs[o]? = some v) : w.cell? ⟨b, o, none⟩ = some v := by
  rw [cell_of_row w b o cs t fr h]; exact hv
theorem free_of {w : World} {b o : Nat} {cs : Array Value} {t : TypeId} (h : w.heap[b]? = some (.cells cs t (0, 0))) : w.frozen? ⟨b, o, none⟩ = false := frozen_of_row w b o cs t h

/-! ### A row of cells that is read -/
def Cells (w : World) (b off : Nat) (xs : List Value) : Prop := ∀ i v, xs[i]? = some v → w.cell? ⟨b, off + i, none⟩ = some v
theorem Cells.only {F : Nat → Prop} {w w' : World} {b off : Nat} {xs : List Value} (h : Cells w b off xs) (ho : Only F w w') (hn : ¬ F b) : Cells w' b off xs :=
  fun i v hv => ho.cell (h i v hv) hn
theorem Cells.of {w : World} {b : Nat} {cs : Array Value} {t : TypeId} {fr : Nat × Nat} (h : w.heap[b]? = some (.cells cs t fr)) (off : Nat) (xs : List Value) (hx : ∀ i v, xs[i]? = some v → cs[off + i]? = some v) : Cells w b off xs :=
  fun i v hv => cell_of h (hx i v hv)
theorem Cells.sub {w : World} {b off : Nat} {xs : List Value} (h : Cells w b off xs) (k n : Nat) : Cells w b (off + k) ((xs.drop k).take n) := by
  intro i v hv
  rw [Nat.add_assoc]
  refine h _ v ?_
  rw [List.getElem?_take] at hv
  split at hv
  · simpa using hv
  · cases hv

/-- A slice value, read: n elements of s cells each. -/
structure Sl (w : World) (s : Nat) (v : Value) (n : Nat) (xs : List Value) : Prop where
  len : xs.length = n * s
  val : (n = 0 ∧ ∃ a c, v = .slice a 0 c) ∨ ∃ b off c, v = .slice (some ⟨b, off, none⟩) n c ∧ n ≤ c ∧ Cells w b off xs

theorem Sl.only {F : Nat → Prop} {w w' : World} {s : Nat} {v : Value} {n : Nat} {xs : List Value} (h : Sl w s v n xs) (ho : Only F w w') (hn : ∀ b, v.ownBlock = some b → ¬ F b) : Sl w' s v n xs :=
  ⟨h.len, h.val.imp id fun ⟨b, off, c, hv, hnc, hc⟩ => ⟨b, off, c, hv, hnc, hc.only ho (hn b (by rw [hv]; rfl))⟩⟩
theorem Sl.ext {w w' : World} {s : Nat} {v : Value} {n : Nat} {xs : List Value} (h : Sl w s v n xs) (ho : Ext w w') : Sl w' s v n xs := h.only ho (fun _ _ h => h.elim)
theorem Sl.nil (w : World) (s : Nat) : Sl w s (.slice none 0 0) 0 [] := ⟨by simp, .inl ⟨rfl, none, 0, rfl⟩⟩
theorem Sl.own {w : World} {base : Nat} {e : TypeId} {s : Nat} {v : Value} {n : Nat} {xs : List Value} (h : w.ownsRow base e s v n xs) : Sl w s v n xs := by
  refine ⟨h.1, ?_⟩
  rcases h.2 with h | ⟨g, cap, cur, rfl, _, hg, hnc, _, hcs, ht⟩
  · exact .inl ⟨h.2, none, 0, h.1⟩
  · refine .inr ⟨g, 0, cap, rfl, by assumption, Cells.of hg 0 xs ?_⟩
    intro i v hv
    rw [← ht, List.getElem?_take] at hv
    split at hv
    · simpa using hv
    · cases hv
theorem Sl.isSlice {w : World} {s : Nat} {v : Value} {n : Nat} {xs : List Value} (h : Sl w s v n xs) : ∃ a c, v = .slice a n c := by
  rcases h.val with ⟨rfl, a, c, rfl⟩ | ⟨b, off, c, rfl, _, _⟩ <;> exact ⟨_, _, rfl⟩
theorem Sl.lt {w : World} {s : Nat} {v : Value} {n : Nat} {xs : List Value} (h : Sl w s v n xs) (hn : 0 < n * s) {b : Nat} (hb : v.ownBlock = some b) : b < w.heap.size := by
  rcases h.val with ⟨rfl, _⟩ | ⟨b', off, c, rfl, _, hc⟩
  · omega
  · simp only [Value.ownBlock, Option.some.injEq] at hb
    subst hb
    have := h.len
    cases xs with
    | nil => simp at this; omega
    | cons x xs => exact cell_lt (hc 0 x rfl)

/-! ### Calls -/
def Ca (P : Program) (f : FuncId) (args : Array Value) (w : World) (R : Value → World → Prop) : Prop := Calls P f args w (fun e w' => match e with | .returned v => R v w' | _ => False)
theorem Ca.mono {P : Program} {f : FuncId} {args : Array Value} {w : World} {R R' : Value → World → Prop} (h : Ca P f args w R) (hr : ∀ v w', R v w' → R' v w') : Ca P f args w R' :=
  Calls.mono h fun e w' he => by cases e <;> simp only at he ⊢ <;> first | exact hr _ _ he | exact he
theorem Ca.of {P : Program} {f : FuncId} {fn : Func} {c : Code} {l : List Value} {w : World} {R : Value → World → Prop} {n : Nat} (hf : P.funcs[f]? = some fn) (hm : fn.ntmps = n) (hb : fn.body = some c)
    (hn : Nat.ble l.length n = true) (h : W P c (post fn P R) n (envOf l) w) : Ca P f l.toArray w R :=
  calls_of hf hb hm hn (fun _ _ h => h) h
theorem ln {e : Env} : ([] : List Operand).map (ev e) = [] := rfl
theorem lc {e : Env} {x : Operand} {l : List Operand} {a : Value} {as : List Value} (h : ev e x = a) (t : l.map (ev e) = as) : (x :: l).map (ev e) = a :: as := by simp [h, t]

section
variable {P : Program} {e : Env} {w : World} {K : Value → World → Prop} {ty : TypeId}

theorem o_call {f : FuncId} {l : List Operand} {vs : List Value} {ats : Array TypeId} (hc : ∀ args w, (callFunc f args).run P w = .ok (.enter f args) w) (ha : l.map (ev e) = vs) (h : Ca P f vs.toArray w K) : OP P e (.call ⟨.value (.func f), l.toArray, ats⟩) ty w K := by
  subst ha
  unfold OP
  have : (execOp (ev e) ⟨none, .call ⟨.value (.func f), l.toArray, ats⟩, ty, "", #[], none⟩).run P w = .ok (.enter f (l.map (ev e)).toArray) w := by
    simp [execOp, resolve, Deferred.ofValue, ev, invoke, hc]
  rw [this]
  exact h

/-! ### Loads and stores -/
theorem o_ld {x : Operand} {t : TypeId} {d : TypeDesc} {s bs b o : Nat} {z v : Value} (ht : Ty P t d s bs z) (hd : isAggD d = false) (hx : ev e x = .pointer (some ⟨b, o, none⟩)) (hc : w.cell? ⟨b, o, none⟩ = some v) (k : K v w) : OP P e (.load t x) ty w K :=
  OP.of (by simp [execOp, Instr.loadAt, Instr.sureAddr, hx, loadVar, ht.run_agg, hd, hc]) k
theorem o_ldA {x : Operand} {t : TypeId} {d : TypeDesc} {s bs b o : Nat} {z : Value} {xs : List Value} (ht : Ty P t d s bs z) (hd : isAggD d = true) (hx : ev e x = .pointer (some ⟨b, o, none⟩)) (hc : Cells w b o xs) (hl : xs.length = s) (k : K (.agg xs.toArray) w) : OP P e (.load t x) ty w K := by
  have h := run_loadCells_list (P := P) w ⟨b, o, none⟩ xs (fun j v hj => by rw [add_none]; exact hc j v hj)
  rw [hl] at h
  exact OP.of (by simp [execOp, Instr.loadAt, Instr.sureAddr, hx, loadVar, ht.run_agg, hd, ht.run_size, h]) k
theorem o_st {x y : Operand} {t : TypeId} {d : TypeDesc} {bs b o : Nat} {z v u : Value} (ht : Ty P t d 1 bs z) (hx : ev e x = .pointer (some ⟨b, o, none⟩)) (hy : ev e y = v) (hv : v.oneCell' = true) (hc : w.cell? ⟨b, o, none⟩ = some u) (hf : w.frozen? ⟨b, o, none⟩ = false) (k : K undef (w.setCell ⟨b, o, none⟩ v)) : OP P e (.store t x y) ty w K := by
  have hcs : v.cells = #[v] := by cases v <;> first | rfl | simp [Value.oneCell'] at hv
  have hst : (store ⟨b, o, none⟩ v).run P w = .ok () (w.setCell ⟨b, o, none⟩ v) := by
    cases v <;> first | (simp [Value.oneCell'] at hv; done) | simp [store, Sem.run, hc, hf]
  refine OP.ofS ?_ k
  simp [execOp, Instr.storeAt, Instr.sureAddr, hx, hy, storeVar, hcs, ht.run_size, storeCells, hst, add_none]

theorem o_al {t : TypeId} {d : TypeDesc} {s bs : Nat} {z : Value} (ht : Ty P t d s bs z) (k : K (.pointer (some ⟨w.heap.size, 0, none⟩)) (w.alloc (.cells z.cells t))) : OP P e (.alloc t) ty w K :=
  OP.of (by simp [execOp, Instr.alloc, ht.run_zero, newVar, newRow]) k
theorem o_box {t : TypeId} {x : Operand} (k : K (.pointer (some ⟨w.heap.size, 0, none⟩)) (w.alloc (.cells (ev e x).cells t))) : OP P e (.box t x) ty w K :=
  OP.of (by simp [execOp, Instr.box, newVar, newRow]) k

/-! ### Addresses -/
theorem o_fa {x : Operand} {t ft : TypeId} {fs : Array Field} {f : Nat} {s bs b o s' bs' : Nat} {z z' : Value} {d' : TypeDesc} (off : Nat) (ht : Ty P t (.struct fs) s bs z) (hf : (fs[f]?).map (fun x => (x.type, x.offset)) = some (ft, off)) (hft : Ty P ft d' s' bs' z') (hs : (s' == 0) = false)
    (hx : ev e x = .pointer (some ⟨b, o, none⟩)) (k : K (.pointer (some ⟨b, o + off, none⟩)) w) : OP P e (.fieldAddr t x f) ty w K := by
  have hs' : ¬ s' = 0 := by simpa using hs
  obtain ⟨fd, hf2, hfd⟩ := Option.map_eq_some_iff.1 hf
  simp only [Prod.mk.injEq] at hfd
  obtain ⟨rfl, rfl⟩ := hfd
  clear hf
  exact OP.of (by simp [execOp, Instr.fieldAt, ht.run_und, hf2, Instr.sureAddr, hx, fieldPlace, hft.run_size, hs', add_none]) k
/-- an element of a slice that is read -/
theorem o_ix {x y : Operand} {t el : TypeId} {s bs s' bs' i n : Nat} {z z' v : Value} {d' : TypeDesc} {xs : List Value} {ik : IntKind} (ht : Ty P t (.slice el) s bs z) (hel : Ty P el d' s' bs' z') (hx : ev e x = v) (hy : ev e y = .int ik (i : Int)) (hS : Sl w s' v n xs) (hi : i < n)
    (k : ∀ b o c, v = .slice (some ⟨b, o, none⟩) n c → Cells w b (o + i * s') ((xs.drop (i * s')).take s') → K (.pointer (some ⟨b, o + i * s', none⟩)) w) : OP P e (.indexAddr t x y) ty w K := by
  rcases hS.val with ⟨rfl, _⟩ | ⟨b, off, c, rfl, hnc, hc⟩
  · omega
  · refine OP.of ?_ (k b off c rfl (hc.sub _ _))
    simp [execOp, Instr.indexAt, ht.run_und, hx, hy, asIntOf, hi, hel.run_size, add_none]
/-- .. of one cell -/
theorem o_ix1 {x y : Operand} {t el : TypeId} {s bs bs' i n : Nat} {z z' v : Value} {d' : TypeDesc} {xs : List Value} {ik : IntKind} (ht : Ty P t (.slice el) s bs z) (hel : Ty P el d' 1 bs' z') (hx : ev e x = v) (hy : ev e y = .int ik (i : Int)) (hS : Sl w 1 v n xs) (hi : i < n)
    (k : ∀ b o, w.cell? ⟨b, o, none⟩ = xs[i]? → v.ownBlock = some b → K (.pointer (some ⟨b, o, none⟩)) w) : OP P e (.indexAddr t x y) ty w K := by
  refine o_ix ht hel hx hy hS hi fun b o c hv hc => ?_
  refine k b (o + i * 1) ?_ (by rw [hv]; rfl)
  have hl : i < xs.length := by rw [hS.len]; omega
  have h0 := hc 0 xs[i] (by simp [hl])
  simpa [hl] using h0
/-- an element of an array behind a pointer -/
theorem o_ixA {x y : Operand} {t el : TypeId} {s bs s' bs' len b o : Nat} {z z' : Value} {d' : TypeDesc} {i : Nat} {ik : IntKind} (ht : Ty P t (.array len el) s bs z) (hel : Ty P el d' s' bs' z') (hx : ev e x = .pointer (some ⟨b, o, none⟩)) (hy : ev e y = .int ik (i : Int)) (hi : i < len)
    (k : K (.pointer (some ⟨b, o + i * s', none⟩)) w) : OP P e (.indexAddr t x y) ty w K :=
  OP.of (by simp [execOp, Instr.indexAt, ht.run_und, hx, hy, asIntOf, Instr.sureAddr, hi, hel.run_size, add_none]) k

/-! ### len, slicing -/
theorem o_len {x : Operand} {t el : TypeId} {s bs n c : Nat} {z : Value} {a : Option Addr} (ht : Ty P t (.slice el) s bs z) (hx : ev e x = .slice a n c) (k : K (.int .i64 (n : Int)) w) : OP P e (.call ⟨.builtin .len, #[x], #[t]⟩) ty w K :=
  OP.of (by simp [execOp, resolve, invoke, builtin, Builtin.len_, ht.run_und, hx, goInt]) k
theorem o_lenS {x : Operand} {t : TypeId} {s bs : Nat} {z : Value} {a : ByteArray} (ht : Ty P t .string s bs z) (hx : ev e x = .string a) (k : K (.int .i64 (a.size : Int)) w) : OP P e (.call ⟨.builtin .len, #[x], #[t]⟩) ty w K :=
  OP.of (by simp [execOp, resolve, invoke, builtin, Builtin.len_, ht.run_und, hx, goInt]) k
/-- len of a slice of which only the reading is known -/
theorem o_lenR {x : Operand} {t el : TypeId} {s bs s' n : Nat} {z v : Value} {xs : List Value} (ht : Ty P t (.slice el) s bs z) (hx : ev e x = v) (hS : Sl w s' v n xs) (k : K (.int .i64 (n : Int)) w) : OP P e (.call ⟨.builtin .len, #[x], #[t]⟩) ty w K := by
  obtain ⟨a, c, rfl⟩ := hS.isSlice
  exact o_len ht hx k

/-! ### make, append, and slices written out -/
theorem o_bs {t el : TypeId} {len s bs s' bs' : Nat} {z z' : Value} {d' : TypeDesc} {parts : Array (Nat × Operand)} {cells : Array Value} (ht : Ty P t (.slice el) s bs z) (hel : Ty P el d' s' bs' z') (hlen : (len * s' > 2 ^ 24) = False)
    (hfill : Instr.fill (fun i => some (i * s', s')) ((Array.range (len * s')).map (z'.cells[· % z'.cells.size]!)) (parts.map fun (i, x) => (i, ev e x)).toList = some cells)
    (hz : (len * s' = 0) = False)
    (k : K (.slice (some ⟨w.heap.size, 0, none⟩) len len) (w.alloc (.cells cells el))) : OP P e (.buildSlice t len parts) ty w K := by
  refine OP.of ?_ k
  simp only [execOp, Instr.buildSlice, Sem.run_bind, ht.run_und, Result.andThen_ok, hel.run_size, hlen, if_false, hz, hel.run_zero, Sem.run_pure]
  rw [hfill]
  simp [newRow]
theorem o_mk {x y : Operand} {t el : TypeId} {s bs s' bs' n : Nat} {z z' : Value} {d' : TypeDesc} {kl kc : IntKind} (ht : Ty P t (.slice el) s bs z) (hel : Ty P el d' s' bs' z') (hx : ev e x = .int kl (n : Int)) (hy : ev e y = .int kc (n : Int)) (hb : bs' * n ≤ 281474976710656) (h63 : n ≤ 9223372036854775807)
    (k : K (.slice (some ⟨w.heap.size, 0, none⟩) n n) (w.alloc (.cells (madeCells z'.cells (n * s')) el))) : OP P e (.makeSlice t x y) ty w K := by
  obtain ⟨i, h1, h2, h3, h4⟩ := hel.info
  subst h2 h3
  have hb' : (i.bytes : Int) * (n : Int) ≤ 281474976710656 := by
    have : ((i.bytes * n : Nat) : Int) ≤ 281474976710656 := by omega
    rwa [Int.natCast_mul] at this
  have h := run_make (P := P) w t el i z' ht.und h1 h4 kl kc n n (by omega) (Int.le_refl _) hb' (by omega)
  simp only [Int.toNat_natCast] at h
  exact OP.of (by simp [execOp, hx, hy, h]) k

theorem o_ap {x y : Operand} {t el : TypeId} {s bs s' bs' n m : Nat} {z z' v u : Value} {d' : TypeDesc} {xs ys : List Value} (base : Nat) (ht : Ty P t (.slice el) s bs z) (hel : Ty P el d' s' bs' z') (hx : ev e x = v) (hy : ev e y = u)
    (hown : w.ownsRow base el s' v n xs) (hS : Sl w s' u m ys) (hzs : z'.cells.size = s') (hsz : 0 < s') (h1 : ∀ a ∈ ys, a.oneCell' = true) (h63 : n + m ≤ maxLen) (hby : (n + m) * bs' ≤ 140737488355328) (hbase : base ≤ w.heap.size)
    (k : ∀ v' w', w'.ownsRow base el s' v' (n + m) (xs ++ ys) → w.grownBy w' v.ownBlock → K v' w') : OP P e (.call ⟨.builtin .append, #[x, y], #[t, t]⟩) ty w K := by
  obtain ⟨i, hi1, hi2, hi3, hi4⟩ := hel.info
  rcases hS.val with ⟨rfl, a, c, rfl⟩ | ⟨b, off, c, rfl, hnc, hc⟩
  · have hnil : ys = [] := List.eq_nil_of_length_eq_zero (by simpa using hS.len)
    subst hnil
    cases a with
    | some a =>
      obtain ⟨v', w', hr, h2, h3, _⟩ := run_append_own (P := P) w base t ty el i z' s' bs' ht.und hi1 hi4 hi2 hi3 hzs hsz v n xs hown a 0 c [] (by simp) (fun j u hj => by simp at hj) h1 h63 hby hbase
      exact OP.of (by simp [execOp, resolve, invoke, builtin, hx, hy, hr]) (k v' w' h2 h3)
    | none =>
    have hr : (Builtin.append_ #[t, t] ty #[v, .slice none 0 c]).run P w = .ok v w := by
      rcases hown.2 with ⟨rfl, rfl⟩ | ⟨g, cap, cur, rfl, _, _, hnc, _⟩
      · simp [Builtin.append_, run_underlying ht.und, sizeOf, typeInfo, hi1, Builtin.lenOf, Builtin.firstCells]
      · simp [Builtin.append_, run_underlying ht.und, sizeOf, typeInfo, hi1, Builtin.lenOf, Builtin.firstCells, hnc, storeCells]
    refine OP.of (v := v) (w' := w) (by simp [execOp, resolve, invoke, builtin, hx, hy, hr]) (k v w (by simpa using hown) ⟨rfl, rfl, rfl, Nat.le_refl _, fun _ _ _ => rfl⟩)
  · obtain ⟨v', w', hr, h2, h3, _⟩ := run_append_own (P := P) w base t ty el i z' s' bs' ht.und hi1 hi4 hi2 hi3 hzs hsz v n xs hown ⟨b, off, none⟩ m c ys hS.len (fun j u hj => by rw [add_none]; exact hc j u hj) h1 h63 hby hbase
    exact OP.of (by simp [execOp, resolve, invoke, builtin, hx, hy, hr]) (k v' w' h2 h3)

/-! ### bytes and strings -/
def bv (x : UInt8) : Value := .int .u8 (x.toNat : Int)
theorem one_bv {ys : List UInt8} : ∀ a ∈ ys.map bv, a.oneCell' = true := by
  intro a ha
  obtain ⟨x, _, rfl⟩ := List.mem_map.1 ha
  rfl
theorem ofNat_toNat (x : UInt8) : UInt8.ofNat (x.toNat : Int).toNat = x := by simp

theorem foldl_push (l : List UInt8) : ∀ r : ByteArray, (l.map fun x => (x.toNat : Int)).foldl (fun r n => r.push (UInt8.ofNat n.toNat)) r = ⟨r.data ++ l.toArray⟩ := by
  induction l with
  | nil => intro r; simp
  | cons x l ih =>
    intro r
    simp only [List.map_cons, List.foldl_cons, ofNat_toNat]
    rw [ih]
    simp [ByteArray.push]
theorem o_cvBS {x : Operand} {t el u : TypeId} {s bs s' bs' s2 bs2 n : Nat} {z z' z2 v : Value} {xs : List UInt8} (ht : Ty P t (.slice el) s bs z) (hel : Ty P el (.int .u8) s' bs' z') (hu : Ty P u .string s2 bs2 z2) (hx : ev e x = v) (hS : Sl w 1 v n (xs.map bv)) (k : K (.string ⟨xs.toArray⟩) w) : OP P e (.convert t u x) ty w K := by
  refine OP.of ?_ k
  rcases hS.val with ⟨rfl, a, c, rfl⟩ | ⟨b, off, c, rfl, hnc, hc⟩
  · have hnil : xs = [] := by have := hS.len; simpa using this
    subst hnil
    cases a with
    | none =>
      simp [execOp, hx, run_convert_bytes_string (P := P) w t u el none 0 c ht.und hel.und hu.und, Conv.bytesToString]
      rfl
    | some a =>
      have hl : (loadCells a 0).run P w = .ok (([] : List Int).map (Value.int .u8)).toArray w := rfl
      simp [execOp, hx, run_convert_bytes_string (P := P) w t u el _ 0 c ht.und hel.und hu.und, run_bytesToString w _ 0 c _ hl]
      rfl
  · have hl : (loadCells ⟨b, off, none⟩ n).run P w = .ok ((xs.map fun x => (x.toNat : Int)).map (Value.int .u8)).toArray w := by
      have h := run_loadCells_list (P := P) w ⟨b, off, none⟩ (xs.map bv) (fun j v hj => by rw [add_none]; exact hc j v hj)
      rw [hS.len, Nat.mul_one] at h
      rw [h, List.map_map]; rfl
    simp [execOp, hx, run_convert_bytes_string (P := P) w t u el _ n c ht.und hel.und hu.und, run_bytesToString w _ n c _ hl]
    rw [foldl_push]
    simp [ByteArray.empty, ByteArray.emptyWithCapacity]
    rfl
end
end Go.Vc
