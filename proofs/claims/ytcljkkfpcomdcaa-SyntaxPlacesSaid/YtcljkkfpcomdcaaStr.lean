/-
  The walker's laws: strings as lists of bytes; fields; structs compared; calls of function values.
-/
import Derived.Test.YtcljkkfpcomdcaaMore
import Derived.StringKeys
import Derived.Laws.StructEq
import Derived.Laws.Externs
import Derived.Laws.Tables
import Derived.Scope
set_option linter.unusedSimpArgs false
set_option linter.unusedVariables false
namespace Go.Vc
open Go Go.RowKit
variable {D : List Deferred}

/-! ### scopes without a goto -/
def ng (Q : Exit → Env → World → Prop) : Exit → Env → World → Prop
  | .goto _, _, _ => False
  | x, e, w => Q x e w
theorem W.scope {P : Program} {c : Code} {Q : Exit → Env → World → Prop} {n : Nat} {e : Env} {w : World} (h : W P c (ng Q) n e w) : W P (.scope c) Q n e w :=
  ⟨fun D a ha => wp_scope_straight (wp_mono (h.out D a ha) fun x a w ⟨e', hr, hq⟩ => by cases x <;> first | exact ⟨e', hr, hq⟩ | exact hq.elim)⟩
theorem W.label {P : Program} {l : Nat} {Q : Exit → Env → World → Prop} {n : Nat} {e : Env} {w : World} (h : Q .normal e w) : W P (.label l) Q n e w := ⟨fun D a ha => wp_label ⟨e, ha, h⟩⟩

/-- a string, by its bytes -/
abbrev st (xs : List UInt8) : Value := .string ⟨xs.toArray⟩
theorem st_data (s : ByteArray) : Value.string s = st s.data.toList := by simp [st]
theorem ba_list (xs : List UInt8) : (⟨xs.toArray⟩ : ByteArray).toList = xs := by rw [ByteArray.toList_eq]
theorem ba_extract (xs : List UInt8) (l h : Nat) : (⟨xs.toArray⟩ : ByteArray).extract l h = ⟨((xs.take h).drop l).toArray⟩ := by
  apply ByteArray.ext
  simp [List.drop_take]
theorem ba_append (xs ys : List UInt8) : ((⟨xs.toArray⟩ : ByteArray) ++ ⟨ys.toArray⟩) = ⟨(xs ++ ys).toArray⟩ := by
  apply ByteArray.ext
  simp
section
variable {P : Program} {e : Env} {w : World} {K : Value → World → Prop} {ty : TypeId} {xs ys : List UInt8}
theorem o_lenT {x : Operand} {t : TypeId} {s bs : Nat} {z : Value} (ht : Ty P t .string s bs z) (hx : ev e x = st xs) (k : K (.int .i64 (xs.length : Int)) w) : OP P e (.call ⟨.builtin .len, #[x], #[t]⟩) ty w K :=
  o_lenS ht hx k
theorem o_ssT {x : Operand} {t : TypeId} {lo hi : Option Operand} {s bs l h : Nat} {z : Value} (ht : Ty P t .string s bs z) (hx : ev e x = st xs) (hl : Lo e lo l) (hh : Hi e hi h xs.length) (h1 : l ≤ h) (h2 : h ≤ xs.length)
    (k : K (st ((xs.take h).drop l)) w) : OP P e (.slice t x lo hi none) ty w K :=
  o_ss ht hx hl hh h1 h2 (by rw [ba_extract]; exact k)
theorem o_idT {x y : Operand} {t : TypeId} {s bs i : Nat} {z : Value} {kd : IntKind} (ht : Ty P t .string s bs z) (hx : ev e x = st xs) (hy : ev e y = .int kd (i : Int)) (hi : i < xs.length)
    (k : K (bv xs[i]) w) : OP P e (.index t x y) ty w K := by
  refine OP.of ?_ k
  have h0 : (0 : Int) ≤ (i : Int) := by omega
  have hg : (⟨xs.toArray⟩ : ByteArray)[i]? = some xs[i] := by
    have := getElem?_pos (⟨xs.toArray⟩ : ByteArray) i (show i < ByteArray.size ⟨xs.toArray⟩ from hi)
    rw [this]; rfl
  simp [execOp, Instr.index, asIntOf, hx, hy, ht.run_und, hg, bv]
theorem o_eqT {x y : Operand} {t u : TypeId} (hx : ev e x = st xs) (hy : ev e y = st ys) (k : K (.bool (decide (xs = ys))) w) : OP P e (.binOp .eql t x y u) ty w K :=
  o_eqS hx hy (by rw [ba_list, ba_list]; have : (xs == ys) = decide (xs = ys) := by by_cases h : xs = ys <;> simp [h]
                  rw [this]; exact k)
theorem o_neT {x y : Operand} {t u : TypeId} (hx : ev e x = st xs) (hy : ev e y = st ys) (k : K (.bool (!decide (xs = ys))) w) : OP P e (.binOp .neq t x y u) ty w K :=
  o_neS hx hy (by rw [ba_list, ba_list]; have : (xs == ys) = decide (xs = ys) := by by_cases h : xs = ys <;> simp [h]
                  rw [this]; exact k)
theorem o_addT {x y : Operand} {t u : TypeId} (hx : ev e x = st xs) (hy : ev e y = st ys) (hb : xs.length + ys.length ≤ 9223372036854775807) (k : K (st (xs ++ ys)) w) : OP P e (.binOp .add t x y u) ty w K := by
  refine OP.of ?_ k
  simp [execOp, eqGuard, binOp, hx, hy, Op.stringOp]
  rw [if_neg, ba_append]
  show ¬ (9223372036854775807 : Int) < ((xs.length : Nat) : Int) + ((ys.length : Nat) : Int)
  omega
/-- a field of one cell -/
theorem o_fldT {x : Operand} {t u : TypeId} {i off s bs s' bs' : Nat} {z z' v : Value} {fs : Array Field} {f : Field} {d : TypeDesc} {cs : Array Value} (ht : Ty P t (.struct fs) s bs z) (hf : fs[i]? = some f) (hft : f.type = u) (hoff : f.offset = off) (hu : Ty P u d s' bs' z') (hd : isAggD d = false) (hx : ev e x = .agg cs) (hc : cs[off]? = some v) (k : K v w) : OP P e (.field t x i) ty w K := by
  subst hft hoff
  exact OP.of (by simp [execOp, Instr.field, ht.run_und, hf, hx, asAgg, part, hu.run_agg, hd, hc]) k
/-- a function value that holds nothing is called -/
theorem o_callF {g : Operand} {f : FuncId} {l : List Operand} {vs : List Value} {ats : Array TypeId} (hg : ev e g = .func (.func f) #[] #[]) (hc : ∀ args w, (callFunc f args).run P w = .ok (.enter f args) w) (ha : l.map (ev e) = vs) (h : Ca P f vs.toArray w K) : OP P e (.call ⟨.value g, l.toArray, ats⟩) ty w K := by
  subst ha
  unfold OP
  have : (execOp (ev e) ⟨none, .call ⟨.value g, l.toArray, ats⟩, ty, "", #[], none⟩).run P w = .ok (.enter f (l.map (ev e)).toArray) w := by
    simp [execOp, resolve, Deferred.ofValue, hg, invoke, hc]
  rw [this]
  exact h

/-! ### structs compared, field by field -/
inductive Leafs (P : Program) (xs ys : Array Value) : List Field → Bool → Prop
  | nil : Leafs P xs ys [] true
  | int {f : Field} {fs : List Field} {k k' : IntKind} {a b : Int} {r : Bool} {s bs : Nat} {z : Value} : Ty P f.type (.int k') s bs z → f.name ≠ "_" → xs[f.offset]? = some (.int k a) → ys[f.offset]? = some (.int k b) → Leafs P xs ys fs r → Leafs P xs ys (f :: fs) (decide (a = b) && r)
  | bool {f : Field} {fs : List Field} {a b r : Bool} {s bs : Nat} {z : Value} : Ty P f.type .bool s bs z → f.name ≠ "_" → xs[f.offset]? = some (.bool a) → ys[f.offset]? = some (.bool b) → Leafs P xs ys fs r → Leafs P xs ys (f :: fs) (a == b && r)
  | str {f : Field} {fs : List Field} {a b : List UInt8} {r : Bool} {s bs : Nat} {z : Value} : Ty P f.type .string s bs z → f.name ≠ "_" → xs[f.offset]? = some (st a) → ys[f.offset]? = some (st b) → Leafs P xs ys fs r → Leafs P xs ys (f :: fs) (decide (a = b) && r)
theorem part1 {f : TypeId} {d : TypeDesc} {s bs : Nat} {z v : Value} {cs : Array Value} {o : Nat} (hu : Ty P f d s bs z) (hd : isAggD d = false) (hc : cs[o]? = some v) (w : World) : (part f cs o).run P w = .ok v w := by
  simp [part, hu.run_agg, hd, hc]
theorem Leafs.run {xs ys : Array Value} {fs : List Field} {r : Bool} (h : Leafs P xs ys fs r) (d : Nat) (w : World) : (Op.eqFields (d + 1) xs ys fs).run P w = .ok r w := by
  induction h with
  | nil => simp [Op.eqFields]
  | int ht hn hx hy _ ih =>
    rename_i a b r _ _ _ _
    simp [Op.eqFields, hn, part1 ht rfl hx, part1 ht rfl hy, run_equalIn_int w d _ _ _ _ _ ht.und]
    by_cases h : a = b
    · subst h; simpa using ih
    · simp [h]
  | bool ht hn hx hy _ ih =>
    rename_i a b r _ _ _ _
    simp [Op.eqFields, hn, part1 ht rfl hx, part1 ht rfl hy, run_equalIn_bool' w d _ _ _ ht.und]
    by_cases h : a = b
    · subst h; simpa using ih
    · simp [h]
  | str ht hn hx hy _ ih =>
    rename_i a b r _ _ _ _
    simp [Op.eqFields, hn, part1 ht rfl hx, part1 ht rfl hy, run_equalIn_string w d _ _ _ ht.und, ba_list]
    by_cases h : a = b
    · subst h; simpa using ih
    · simp [h]
theorem run_eqR {t : TypeId} {fs : Array Field} {s bs : Nat} {z : Value} {as cs : Array Value} {r : Bool} (ht : Ty P t (.struct fs) s bs z) (hp : P.stoodInHeld t = false) (hl : Leafs P as cs fs.toList r) (w : World) : (Op.equalIn 10000 t (.agg as) (.agg cs)).run P w = .ok r w := by
  have hf : P.fieldsOf t = fs := by simp [Program.fieldsOf, ht.und]
  rw [run_equalIn_struct w 9999 t as cs (by rw [hf]; exact ht.und) hp, hf]
  exact hl.run 9998 w
theorem o_eqR {x y : Operand} {t u : TypeId} {fs : Array Field} {s bs : Nat} {z : Value} {as cs : Array Value} {r : Bool} (ht : Ty P t (.struct fs) s bs z) (hp : P.stoodInHeld t = false) (hm : P.eqGuardType P.depth t = false) (hx : ev e x = .agg as) (hy : ev e y = .agg cs) (hl : Leafs P as cs fs.toList r) (k : K (.bool r) w) : OP P e (.binOp .eql t x y u) ty w K :=
  OP.of (by simp [execOp, hx, hy, run_eqGuard_agg w .eql t x y as cs hm, run_eql_struct, run_eqR ht hp hl]) k
theorem o_neR {x y : Operand} {t u : TypeId} {fs : Array Field} {s bs : Nat} {z : Value} {as cs : Array Value} {r : Bool} (ht : Ty P t (.struct fs) s bs z) (hp : P.stoodInHeld t = false) (hm : P.eqGuardType P.depth t = false) (hx : ev e x = .agg as) (hy : ev e y = .agg cs) (hl : Leafs P as cs fs.toList r) (k : K (.bool (!r)) w) : OP P e (.binOp .neq t x y u) ty w K :=
  OP.of (by simp [execOp, hx, hy, run_eqGuard_agg w .neq t x y as cs hm, run_neq_struct, run_eqR ht hp hl]) k

/-! ### a struct is stored whole; results that lie in cells; a function of the base -/
theorem o_stA {x y : Operand} {t T : TypeId} {d : TypeDesc} {s bs b : Nat} {z : Value} {as cs : Array Value} (ht : Ty P t d s bs z) (hx : ev e x = .pointer (some ⟨b, 0, none⟩)) (hy : ev e y = .agg as) (has : as.size = s) (h1 : as.toList.all (·.oneCell') = true)
    (hB : w.heap[b]? = some (.cells cs T (0, 0))) (hcs : cs.size = s) (k : ∀ w', w'.heap[b]? = some (.cells as T (0, 0)) → Only (fun k => k = b) w w' → w'.heap.size = w.heap.size → K undef w') : OP P e (.store t x y) ty w K := by
  have hr := run_storeCells_from (P := P) b T as.toList 0 cs w hB (by simp [has, hcs]) (by intro v hv; exact List.all_eq_true.1 h1 v hv)
  simp only [List.take_zero, List.nil_append, Array.toArray_toList] at hr
  refine OP.ofS (w' := w.setRow b as) ?_ (k _ (setRow_heap w b cs as T (0, 0) hB) ⟨rfl, rfl, rfl, by simp, fun k _ hn => setRow_other w b k as hn⟩ (by simp))
  simp [execOp, Instr.storeAt, Instr.sureAddr, hx, hy, storeVar, Value.cells, has, ht.run_size, hr]
theorem o_callX {f : FuncId} {fn : Func} {ex : Array Value → Sem Value} {l : List Operand} {vs : List Value} {ats : Array TypeId} {v : Value} {w' : World} (hf : P.funcs[f]? = some fn) (hname : (fn.name == "runtime.NumGoroutine") = false) (hb : fn.body.isNone = true) (hn : Extern.findNext fn = none) (he : Extern.find fn = some ex)
    (ha : l.map (ev e) = vs) (hr : (ex vs.toArray).run P w = .ok v w') (k : K v w') : OP P e (.call ⟨.value (.func f), l.toArray, ats⟩) ty w K := by
  subst ha
  refine OP.of ?_ k
  simp [execOp, resolve, Deferred.ofValue, ev, invoke, run_callFunc_extern hf hname hb hn he, hr]
theorem o_alB {t : TypeId} {d : TypeDesc} {s bs : Nat} {z : Value} (ht : Ty P t d s bs z) (k : ∀ w', w'.heap[w.heap.size]? = some (.cells z.cells t (0, 0)) → Ext w w' → w'.heap.size = w.heap.size + 1 → K (.pointer (some ⟨w.heap.size, 0, none⟩)) w') : OP P e (.alloc t) ty w K :=
  o_al ht (k _ (heap_alloc_new w _) (Only.alloc w _) (by show (Array.push _ _).size = _; simp))
theorem Only.tr {a b c : World} (h : Ext a b) (k : Ext b c) : Ext a c := Only.trans h k
theorem Ext.own {w0 w1 w : World} {p : Nat} (h : Ext w0 w1) (hp : w0.heap.size ≤ p) (k : Only (fun k => k = p) w1 w) : Ext w0 w := h.trans' k (fun _ h => h) (fun j hj he => by omega)
theorem own_only {w w' : World} {F : Nat → Prop} {base : Nat} {el : TypeId} {s n : Nat} {v : Value} {xs : List Value} (h : w.ownsRow base el s v n xs) (ho : Only F w w') (hne : ∀ k, v.ownBlock = some k → ¬ F k) : w'.ownsRow base el s v n xs := by
  obtain ⟨hl, h⟩ := h
  rcases h with ⟨rfl, rfl⟩ | ⟨g, cap, cur, rfl, hb, hc, r⟩
  · exact ⟨hl, .inl ⟨rfl, rfl⟩⟩
  · exact ⟨hl, .inr ⟨g, cap, cur, rfl, hb, ho.blk hc (hne g rfl), r⟩⟩
theorem own_mono {w : World} {base base' : Nat} {el : TypeId} {s n : Nat} {v : Value} {xs : List Value} (h : w.ownsRow base el s v n xs) (hb : base' ≤ base) : w.ownsRow base' el s v n xs := by
  obtain ⟨hl, h⟩ := h
  rcases h with ⟨rfl, rfl⟩ | ⟨g, cap, cur, rfl, hb2, r⟩
  · exact ⟨hl, .inl ⟨rfl, rfl⟩⟩
  · exact ⟨hl, .inr ⟨g, cap, cur, rfl, Nat.le_trans hb hb2, r⟩⟩
theorem own_ext {w w' : World} {base : Nat} {el : TypeId} {s n : Nat} {v : Value} {xs : List Value} (h : w.ownsRow base el s v n xs) (ho : Ext w w') : w'.ownsRow base el s v n xs := own_only h ho (fun _ _ h => h)
theorem run_loadA {t : TypeId} {d : TypeDesc} {s bs b o : Nat} {z : Value} {xs : List Value} (ht : Ty P t d s bs z) (hd : isAggD d = true) (hc : Cells w b o xs) (hl : xs.length = s) : (loadVar t ⟨b, o, none⟩).run P w = .ok (.agg xs.toArray) w := by
  have h := run_loadCells_list (P := P) w ⟨b, o, none⟩ xs (fun j v hj => by rw [add_none]; exact hc j v hj)
  rw [hl] at h
  simp [loadVar, ht.run_agg, hd, ht.run_size, h]
theorem retTC {fn : Func} {R : Value → World → Prop} {t a : Tmp} {T : TypeId} {d : TypeDesc} {s bs b o : Nat} {z v : Value} {xs : List Value} (hr : fn.results = #[.tmp t, .cell a T]) (ht : Ty P T d s bs z) (hd : isAggD d = true) (h1 : e t = v) (h2 : e a = .pointer (some ⟨b, o, none⟩)) (hc : Cells w b o xs) (hl : xs.length = s)
    (h : R (.tuple #[v, .agg xs.toArray]) w) : Rt fn P R e w :=
  ⟨fun _ ac ha => ⟨.tuple #[v, .agg xs.toArray], by
    have g1 : ac.tmps.getD t undef = v := by rw [ha.get]; exact h1
    have g2 : ac.tmps.getD a undef = .pointer (some ⟨b, o, none⟩) := by rw [ha.get]; exact h2
    simp only [Array.getD_eq_getD_getElem?] at g1 g2
    simp [results, hr, asAddr, g1, g2, run_loadA ht hd hc hl], h⟩⟩
theorem retCT {fn : Func} {R : Value → World → Prop} {t a : Tmp} {T : TypeId} {d : TypeDesc} {s bs b o : Nat} {z v : Value} {xs : List Value} (hr : fn.results = #[.cell a T, .tmp t]) (ht : Ty P T d s bs z) (hd : isAggD d = true) (h1 : e t = v) (h2 : e a = .pointer (some ⟨b, o, none⟩)) (hc : Cells w b o xs) (hl : xs.length = s)
    (h : R (.tuple #[.agg xs.toArray, v]) w) : Rt fn P R e w :=
  ⟨fun _ ac ha => ⟨.tuple #[.agg xs.toArray, v], by
    have g1 : ac.tmps.getD t undef = v := by rw [ha.get]; exact h1
    have g2 : ac.tmps.getD a undef = .pointer (some ⟨b, o, none⟩) := by rw [ha.get]; exact h2
    simp only [Array.getD_eq_getD_getElem?] at g1 g2
    simp [results, hr, asAddr, g1, g2, run_loadA ht hd hc hl], h⟩⟩
end
/-! ### a struct of one-cell fields is built -/
theorem lnp {e : Env} : ([] : List (Nat × Operand)).map (fun (x : Nat × Operand) => (x.1, ev e x.2)) = [] := rfl
theorem lcp {e : Env} {i : Nat} {x : Operand} {v : Value} {l : List (Nat × Operand)} {vs : List (Nat × Value)} (h : ev e x = v) (t : l.map (fun (x : Nat × Operand) => (x.1, ev e x.2)) = vs) : ((i, x) :: l).map (fun (x : Nat × Operand) => (x.1, ev e x.2)) = (i, v) :: vs := by
  rw [List.map_cons, t, h]
theorem fill_cells (n : Nat) (pl : List (Nat × Nat)) (hpl : pl = (List.range n).map fun i => (i, 1)) : ∀ (vs : List (Nat × Value)) (zs : List Value), zs.length = n → vs.all (fun x => decide (x.1 < n) && x.2.oneCell') = true →
    Instr.fill (pl.toArray[·]?) zs.toArray vs = some (vs.foldl (fun l x => l.set x.1 x.2) zs).toArray
  | [], zs, _, _ => rfl
  | (i, v) :: vs, zs, hn, h => by
    simp only [List.all_cons, Bool.and_eq_true, decide_eq_true_eq] at h
    obtain ⟨⟨h1, h2⟩, h3⟩ := h
    have hc : v.cells = #[v] := by cases v <;> first | rfl | simp [Value.oneCell'] at h2
    have hp : pl.toArray[i]? = some (i, 1) := by
      subst hpl
      simp [List.getElem?_range h1]
    have ih := fill_cells n pl hpl vs (zs.set i v) (by simp [hn]) h3
    simp only [Instr.fill, hp, hc]
    rw [if_neg (by simp; omega)]
    simp only [List.foldl_cons]
    rw [← ih]
    congr 1
    simp
theorem o_bldC {P : Program} {e : Env} {w : World} {K : Value → World → Prop} {ty : TypeId} {t : TypeId} {fs : List Field} {pl : List (Nat × Nat)} {s bs : Nat} {zs cs : List Value} {parts : List (Nat × Operand)} {vs : List (Nat × Value)} (ht : Ty P t (.struct fs.toArray) s bs (.agg zs.toArray)) (hs : Sizes P fs pl) (hpl : pl = (List.range zs.length).map fun i => (i, 1))
    (hp : (parts.map fun (x : Nat × Operand) => (x.1, ev e x.2)) = vs) (hv : vs.all (fun x => decide (x.1 < zs.length) && x.2.oneCell') = true) (hc : vs.foldl (fun l x => l.set x.1 x.2) zs = cs) (k : K (.agg cs.toArray) w) : OP P e (.build t parts.toArray) ty w K :=
  o_bld ht hs hp (by subst hc; exact fill_cells zs.length pl hpl vs zs rfl hv) k
theorem retC {P : Program} {e : Env} {w : World} {fn : Func} {R : Value → World → Prop} {a : Tmp} {T : TypeId} {d : TypeDesc} {s bs b o : Nat} {z : Value} {xs : List Value} (hr : fn.results = #[.cell a T]) (ht : Ty P T d s bs z) (hd : isAggD d = true) (h2 : e a = .pointer (some ⟨b, o, none⟩)) (hc : Cells w b o xs) (hl : xs.length = s)
    (h : R (.agg xs.toArray) w) : Rt fn P R e w :=
  ⟨fun _ ac ha => ⟨.agg xs.toArray, by
    have g2 : ac.tmps.getD a undef = .pointer (some ⟨b, o, none⟩) := by rw [ha.get]; exact h2
    simp only [Array.getD_eq_getD_getElem?] at g2
    simp [results, hr, asAddr, g2, run_loadA ht hd hc hl], h⟩⟩
theorem o_boxB {P : Program} {e : Env} {w : World} {K : Value → World → Prop} {ty : TypeId} {t : TypeId} {x : Operand} {v : Value} (hx : ev e x = v) (k : ∀ w', w'.heap[w.heap.size]? = some (.cells v.cells t (0, 0)) → Ext w w' → w'.heap.size = w.heap.size + 1 → K (.pointer (some ⟨w.heap.size, 0, none⟩)) w') : OP P e (.box t x) ty w K :=
  o_boxh hx (k _ (heap_alloc_new w _) (Only.alloc w _) (by show (Array.push _ _).size = _; simp))
end Go.Vc
