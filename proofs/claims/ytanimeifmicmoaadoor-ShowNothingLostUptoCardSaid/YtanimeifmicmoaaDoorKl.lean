/-
  The law ShowNothingLost: for every input the Go function answers true, and what is handed in reads as before. No condition.
-/
import Derived.Test.YtanimeifmicmoaaDoorRows
import Derived.ProofKit
import Derived.OpenShut
import Derived.ShutString
import Derived.ChangeOld
import Derived.Below
import Derived.SizedLaws
import Derived.JoinedCond
import Derived.SliceStrings
import Derived.Test.YtanimeifmicmoaaDoorCards
import Derived.Test.YtanimeifmicmoaaDoorTie
import Derived.Deep.DeepHandedRow
import Derived.Lib.LaidTab
import Derived.JoinedCond
import Derived.SliceStrings
import Derived.Test.YtanimeifmicmoaaDoorKl4
namespace Go.Proofs.YtanimeifmicmoaaDoor.showNothingLost
open Go.ChangeShapes Go.WideShapes Go.ChangeAt Go.RowKit Go.Vc
open Go.ChangeMaps (open_string shut_string)
set_option linter.unusedVariables false
theorem own : ownKnob Tryd.prog.godebug = none := by kernel_rfl
theorem laidOut : laidOutB Tryd.prog = true := by kernel_rfl
theorem tab_of {W : World} (h : laidMetH Tryd.prog Rows.showNothingLostRow.laid W) : Tab W := by
  have h1 := h.filter (fun x => x.1 == "internal/strconv.uint64pow10")
  have e : (Rows.showNothingLostRow.laid.filter fun x => x.1 == "internal/strconv.uint64pow10") = [("internal/strconv.uint64pow10", Lib.tabData .u64 Lib.pow10Tab)] := by kernel_rfl
  rw [e] at h1
  have h2 : Lib.TabIs Tryd.prog W "internal/strconv.uint64pow10" .u64 Lib.pow10Tab := Lib.tabIs_of_head (rest := []) (g := 1) (t := 126) (e := 119) (n := 20) (by kernel_rfl) (by kernel_rfl) Tryd.underlying126 Tryd.underlying119 (by kernel_rfl) (by kernel_rfl) h1
  have hg : (Tryd.prog).globalNamed "internal/strconv.uint64pow10" = some 1 := by kernel_rfl
  simp only [Lib.TabIs, World.var?, hg, Option.bind_some] at h2
  unfold Tab
  cases h3 : W.heap[1]? with
  | none => rw [h3] at h2; cases h2
  | some o =>
    rw [h3] at h2
    cases o with
    | cells cs T fr => simp only [Option.some.injEq] at h2; exact ⟨T, fr, by rw [h2]; rfl⟩
    | _ => cases h2
theorem tab_lt {W : World} (h : Tab W) : 1 < W.heap.size := by
  obtain ⟨T, fr, h⟩ := h
  exact (Array.getElem?_eq_some_iff.1 h).1

theorem fld {H : Type} {enc : TypeId × Value → H} {P : Program} {W : World} {base : Nat} {sp : Nat → Bool} {held : Bool} {n : Nat} {cs : List Value} {fs : Array Field} {xs : List (DataW H × List MemPlace)}
    (hall : ∀ (i : Nat) (f : Field), fs[i]? = some f → DataW.trod enc P W base sp held n f.type ((cs.drop f.offset).take (P.cellsOf f.type)) = xs[i]?) (i : Nat) {f : Field} (u : TypeId) (off s : Nat) (hf : fs[i]? = some f) (ht : f.type = u) (ho : f.offset = off) (hs : P.cellsOf u = s) :
    DataW.trod enc P W base sp held n u ((cs.drop off).take s) = xs[i]? := by
  subst ht ho hs
  exact hall i f hf
set_option maxRecDepth 100000 in
theorem cells_mark {W : World} {fuel : Nat} {cs : List Value} {p : List MemPlace} (h : DataW.trod (fun _ => ()) Tryd.prog W 0 (fun _ => true) false fuel 36 cs = some (Rows.laid_mortise_mortiselaw07_mark, p)) : cs = exV exMk := by
  obtain ⟨xs, n, -, hx, hl, hlen, hall⟩ := DataW.trod_struct Tryd.underlying36 h
  have hl7 : cs.length = 7 := by rw [hl]; kernel_rfl
  obtain ⟨a, b, c, d, e, f, g, rfl⟩ := seven_cells hl7
  replace hlen : xs.length = 7 := hlen
  match xs, hlen with
  | [x0, x1, x2, x3, x4, x5, x6], _ =>
    have f0 : DataW.trod _ Tryd.prog W 0 _ false n 3 [a] = some x0 := fld hall 0 3 0 1 rfl rfl rfl (by kernel_rfl)
    have f1 : DataW.trod _ Tryd.prog W 0 _ false n 3 [b] = some x1 := fld hall 1 3 1 1 rfl rfl rfl (by kernel_rfl)
    have f2 : DataW.trod _ Tryd.prog W 0 _ false n 9 [c] = some x2 := fld hall 2 9 2 1 rfl rfl rfl (by kernel_rfl)
    have f3 : DataW.trod _ Tryd.prog W 0 _ false n 9 [d] = some x3 := fld hall 3 9 3 1 rfl rfl rfl (by kernel_rfl)
    have f4 : DataW.trod _ Tryd.prog W 0 _ false n 3 [e] = some x4 := fld hall 4 3 4 1 rfl rfl rfl (by kernel_rfl)
    have f5 : DataW.trod _ Tryd.prog W 0 _ false n 3 [f] = some x5 := fld hall 5 3 5 1 rfl rfl rfl (by kernel_rfl)
    have f6 : DataW.trod _ Tryd.prog W 0 _ false n 3 [g] = some x6 := fld hall 6 3 6 1 rfl rfl rfl (by kernel_rfl)
    obtain ⟨k0, e0, d0, -⟩ := DataW.trod_int Tryd.underlying3 f0
    obtain ⟨k1, e1, d1, -⟩ := DataW.trod_int Tryd.underlying3 f1
    obtain ⟨k2, e2, d2, -⟩ := DataW.trod_string Tryd.underlying9 f2
    obtain ⟨k3, e3, d3, -⟩ := DataW.trod_string Tryd.underlying9 f3
    obtain ⟨k4, e4, d4, -⟩ := DataW.trod_int Tryd.underlying3 f4
    obtain ⟨k5, e5, d5, -⟩ := DataW.trod_int Tryd.underlying3 f5
    obtain ⟨k6, e6, d6, -⟩ := DataW.trod_int Tryd.underlying3 f6
    simp only [List.cons.injEq, and_true] at e0 e1 e2 e3 e4 e5 e6
    subst d0 d1 d2 d3 d4 d5 d6
    simp only [Rows.laid_mortise_mortiselaw07_mark, List.map_cons, List.map_nil, Prod.mk.injEq, DataW.agg.injEq, List.cons.injEq, DataW.lit.injEq, Lit.int.injEq, Lit.string.injEq, and_true, true_and] at hx
    obtain ⟨⟨q0, q1, q2, q3, q4, q5, q6⟩, -⟩ := hx
    rw [e0, e1, e2, e3, e4, e5, e6, str_list, str_list, ← q0, ← q1, ← q2, ← q3, ← q4, ← q5, ← q6]
    rfl
theorem mark_of {W : World} (h : laidMetH Tryd.prog Rows.showNothingLostRow.laid W) : MarkW W := by
  have h1 := h.filter (fun x => x.1 == "mortise/mortiselaw07.mark")
  have e : (Rows.showNothingLostRow.laid.filter fun x => x.1 == "mortise/mortiselaw07.mark") = [("mortise/mortiselaw07.mark", Rows.laid_mortise_mortiselaw07_mark)] := by kernel_rfl
  rw [e] at h1
  obtain ⟨ps, ⟨g, t, cs, fuel, p, q, hg, ht, hvar, hd, -⟩, -⟩ := h1
  have hg0 : (Tryd.prog).globalNamed "mortise/mortiselaw07.mark" = some 0 := by kernel_rfl
  obtain rfl := Option.some.inj (hg0.symm.trans hg)
  have ht0 : ((Tryd.prog).globals[0]?).map (·.type) = some 36 := by kernel_rfl
  obtain rfl := Option.some.inj (ht0.symm.trans ht)
  have hc := cells_mark hd
  simp only [World.var?, hg0, Option.bind_some] at hvar
  unfold MarkW
  cases h3 : W.heap[0]? with
  | none => rw [h3] at hvar; cases hvar
  | some o =>
    rw [h3] at hvar
    cases o with
    | cells cs2 T fr => simp only [Option.some.injEq] at hvar; subst hvar; exact ⟨T, fr, by rw [← hc]⟩
    | _ => cases hvar
set_option maxRecDepth 100000 in
theorem contract (H : Type) (enc : TypeId × Value → H) (W : World) (base : Nat) (args : Array Value) (ds gs : List (DataW H)) (before : List MemPlace)
    (hval0 : ∀ (j : Nat) t v, Tryd.f4.params[j]? = some t → args[j]? = some v → Value.okWide Tryd.prog W .any base t v)
    (hW : DataW.Whole enc Tryd.prog Tryd.f4.params.toList Rows.showNothingLostSpec.vars false W args.toList ds gs before) (hk : Rows.uptoBulkAll (ds ++ gs) ≤ 1048576) (hL : laidMetH Tryd.prog Rows.showNothingLostRow.laid W) :
    Calls Tryd.prog 4 args W fun e W' => ∃ v, e = .returned v ∧ Rows.showNothingLostSpec.post enc Tryd.prog Tryd.f4 false true false false W args v W' := by
  have hval : ∀ (j : Nat) t v, Tryd.f4.params[j]? = some t → args[j]? = some v → Value.okWide Tryd.prog W .any base t v := hval0
  have hW' := hW
  obtain ⟨p, q, hA0, hV, rfl, hfz, hnd⟩ := hW
  have hA : DataW.TrodAll enc Tryd.prog W 0 (fun _ => true) true Tryd.f4.params.toList args.toList ds p := hA0
  rw [Tryd.params4] at hA hval
  obtain ⟨v0, vs0, d0, ds0, p0, q0, hargs, rfl, rfl, h0, r0⟩ := trodAll_cons hA
  obtain ⟨v1, vs1, d1, ds1, p1, q1, rfl, rfl, rfl, h1, r1⟩ := trodAll_cons r0
  obtain ⟨v2, vs2, d2, ds2, p2, q2, rfl, rfl, rfl, h2, r2⟩ := trodAll_cons r1
  obtain ⟨v3, vs3, d3, ds3, p3, q3, rfl, rfl, rfl, h3, r3⟩ := trodAll_cons r2
  obtain ⟨rfl, rfl, rfl⟩ := trodAll_nil r3
  obtain rfl : args = #[v0, v1, v2, v3] := by cases args; simp_all
  obtain ⟨rfl, rfl⟩ := trodVars_none hV
  have k0 := h0
  have lt0 : ∀ x ∈ p0, x.block < W.heap.size := by obtain ⟨m, hm⟩ := k0; exact DataW.trod_lt m _ _ _ hm
  obtain ⟨c0, hv0, -⟩ := okWide_struct Tryd.underlying24 (hval 0 24 v0 rfl rfl)
  subst hv0
  have hk0 : Blk d0 := by
    have h := hk
    simp only [List.append_nil, List.cons_append, List.nil_append, Rows.uptoBulkAll] at h
    unfold Blk
    omega
  obtain ⟨D0, dv0, V0, hc0, hD0, hl0, hs0⟩ : ∃ D dv V, c0 = #[dv] ∧ DefR W D dv V ∧ DOk D ∧ ∀ d ∈ D, d.ty.length ≤ 1048576 := by
    obtain ⟨fuel, hf⟩ := h0
    obtain ⟨D, dv, V, g1, g2, g3, g4⟩ := open_sourceQ hf hk0
    exact ⟨D, dv, V, by have : c0.toList = [dv] := by rw [← g1]; simp [Value.cells]
                        rw [← Array.toArray_toList (xs := c0), this], g2, g3, g4⟩
  subst hc0
  have k1 := h1
  have lt1 : ∀ x ∈ p1, x.block < W.heap.size := by obtain ⟨m, hm⟩ := k1; exact DataW.trod_lt m _ _ _ hm
  obtain ⟨a1, hv1, -, -, w1⟩ := open_int Tryd.underlying3 (hval 1 3 v1 rfl rfl) h1
  subst hv1
  have b1 := rng_i64 w1
  have k2 := h2
  have lt2 : ∀ x ∈ p2, x.block < W.heap.size := by obtain ⟨m, hm⟩ := k2; exact DataW.trod_lt m _ _ _ hm
  obtain ⟨a2, hv2, -, -, w2⟩ := open_int Tryd.underlying3 (hval 2 3 v2 rfl rfl) h2
  subst hv2
  have b2 := rng_i64 w2
  have k3 := h3
  have lt3 : ∀ x ∈ p3, x.block < W.heap.size := by obtain ⟨m, hm⟩ := k3; exact DataW.trod_lt m _ _ _ hm
  obtain ⟨a3, hv3, -, -, w3⟩ := open_int Tryd.underlying3 (hval 3 3 v3 rfl rfl) h3
  subst hv3
  have b3 := rng_i64 w3
  clear hA0 hval0
  refine Calls.mono (slost_walk W D0 dv0 V0 hD0 hl0 hs0 a1 b1 a2 b2 a3 b3 (tab_of hL) (tab_lt (tab_of hL)) (mark_of hL)) fun e W' he => ?_
  cases e with
  | returned v =>
    obtain ⟨rfl, hx⟩ := he
    have bel : Below W.heap.size W W' := (hx.mono (G := fun k => W.heap.size ≤ k) (fun k _ h => h.elim)).below (Nat.le_refl _)
    exact ⟨_, rfl, _, _, _, [], _, [], hW', trodAll_mk1 (shut_bool Tryd.underlying4 _), (trodAll_cons_mk (Below.trod laidOut (by kernel_rfl) (of_decide_eq_true (by kernel_rfl)) k0 bel lt0) (trodAll_cons_mk (Below.trod laidOut (by kernel_rfl) (of_decide_eq_true (by kernel_rfl)) k1 bel lt1) (trodAll_cons_mk (Below.trod laidOut (by kernel_rfl) (of_decide_eq_true (by kernel_rfl)) k2 bel lt2) (trodAll_cons_mk (Below.trod laidOut (by kernel_rfl) (of_decide_eq_true (by kernel_rfl)) k3 bel lt3) trodAll_mk0)))), rfl, bel.frame _, fun h => by cases h⟩
  | panicked c => exact he.elim
  | outgrown => exact he.elim


/-- a world for the witness: the listed variables hold what their initialisers lay -/
def lay (cs : Array Value) : Obj → Obj
  | .cells _ t frozen => .cells cs t frozen
  | o => o
noncomputable def laidWorld (os : Os) : World :=
  { World.holding Tryd.prog os ⟨#[], #[], []⟩ with heap := (((((World.holding Tryd.prog os ⟨#[], #[], []⟩).heap).modify 3 (lay #[.int .u8 0, .int .u8 1, .int .u8 28, .int .u8 2, .int .u8 29, .int .u8 14, .int .u8 24, .int .u8 3, .int .u8 30, .int .u8 22, .int .u8 20, .int .u8 15, .int .u8 25, .int .u8 17, .int .u8 4, .int .u8 8, .int .u8 31, .int .u8 27, .int .u8 13, .int .u8 23, .int .u8 21, .int .u8 19, .int .u8 16, .int .u8 7, .int .u8 26, .int .u8 12, .int .u8 18, .int .u8 6, .int .u8 11, .int .u8 5, .int .u8 10, .int .u8 9])).modify 4 (lay #[.int .u8 0, .int .u8 1, .int .u8 56, .int .u8 2, .int .u8 57, .int .u8 49, .int .u8 28, .int .u8 3, .int .u8 61, .int .u8 58, .int .u8 42, .int .u8 50, .int .u8 38, .int .u8 29, .int .u8 17, .int .u8 4, .int .u8 62, .int .u8 47, .int .u8 59, .int .u8 36, .int .u8 45, .int .u8 43, .int .u8 51, .int .u8 22, .int .u8 53, .int .u8 39, .int .u8 33, .int .u8 30, .int .u8 24, .int .u8 18, .int .u8 12, .int .u8 5, .int .u8 63, .int .u8 55, .int .u8 48, .int .u8 27, .int .u8 60, .int .u8 41, .int .u8 37, .int .u8 16, .int .u8 46, .int .u8 35, .int .u8 44, .int .u8 21, .int .u8 52, .int .u8 32, .int .u8 23, .int .u8 11, .int .u8 54, .int .u8 26, .int .u8 40, .int .u8 15, .int .u8 34, .int .u8 20, .int .u8 31, .int .u8 10, .int .u8 25, .int .u8 14, .int .u8 19, .int .u8 9, .int .u8 13, .int .u8 8, .int .u8 7, .int .u8 6])).modify 1 (lay #[.int .u64 1, .int .u64 10, .int .u64 100, .int .u64 1000, .int .u64 10000, .int .u64 100000, .int .u64 1000000, .int .u64 10000000, .int .u64 100000000, .int .u64 1000000000, .int .u64 10000000000, .int .u64 100000000000, .int .u64 1000000000000, .int .u64 10000000000000, .int .u64 100000000000000, .int .u64 1000000000000000, .int .u64 10000000000000000, .int .u64 100000000000000000, .int .u64 1000000000000000000, .int .u64 10000000000000000000])).modify 0 (lay #[.int .i64 99, .int .i64 7, .string ⟨#[109, 97, 114, 107]⟩, .string ⟨#[]⟩, .int .i64 0, .int .i64 0, .int .i64 0]) }
theorem laid_met (os : Os) : laidMet Tryd.prog Rows.showNothingLostUptoRow.laid ((laidWorld os).forCall (fun _ _ => 0) ⟨#[], #[.agg #[.slice none 0 0], .int .i64 0, .int .i64 0, .int .i64 0], []⟩).memory :=
  laidMet_of_run' 8 (by kernel_rfl) (by kernel_rfl)
theorem reads (os : Os) {H : Type} (enc : TypeId × Value → H) : ∃ places, DataW.whole enc Tryd.prog ((laidWorld os).forCall (fun _ _ => 0) ⟨#[], #[.agg #[.slice none 0 0], .int .i64 0, .int .i64 0, .int .i64 0], []⟩).memory Tryd.f4.params.toList Rows.showNothingLostSpec.vars false (#[.agg #[.slice none 0 0], .int .i64 0, .int .i64 0, .int .i64 0] : Array Value).toList 8 = some ([.agg [.nil], .lit (.int .i64 0), .lit (.int .i64 0), .lit (.int .i64 0)], [], places) :=
  ⟨[], by kernel_rfl⟩
set_option maxRecDepth 100000 in
theorem liftedUpto (os : Os) (started : os.Started) (H : Type) (enc : TypeId × Value → H) (F : Stop.Interp) :
    ReturnsInHanded {} Tryd.checked os 4 .any ((Rows.OpenSpec.upto Rows.showNothingLostSpec).preRow enc Tryd.prog Tryd.f4 Rows.showNothingLostUptoRow.domain false Rows.showNothingLostUptoRow.laid) (((Rows.OpenSpec.upto Rows.showNothingLostSpec).at F).post enc Tryd.prog Tryd.f4 false true false false) := by
  obtain ⟨places, hx⟩ := reads os enc
  refine returnsInHanded_of_row (C := Tryd.checked) (s := Rows.OpenSpec.upto Rows.showNothingLostSpec) own started (by kernel_rfl) Tryd.func4
    (witness_row_at (enc := enc) (C := Tryd.checked) false (laidWorld os) #[.agg #[.slice none 0 0], .int .i64 0, .int .i64 0, .int .i64 0] rfl (by kernel_rfl) (by kernel_rfl) (by kernel_rfl)
      (OpenSpec.preRow_of_cond 8 hx (by kernel_rfl) (fun k hk => by cases hk; kernel_rfl) (by kernel_rfl) (laid_met os))) ?_
  intro W base args ds gs before hval hW _ hcond _ hL _ _
  exact contract H enc W base args ds gs before hval hW (of_decide_eq_true (hcond _ rfl)) hL
theorem saidUpto : Rows.ShowNothingLostUptoSaid :=
  OpenClaim.holds_of_cond 4 Tryd.f4 rfl rfl rfl rfl rfl rfl rfl ⟨rfl, rfl, rfl, rfl, rfl⟩ rfl rfl rfl rfl rfl (by kernel_rfl) Tryd.func4 (by kernel_rfl)
    (of_decide_eq_true (by kernel_rfl)) (by unfold Func.isWrapper; first | (rw [if_pos (by decide +kernel)]; kernel_rfl) | (rw [if_neg (by decide +kernel)]; exact ⟨rfl, rfl⟩))
    (fun os started H enc _ F => by rw [OpenClaim.pre_eq_preRow]; exact liftedUpto os started H enc F)
theorem plain (f : FuncId) (fn : Func) (hf : Tryd.pinned.checked.prog.funcNamed "mortise/mortiselaw07.ShowNothingLost" = some f) (hfn : Tryd.pinned.checked.prog.funcs[f]? = some fn) :
    true = Tryd.pinned.checked.prog.looks [] ∧ ∀ (j : Nat) t, fn.params[j]? = some t → Tryd.pinned.checked.prog.wantsStandIn t = false := by
  obtain rfl : f = 4 := Option.some.inj ((show Tryd.prog.funcNamed "mortise/mortiselaw07.ShowNothingLost" = some 4 by kernel_rfl).symm.trans hf) |>.symm
  obtain rfl : fn = Tryd.f4 := (Option.some.inj (Tryd.func4.symm.trans hfn)).symm
  refine ⟨by kernel_rfl, fun j t ht => ?_⟩
  rw [Tryd.params4] at ht
  have hm : t ∈ [24, 3] := by have h1 := Array.mem_of_getElem? ht; simp at h1 ⊢; exact h1
  have hall : ([24, 3].all fun u => !Tryd.prog.wantsStandIn u) = true := by kernel_rfl
  exact (show Tryd.prog.wantsStandIn t = false by simpa using List.all_eq_true.1 hall t hm)
/-- the second form's card -/
theorem proved : Rows.ShowNothingLostUptoCardSaid :=
  Claim7.holds_tied_plain_at .later [] _ _ _ _ saidUpto (fun _ h => by cases h) (by kernel_rfl) (fun _ h => by cases h) showNothingLostUpto_row_tie rfl ⟨rfl, rfl⟩ (by kernel_rfl) rfl plain (by kernel_rfl)
#print axioms proved
end Go.Proofs.YtanimeifmicmoaaDoor.showNothingLost
