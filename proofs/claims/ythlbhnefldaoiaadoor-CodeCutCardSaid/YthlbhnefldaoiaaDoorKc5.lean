/-
  Walks and lemmas. Written by program out of specs of mine.
-/
import Derived.WalkKit
import Derived.WalkSpells
import Derived.WalkLawsBesides
import Derived.Deep.Quiet
import Derived.StillTail
import Derived.StringKeys
import Derived.Laws.StructEq
import Derived.Laws.Externs
import Derived.Laws.Tables
import Derived.Scope
import Derived.Laws.AppendOwn
import Derived.Maps.AppendAt
import Derived.Recover
import Derived.Test.YthlbhnefldaoiaaDoorProg
import Derived.Shelf.Strconv.Itoa0
import Derived.Shelf.Strconv.Itoa1
import Derived.Shelf.LaysM
import Derived.Shelf.Strconv.Itoa2
import Derived.Shelf.Strconv.Itoa3
import Derived.Shelf.Strings.Builder1
import Derived.Shelf.Strings.OnBuilder
import Derived.Lib.Builder
import Derived.Lib.UnsafeStr
import Derived.Lib.ItoaLen
import Derived.SizedLaws
import Derived.ChangeArms
import Derived.ChangeSlices
import Derived.Deep.DeepAppendWide
import Derived.Test.YthlbhnefldaoiaaDoorRows
import Derived.ProofKit
import Derived.OpenShut
import Derived.ShutString
import Derived.ChangeOld
import Derived.Below
import Derived.JoinedCond
import Derived.SliceStrings
import Derived.Test.YthlbhnefldaoiaaDoorCards
import Derived.Test.YthlbhnefldaoiaaDoorTie
import Derived.Deep.DeepHandedRow
import Derived.Lib.LaidTab
import Derived.Test.YthlbhnefldaoiaaDoorKc4
set_option linter.unusedSimpArgs false
set_option linter.unusedVariables false
set_option maxRecDepth 100000
set_option linter.unusedSimpArgs false
set_option linter.unusedVariables false
set_option maxRecDepth 100000
namespace Go.Proofs.YthlbhnefldaoiaaDoor
open Go Go.Vc Go.RowKit Go.Proofs
theorem shape_of {w : World} {b : Nat} {cs : Array Value} {T : TypeId} {fr : Nat × Nat} (h : w.heap[b]? = some (.cells cs T fr)) : w.shape? b = some (T, cs.size) := by unfold World.shape?; rw [h]
theorem o_cvPU {P : Program} {e : Env} {w : World} {K : Value → World → Prop} {ty : TypeId} {x : Operand} {src dst t : TypeId} {d0 : TypeDesc} {sz0 bs0 : Nat} {z0 : Value} {a : Addr} {cs : Array Value} {T : TypeId} {fr : Nat × Nat} (hs : P.underlying src = some (.pointer t)) (hd : P.underlying dst = some .unsafePointer) (hT : Ty P t d0 sz0 bs0 z0) (hj : sz0 ≠ 0) (hx : ev e x = .pointer (some a))
    (hB : w.heap[a.block]? = some (.cells cs T fr)) (ho : a.off < cs.size) (k : K (.pointer (some a)) w) : OP P e (.convert src dst x) ty w K := by
  obtain ⟨i, hi1, hi2, hi3, hi4⟩ := hT.info
  exact OP.of (by simp [execOp, hx, Lib.run_to_unsafe w a hs hd hi1 (by rw [hi2]; exact hj) (shape_of hB) ho]) k
theorem o_cvUP {P : Program} {e : Env} {w : World} {K : Value → World → Prop} {ty : TypeId} {x : Operand} {src dst u : TypeId} {d0 : TypeDesc} {sz0 bs0 : Nat} {z0 : Value} {a : Addr} {cs : Array Value} {T : TypeId} {fr : Nat × Nat} (hs : P.underlying src = some .unsafePointer) (hd : P.underlying dst = some (.pointer u)) (hT : Ty P u d0 sz0 bs0 z0) (hx : ev e x = .pointer (some a))
    (hB : w.heap[a.block]? = some (.cells cs T fr)) (hlies : liesAt P P.depth T (cs.size / P.cellsOf T) a.off u 1 = true) (k : K (.pointer (some a)) w) : OP P e (.convert src dst x) ty w K := by
  obtain ⟨i, hi1, hi2, hi3, hi4⟩ := hT.info
  exact OP.of (by simp [execOp, hx, Lib.run_from_unsafe w a hs hd hi1 (shape_of hB) hlies]) k
theorem o_neP {P : Program} {e : Env} {w : World} {K : Value → World → Prop} {ty : TypeId} {x y : Operand} {t te u : TypeId} {d0 : TypeDesc} {sz0 bs0 : Nat} {z0 : Value} {a : Addr} (ht : P.underlying t = some (.pointer te)) (hT : Ty P te d0 sz0 bs0 z0) (hx : ev e x = .pointer (some a)) (hy : ev e y = .pointer (some a)) (k : K (.bool false) w) : OP P e (.binOp .neq t x y u) ty w K := by
  obtain ⟨i, hi1, hi2, hi3, hi4⟩ := hT.info
  exact OP.of (by have := Lib.run_neq_ptr_same (P := P) w a ht hi1; simp only [execOp, eqGuard, hx, hy]; simp [this]) k
def digL (n : Nat) : List UInt8 := if n < 10 then [UInt8.ofNat (48 + n)] else digL (n / 10) ++ [UInt8.ofNat (48 + n % 10)]
termination_by n
decreasing_by omega
theorem digL_lt {n : Nat} (h : n < 10) : digL n = [UInt8.ofNat (48 + n)] := by rw [digL, if_pos h]
def tabC : Array Value := (Lib.pow10Tab.map fun z => Value.int .u64 z).toArray
def Tab (w : World) : Prop := ∃ T fr, w.heap[1]? = some (.cells tabC T fr)
theorem Tab.only {w w' : World} {F : Nat → Prop} (h : Tab w) (ho : Only F w w') (hn : ¬ F 1) : Tab w' := by
  obtain ⟨T, fr, h⟩ := h
  exact ⟨T, fr, ho.blk h hn⟩
theorem Tab.ext {w w' : World} (h : Tab w) (ho : Ext w w') : Tab w' := h.only ho (fun h => h)
theorem only_grow (w : World) (os : Array Obj) : Ext w (Go.Sort.grow w os) := ⟨rfl, rfl, rfl, by simp [Go.Sort.grow], fun k hk _ => by simp only [Go.Sort.grow]; rw [Array.getElem?_append_left hk]⟩
theorem dec_digL : ∀ n, Lib.decDigits n = digL n := by
  intro n
  induction n using Nat.strongRecOn with
  | _ n ih =>
    rw [Lib.decDigits, digL]
    by_cases h : n < 10
    · rw [if_pos h]; simp [h]
    · rw [if_neg h]; simp only [h, dif_neg, not_false_iff]; rw [ih (n / 10) (by omega)]
theorem itoa_spec (n : Nat) (hn : n ≤ 9223372036854775807) (w0 : World) (hT : Tab w0) : Ca Tryd.prog 49 #[.int .i64 (n : Int)] w0 (fun v w' => v = st (digL n) ∧ Ext w0 w') := by
  have htab : Lib.TabIs Tryd.prog w0 "internal/strconv.uint64pow10" .u64 Lib.pow10Tab := by
    obtain ⟨T, fr, h⟩ := hT
    have hg : (Tryd.prog).globalNamed "internal/strconv.uint64pow10" = some 1 := by kernel_rfl
    simp only [Lib.TabIs, World.var?, hg, Option.bind_some, h]
    rfl
  refine Calls.mono (Tryd.strconv_Itoa (n : Int) (by omega) (by omega) w0 htab) ?_
  rintro e w' ⟨rfl, k, os, rfl⟩
  refine ⟨?_, (Only.drewN w0 k).tr (only_grow _ os)⟩
  rw [Lib.itoa_nonneg, dec_digL]

theorem digL_20 {n : Nat} (h : n < 18446744073709551616) : (digL n).length ≤ 20 := by rw [← dec_digL, Lib.decDigits_length]; exact Lib.nDigits_le20 n h
theorem below_only {B : Nat} {w w' : World} (h : Below B w w') : Only (fun k => B ≤ k) w w' := ⟨h.os, h.tape, h.output, h.size, fun k _ hn => h.block k (by omega)⟩
structure PrB (w : World) (H p : Nat) (ad v : Value) (bs : List UInt8) : Prop where
  cell : w.heap[p]? = some (.cells #[ad, v] 95 (0, 0))
  adr : ad = .pointer none ∨ ad = .pointer (some ⟨p, 0, none⟩)
  row : w.ownsRow H 5 1 v bs.length (bs.map bv)
  hp : H ≤ p
theorem PrB.ext {w w' : World} {H p : Nat} {ad v : Value} {bs : List UInt8} (h : PrB w H p ad v bs) (ho : Ext w w') : PrB w' H p ad v bs := ⟨ho.blk h.cell (fun h => h), h.adr, own_ext h.row ho, h.hp⟩
theorem PrB.lt {w : World} {H p : Nat} {ad v : Value} {bs : List UInt8} (h : PrB w H p ad v bs) : H ≤ p ∧ p < w.heap.size := ⟨h.hp, (Array.getElem?_eq_some_iff.1 h.cell).1⟩
theorem PrB.is {w : World} {H p : Nat} {ad v : Value} {bs : List UInt8} (h : PrB w H p ad v bs) : Lib.IsBuilder 95 5 H p (bs.map bv) w := by
  have hb : Lib.BuilderAt 95 5 H p ad (bs.map bv) w := ⟨h.hp, v, h.cell, by rw [List.length_map]; exact h.row, fun he => own_off h.row h.cell (by decide) he⟩
  rcases h.adr with rfl | rfl
  · exact .inl hb
  · exact .inr hb
theorem bstr_spec (H p : Nat) (ad v : Value) (bs : List UInt8) (w0 : World) (hM : PrB w0 H p ad v bs) : Ca Tryd.prog 50 #[.pointer (some ⟨p, 0, none⟩)] w0 (fun u w' => u = st bs ∧ Only (fun k => H ≤ k) w0 w') := by
  have hlt := hM.lt
  refine Calls.mono (Tryd.Builder_String_any H p bs w0 (by have := hM.is; exact this) (by omega)) ?_
  rintro e w' ⟨rfl, hb⟩
  exact ⟨rfl, below_only hb⟩
theorem join_spec (xs : List (List UInt8)) (sl : Value) (w0 : World) (hS : Sl w0 1 sl xs.length (xs.map st)) (hne : xs ≠ []) (hn : xs.length ≤ 140737488355328) (hl : (Lib.join xs [32]).length ≤ 140737488355328) : Ca Tryd.prog 48 #[sl, st [32]] w0 (fun u w' => u = st (Lib.join xs [32]) ∧ Ext w0 w') := by
  have h0 : 0 < xs.length := List.length_pos_iff.2 hne
  rcases hS.val with ⟨h, -⟩ | ⟨b, off, c, rfl, hnc, hc⟩
  · omega
  · have hm : (xs.map (fun l : List UInt8 => (⟨l.toArray⟩ : ByteArray))).map (·.data.toList) = xs := by rw [List.map_map]; simp [Function.comp_def]
    have hbk : b < w0.heap.size := hS.lt (by omega) rfl
    have := Tryd.strings_Join b off c (xs.map (fun l : List UInt8 => (⟨l.toArray⟩ : ByteArray))) ⟨#[32]⟩ w0 (fun j x hx => by
      rw [List.getElem?_map] at hx
      obtain ⟨l, hl1, rfl⟩ := Option.map_eq_some_iff.1 hx
      have := hc j (st l) (by rw [List.getElem?_map, hl1]; rfl)
      simpa using this) hbk (by rw [List.length_map]; exact hn) (by rw [List.length_map]; exact hnc) (by rw [hm]; exact hl)
    rw [hm, List.length_map] at this
    refine Calls.mono this ?_
    rintro e w' ⟨rfl, hb⟩
    exact ⟨rfl, ⟨hb.os, hb.tape, hb.output, hb.size, fun k hk _ => hb.block k hk⟩⟩
noncomputable def lineS (xs : List (List UInt8)) : List UInt8 := Lib.join xs [32] ++ [10]
def wordS (n : Int) : List UInt8 := if n = -1 then [45] else digL n.toNat
def entParts (i : Nat) (e : Int) : List (List UInt8) := [[116, 121, 112, 101], digL i, digL e.toNat]
def insParts (enc : Bool) (i : Nat) (x : Ins) : List (List UInt8) := digL i :: (fmD enc x.op).1 :: (opsI (fmD enc x.op).2 x).map wordS
def hdrP (enc : Bool) : List UInt8 := if enc then [101, 110, 99, 111, 100, 101, 114] else [100, 101, 99, 111, 100, 101, 114]
noncomputable def prtE (p : Pg) (k : Nat) : List UInt8 := (List.range k).flatMap fun i => lineS (entParts i (p.ent.getD i 0))
noncomputable def prtI (p : Pg) (k : Nat) : List UInt8 := (List.range k).flatMap fun i => lineS (insParts p.enc i (p.code.getD i in0))
noncomputable def prt0 (p : Pg) : List UInt8 := lineS [hdrP p.enc]
noncomputable def prtS (p : Pg) : List UInt8 := prt0 p ++ prtE p p.ent.length ++ prtI p p.code.length
noncomputable def prtB (p : Pg) : List UInt8 := if (chk p).1 = 0 then prtS p else []
theorem prtE_succ (p : Pg) (k : Nat) : prtE p (k + 1) = prtE p k ++ lineS (entParts k (p.ent.getD k 0)) := by unfold prtE; rw [List.range_succ, List.flatMap_append]; simp
theorem prtI_succ (p : Pg) (k : Nat) : prtI p (k + 1) = prtI p k ++ lineS (insParts p.enc k (p.code.getD k in0)) := by unfold prtI; rw [List.range_succ, List.flatMap_append]; simp
theorem lineS_cons (x : List UInt8) (r : List (List UInt8)) : lineS (x :: r) = x ++ r.flatMap (fun y => 32 :: y) ++ [10] := by
  unfold lineS
  rw [Lib.join_cons, Lib.joinTail, List.flatMap]
  rfl
theorem wordS_len {n : Int} (h : -1 ≤ n ∧ n ≤ 2147483647) : (wordS n).length ≤ 20 := by
  unfold wordS
  split
  · simp
  · exact digL_20 (by omega)
theorem fmOf_nm {enc : Bool} {op : Int} {f : List UInt8 × List UInt8} (h : fmOf enc op = some f) : f.1.length ≤ 8 := by
  have : ∀ f ∈ dTab.tail ++ cTab, f.1.length ≤ 8 := by decide +kernel
  exact this f (fmOf_mem h)
theorem rng_len {f : Nat → List UInt8} {c : Nat} : ∀ k, (∀ i, i < k → (f i).length ≤ c) → ((List.range k).flatMap f).length ≤ c * k := fun k h => by
  have := fm_len (f := f) (c := c) (l := List.range k) (fun x hx => h x (List.mem_range.1 hx))
  rwa [List.length_range] at this

theorem copycheck_fresh (H p : Nat) (v : Value) (bs : List UInt8) (w0 : World) (hM : PrB w0 H p (.pointer none) v bs) : Ca Tryd.prog 65 #[.pointer (some ⟨p, 0, none⟩)] w0 (fun u w' => PrB w' H p (.pointer (some ⟨p, 0, none⟩)) v bs ∧ Only (fun k => k = p) w0 w') := by
  have hcell := hM.cell
  refine Ca.of Tryd.func65 Tryd.ntmps65 rfl rfl ?_
  refine W.seq ?_
  refine W.region ?_
  refine WL.c rfl (o_mvh (by first | exact (show _ = Value.pointer _ from rfl) | exact rfl) ?_)
  refine WL.c rfl (o_nil rfl ?_)
  refine WL.c rfl (o_fa 0 TI95 rfl TI93 rfl rfl ?_)
  refine WL.c rfl (o_ld TI93 rfl rfl (cell_of hcell rfl) ?_)
  refine WL.c rfl (o_eqN TI93 rfl rfl ?_)
  refine WL.nil ?_
  refine W.condT' rfl (rfl) ?_
  refine W.region ?_
  refine WL.c rfl (o_mvh (by first | exact (show _ = Value.pointer _ from rfl) | exact rfl) ?_)
  refine WL.c rfl (o_mvh (by first | exact (show _ = Value.pointer _ from rfl) | exact rfl) ?_)
  refine WL.c rfl (o_cvPU Tryd.underlying93 Tryd.underlying122 TI95 (by decide) rfl hcell (by simp) ?_)
  refine WL.c rfl (o_callX Tryd.func74 (by kernel_rfl) rfl (by kernel_rfl) (show _ = some Extern.AbiNoEscape.same by kernel_rfl) (lc rfl ln) (rfl) ?_)
  refine WL.c rfl (o_cvUP Tryd.underlying122 Tryd.underlying93 TI95 rfl hcell (by kernel_rfl) ?_)
  refine WL.c rfl (o_nil rfl ?_)
  refine WL.c rfl (o_fa 0 TI95 rfl TI93 rfl rfl ?_)
  refine WL.u (o_stB TI93 rfl (show _ = Value.pointer (some ⟨p, 0, none⟩) from rfl) rfl hcell (show 0 < 2 by decide) ?_)
  intro wc hB13 ho hs13
  have hM2 : PrB wc H p (.pointer (some ⟨p, 0, none⟩)) v bs := ⟨hB13, .inr rfl, own_only hM.row ho (fun k hk he => by subst he; exact own_off hM.row hcell (by decide) hk), hM.hp⟩
  refine WL.nil ?_
  refine ret0 rfl ?_
  exact ⟨hM2, ho⟩
theorem copycheck_used (H p : Nat) (v : Value) (bs : List UInt8) (w0 : World) (hM : PrB w0 H p (.pointer (some ⟨p, 0, none⟩)) v bs) : Ca Tryd.prog 65 #[.pointer (some ⟨p, 0, none⟩)] w0 (fun u w' => PrB w' H p (.pointer (some ⟨p, 0, none⟩)) v bs ∧ Only (fun k => k = p) w0 w') := by
  have hcell := hM.cell
  refine Ca.of Tryd.func65 Tryd.ntmps65 rfl rfl ?_
  refine W.seq ?_
  refine W.region ?_
  refine WL.c rfl (o_mvh (by first | exact (show _ = Value.pointer _ from rfl) | exact rfl) ?_)
  refine WL.c rfl (o_nil rfl ?_)
  refine WL.c rfl (o_fa 0 TI95 rfl TI93 rfl rfl ?_)
  refine WL.c rfl (o_ld TI93 rfl rfl (cell_of hcell rfl) ?_)
  refine WL.c rfl (o_eqN TI93 rfl rfl ?_)
  refine WL.nil ?_
  refine W.condF' rfl (rfl) ?_
  refine W.seq ?_
  refine W.region ?_
  refine WL.c rfl (o_mvh (by first | exact (show _ = Value.pointer _ from rfl) | exact rfl) ?_)
  refine WL.c rfl (o_nil rfl ?_)
  refine WL.c rfl (o_fa 0 TI95 rfl TI93 rfl rfl ?_)
  refine WL.c rfl (o_ld TI93 rfl rfl (cell_of hcell rfl) ?_)
  refine WL.c rfl (o_mvh (by first | exact (show _ = Value.pointer _ from rfl) | exact rfl) ?_)
  refine WL.c rfl (o_neP Tryd.underlying93 TI95 rfl rfl ?_)
  refine WL.nil ?_
  refine W.condF' rfl (rfl) ?_
  refine W.skip ?_
  refine ret0 rfl ?_
  exact ⟨hM, Only.refl _ _⟩

theorem copycheck_spec (H p : Nat) (ad v : Value) (bs : List UInt8) (w0 : World) (hM : PrB w0 H p ad v bs) : Ca Tryd.prog 65 #[.pointer (some ⟨p, 0, none⟩)] w0 (fun u w' => PrB w' H p (.pointer (some ⟨p, 0, none⟩)) v bs ∧ Only (fun k => k = p) w0 w') := by
  rcases hM.adr with h | h
  · subst h; exact copycheck_fresh H p v bs w0 hM
  · subst h; exact copycheck_used H p v bs w0 hM

theorem write_spec (H p : Nat) (ad v : Value) (bs s : List UInt8) (w0 : World) (hM : PrB w0 H p ad v bs) (hl : bs.length + s.length ≤ 140737488355328) : Ca Tryd.prog 47 #[.pointer (some ⟨p, 0, none⟩), st s] w0 (fun u w' => ∃ ad' v', PrB w' H p ad' v' (bs ++ s) ∧ Only (FP H p w0) w0 w') := by
  refine Ca.of Tryd.func47 Tryd.ntmps47 rfl rfl ?_
  refine W.seq ?_
  refine W.region ?_
  refine WL.c rfl (o_ash (show _ = Value.int _ _ from rfl) ?_)
  refine WL.c rfl (o_as ?_)
  refine WL.nil ?_
  refine W.seq ?_
  refine W.region ?_
  refine WL.c rfl (o_mvh (by first | exact (show _ = Value.pointer _ from rfl) | exact rfl) ?_)
  refine WL.c rfl (o_call Tryd.call65 (lc rfl ln) ((copycheck_spec H p ad v bs _ hM).mono ?_))
  rintro v7 w7 ⟨hM7, ho7⟩
  have hcell := hM7.cell
  have hlt := hM7.lt
  have hmx : 140737488355328 ≤ maxLen := by rw [maxLen_eq]; decide
  refine WL.nil ?_
  refine W.seq ?_
  refine W.region ?_
  refine WL.c rfl (o_mvh (by first | exact (show _ = Value.pointer _ from rfl) | exact rfl) ?_)
  refine WL.c rfl (o_mvh (by first | exact (show _ = Value.pointer _ from rfl) | exact rfl) ?_)
  refine WL.c rfl (o_nil rfl ?_)
  refine WL.c rfl (o_fa 1 TI95 rfl TI34 rfl rfl ?_)
  refine WL.c rfl (o_ld TI34 rfl rfl (cell_of hcell rfl) ?_)
  refine WL.c rfl (o_mvh (show _ = Value.string _ from rfl) ?_)
  refine WL.c rfl (o_apS (H) TI34 TI5 TI9 rfl rfl hM7.row rfl (by omega) hl (by omega) ?_)
  intro v14 w14 hr14 ho14
  rw [← List.map_append, ← List.length_append] at hr14
  have hoff := own_off hM7.row hcell (show 5 ≠ 95 by decide)
  have hc14 := ho14.blk hcell hoff
  have hge := fun k hk => (hM7.row.lt k hk).1
  have hu8 := fun k (hk : v.ownBlock = some k) => own_u8 hM7.row hk
  refine WL.c rfl (o_nil rfl ?_)
  refine WL.c rfl (o_fa 1 TI95 rfl TI34 rfl rfl ?_)
  refine WL.u (o_stB TI34 rfl (show _ = v14 from rfl) (own_one hr14) hc14 (show 1 < 2 by decide) ?_)
  intro w16 hB16 ho16 hs16
  have hM2 : PrB w16 H p (.pointer (some ⟨p, 0, none⟩)) v14 (bs ++ s) := ⟨hB16, .inr rfl, own_only hr14 ho16 (fun k hk he => by subst he; exact own_off hr14 hc14 (by decide) hk), hM7.hp⟩
  have hO : Only (FP H p w0) w0 w16 := FP.tr (ho7.mono (fun k _ h => .inl h)) (FP.tr (ho14.mono (fun k _ h => .inr ⟨hge k h, hu8 k h⟩)) (ho16.mono (fun k _ h => .inl h)))
  refine WL.nil ?_
  refine W.seq ?_
  refine W.region ?_
  refine WL.c rfl (o_mvh (show _ = Value.string _ from rfl) ?_)
  refine WL.c rfl (o_lenT TI9 rfl ?_)
  refine WL.c rfl (o_ash (show _ = Value.int _ _ from rfl) ?_)
  refine WL.c rfl (o_as ?_)
  refine WL.nil ?_
  refine W.ret ?_
  refine ret2v rfl (show _ = Value.int _ _ from rfl) rfl ?_
  exact ⟨_, _, hM2, hO⟩
theorem line_spec (H p : Nat) (ad v : Value) (bs : List UInt8) (sl : Value) (xs : List (List UInt8)) (w0 : World) (hM : PrB w0 H p ad v bs) (hS : Sl w0 1 sl xs.length (xs.map st)) (hne : xs ≠ []) (hn : xs.length ≤ 140737488355328) (hl : bs.length + (lineS xs).length ≤ 140737488355328) : Ca Tryd.prog 46 #[sl, .pointer (some ⟨p, 0, none⟩)] w0 (fun _ w' => ∃ ad' v', PrB w' H p ad' v' (bs ++ lineS xs) ∧ Only (FP H p w0) w0 w') := by
  have hl2 : (lineS xs).length = (Lib.join xs [32]).length + 1 := by unfold lineS; simp
  refine Ca.of Tryd.func46 Tryd.ntmps46 rfl rfl ?_
  refine W.region ?_
  refine WL.c rfl (o_mvh (by first | exact (show _ = Value.slice _ _ _ from rfl) | exact rfl) ?_)
  refine WL.c rfl (o_call Tryd.call48 (lc rfl (lc rfl ln)) ((join_spec xs sl _ hS hne hn (by omega)).mono ?_))
  rintro v4 w4 ⟨rfl, hx4⟩
  replace hM := hM.ext hx4
  refine WL.c rfl (o_addT rfl rfl (by simp; omega) ?_)
  refine WL.c rfl (o_call Tryd.call47 (lc rfl (lc rfl ln)) ((write_spec H p ad v bs (lineS xs) _ hM hl).mono ?_))
  rintro v6 w6 ⟨ad', v', hM2, ho6⟩
  refine WL.nil ?_
  refine ret0 rfl ?_
  exact ⟨_, _, hM2, FP.ext0 hx4 ho6⟩
end Go.Proofs.YthlbhnefldaoiaaDoor

set_option linter.unusedSimpArgs false
set_option linter.unusedVariables false
set_option maxRecDepth 100000
namespace Go.Proofs.YthlbhnefldaoiaaDoor
open Go Go.Vc Go.RowKit Go.Proofs

theorem itoa_int (z : Int) (h0 : 0 ≤ z) (h1 : z ≤ 9223372036854775807) (w0 : World) (hT : Tab w0) : Ca Tryd.prog 49 #[.int .i64 z] w0 (fun v w' => v = st (digL z.toNat) ∧ Ext w0 w') := by
  have := itoa_spec z.toNat (by omega) w0 hT
  rwa [Int.toNat_of_nonneg h0] at this
theorem PrB.only {F : Nat → Prop} {w w' : World} {H p : Nat} {ad v : Value} {bs : List UInt8} (h : PrB w H p ad v bs) (ho : Only F w w') (hc : ¬ F p) (hr : ∀ k, v.ownBlock = some k → ¬ F k) : PrB w' H p ad v bs := ⟨ho.blk h.cell hc, h.adr, own_only h.row ho hr, h.hp⟩
/-- the parts of an instruction's line, asx far asx they go -/
def prtJ (k : Nat) (nm : List UInt8) (x : Ins) (S : List Nat) (j : Nat) : List (List UInt8) := digL k :: nm :: (S.take j).map (fun t => wordS (opAt x t))
theorem prtJ_succ {k : Nat} {nm : List UInt8} {x : Ins} {S : List Nat} {j : Nat} (h : j < S.length) : prtJ k nm x S (j + 1) = prtJ k nm x S j ++ [wordS (opAt x S[j])] := by
  unfold prtJ
  rw [← List.take_append_getElem h, List.map_append]; rfl
theorem prtJ_len {k : Nat} {nm : List UInt8} {x : Ins} {S : List Nat} {j : Nat} (h : j ≤ S.length) : (prtJ k nm x S j).length = 2 + j := by
  unfold prtJ
  simp; omega
theorem prtJ_all {enc : Bool} {k : Nat} {nm : List UInt8} {x : Ins} {l0 l1 l2 : UInt8} (h : fmOf enc x.op = some (nm, [l0, l1, l2])) : prtJ k nm x (selI [l0, l1, l2]) (selI [l0, l1, l2]).length = insParts enc k x := by
  have e1 : fmD enc x.op = (nm, [l0, l1, l2]) := by rw [fmD, h]; rfl
  unfold prtJ insParts
  rw [List.take_length, e1, opsI_sel, List.map_map]; rfl
theorem insL_len {p : Pg} (hr : ReadP p) {k : Nat} (hk : k < p.code.length) : (lineS (insParts p.enc k (p.code.getD k in0))).length ≤ 120 := by
  obtain ⟨nm, l0, l1, l2, hfm, -, -, hop⟩ := hr.form hk
  have e0 : p.code.getD k in0 = p.code[k] := by rw [List.getD_eq_getElem?_getD, List.getElem?_eq_getElem hk]; rfl
  have hn := hr.nc
  rw [e0, ← prtJ_all hfm]
  unfold prtJ
  rw [lineS_cons, List.take_length]
  have h1 := digL_20 (n := k) (by omega)
  have h2 := fmOf_nm hfm
  have h3 : (selI [l0, l1, l2]).length ≤ 3 := selK_le [l0, l1, l2] 3
  have h4 := fm_len (f := fun y : List UInt8 => 32 :: y) (c := 21) (l := (selI [l0, l1, l2]).map (fun t => wordS (opAt p.code[k] t))) (fun y hy => by
    obtain ⟨t, ht, rfl⟩ := List.mem_map.1 hy
    have := wordS_len (hop t ht)
    simp; omega)
  rw [List.length_map] at h4
  simp only [List.flatMap_cons, List.length_append, List.length_cons, List.length_nil] at h2 h4 ⊢
  omega
theorem prt_bd {p : Pg} (hr : ReadP p) : (prt0 p).length ≤ 10 ∧ (∀ k, k ≤ p.ent.length → (prtE p k).length ≤ 62914560) ∧ (∀ k, k ≤ p.code.length → (prtI p k).length ≤ 125829120) ∧ ∀ k, k < p.ent.length → (lineS (entParts k (p.ent.getD k 0))).length ≤ 60 := by
  have h1 := hr.nc
  have h2 := hr.ne
  have h3 : ∀ k, k < p.ent.length → (lineS (entParts k (p.ent.getD k 0))).length ≤ 60 := fun k hk => by
    have e0 : p.ent.getD k 0 = p.ent[k] := by rw [List.getD_eq_getElem?_getD, List.getElem?_eq_getElem hk]; rfl
    have he := layE_put (hr.ent p.ent[k] (List.getElem_mem _))
    rw [e0]
    have g1 := digL_20 (n := k) (by omega)
    have g2 := digL_20 (n := p.ent[k].toNat) (by omega)
    unfold entParts
    rw [lineS_cons]
    simp; omega
  refine ⟨?_, fun k hk => ?_, fun k hk => ?_, h3⟩
  · unfold prt0 hdrP
    rw [lineS_cons]
    split <;> simp
  · have := rng_len (f := fun i => lineS (entParts i (p.ent.getD i 0))) (c := 60) k (fun i hi => h3 i (by omega))
    unfold prtE; omega
  · have := rng_len (f := fun i => lineS (insParts p.enc i (p.code.getD i in0))) (c := 120) k (fun i hi => insL_len hr (by omega))
    unfold prtI; omega

set_option maxHeartbeats 32000000 in
theorem print_spec (p : Pg) (cv ev_ : Value) (w0 : World) (hT : Tab w0) (hp : PgR w0 p cv ev_) (hlc : p.code.length ≤ 4611686018427387904) (hle : p.ent.length ≤ 4611686018427387904) : Ca Tryd.prog 23 #[.agg (pgV p cv ev_).toArray] w0 (fun r w' => r = .tuple #[st (prtB p), .agg #[.int .i64 ((chk p).1 : Int), .int .i64 ((chk p).2 : Int)]] ∧ Ext w0 w') := by
  refine Ca.of Tryd.func23 Tryd.ntmps23 rfl rfl ?_
  refine W.seq ?_
  refine W.region ?_
  refine WL.c rfl (o_boxB rfl ?_)
  intro w1 hC1 hx1 hs1
  obtain ⟨b1, hb1⟩ : ∃ b, b = w0.heap.size := ⟨_, rfl⟩
  rw [← hb1] at hC1 ⊢
  replace hC1 : w1.heap[b1]? = some (.cells (pgV p cv ev_).toArray 26 (0, 0)) := hC1
  have hx : Ext w0 w1 := hx1
  refine WL.c rfl (o_ash (show _ = Value.string _ from rfl) ?_)
  refine WL.c rfl (o_alB TI32 ?_)
  intro w3 hC3 hx3 hs3
  obtain ⟨b3, hb3⟩ : ∃ b, b = w1.heap.size := ⟨_, rfl⟩
  rw [← hb3] at hC3 ⊢
  replace hC3 : w3.heap[b3]? = some (.cells ([.int .i64 0, .int .i64 0]).toArray 32 (0, 0)) := hC3
  have hb3g : w0.heap.size ≤ b3 := by have := hx.size; omega
  replace hx := hx.tr hx3
  replace hC1 := hx3.blk hC1 (fun h => h)
  refine WL.nil ?_
  refine W.seq ?_
  refine W.seq ?_
  refine W.region ?_
  refine WL.c rfl (o_ldA TI26 rfl rfl (show Cells _ b1 0 (pgV p cv ev_) from Cells.of hC1 0 _ (by simp)) rfl ?_)
  refine WL.c rfl (o_call Tryd.call12 (lc rfl ln) ((check_spec p cv ev_ _ (hp.ext hx) hlc hle).mono ?_))
  rintro v17 w17 ⟨rfl, hx17⟩
  replace hx := hx.tr hx17
  replace hC1 := hx17.blk hC1 (fun h => h)
  replace hC3 := hx17.blk hC3 (fun h => h)
  refine WL.c rfl (o_alB TI32 ?_)
  intro wa hCa hxa hsa
  refine WL.u (o_stA TI32 rfl (show _ = Value.agg ([.int .i64 ((chk p).1 : Int), .int .i64 ((chk p).2 : Int)]).toArray from rfl) rfl rfl hCa rfl ?_)
  intro wb4 hC4 hob hsb
  have hxb := Ext.own hxa (Nat.le_refl _) hob
  obtain ⟨b4, hb4⟩ : ∃ b, b = w17.heap.size := ⟨_, rfl⟩
  rw [← hb4] at hC4 ⊢
  clear hCa hxa hsa hob hsb
  replace hx := hx.tr hxb
  replace hC1 := hxb.blk hC1 (fun h => h)
  replace hC3 := hxb.blk hC3 (fun h => h)
  clear hxb
  refine WL.nil ?_
  refine W.seq ?_
  refine W.region ?_
  refine WL.c rfl (o_fa 0 TI32 rfl TI30 rfl rfl ?_)
  refine WL.c rfl (o_ld TI30 rfl rfl (cell_of hC4 rfl) ?_)
  refine WL.c rfl (o_ne rfl rfl ?_)
  refine WL.nil ?_
  refine W.cond rfl (fun c20 => ?_) (fun c20 => ?_)
  · try simp only [decide_eq_true_eq, decide_eq_false_iff_not, Bool.not_eq_true', Bool.not_eq_false', Bool.and_eq_true, Bool.or_eq_true, Bool.and_eq_false_iff, Bool.or_eq_false_iff] at c20
    have hne : (chk p).1 ≠ 0 := by omega
    have heb : prtB p = [] := by rw [prtB, if_neg hne]
    refine W.seq ?_
    refine W.tail 2 rfl (by kernel_rfl) ?_
    refine WS.c rfl ((SO.o rfl (o_ldA TI32 rfl rfl (show Cells _ b4 0 [.int .i64 ((chk p).1 : Int), .int .i64 ((chk p).2 : Int)] from Cells.of ((Only.drew _).blk hC4 (fun h => h)) 0 _ (by simp)) rfl ⟨rfl, rfl⟩))) ?_
    refine WS.c rfl ((SO.o rfl (o_ash (show _ = Value.string _ from rfl) ⟨rfl, rfl⟩))) ?_
    refine WS.nil ?_
    have hxd := Only.drew wb4
    replace hx := hx.tr hxd
    replace hC3 := hxd.blk hC3 (fun h => h)
    refine WL.u (o_stA TI32 rfl (show _ = Value.agg #[.int .i64 ((chk p).1 : Int), .int .i64 ((chk p).2 : Int)] from rfl) rfl rfl (by assumption) rfl ?_)
    intro ws hBs hos hss
    replace hx := hx.trans' hos (fun _ h => h) (fun k hk he => by subst he; omega)
    refine WL.nil ?_
    refine W.ret ?_
    refine retTC rfl TI32 rfl rfl rfl (cells_all (by assumption)) rfl ?_
    exact ⟨by rw [heb]; first | rfl | (congr 1), hx⟩
  · try simp only [decide_eq_true_eq, decide_eq_false_iff_not, Bool.not_eq_true', Bool.not_eq_false', Bool.and_eq_true, Bool.or_eq_true, Bool.and_eq_false_iff, Bool.or_eq_false_iff] at c20
    have hz : (chk p).1 = 0 := by omega
    have hok := chk_zero.1 hz
    have hcz := chk_okP hok
    have heb : prtB p = prtS p := by rw [prtB, if_pos hz]
    have hrd := hok.read
    have hnc := hrd.nc
    have hne := hrd.ne
    obtain ⟨hb0, hbE, hbI, hbe1⟩ := prt_bd hrd
    refine W.skip ?_
    refine W.seq ?_
    refine W.region ?_
    refine WL.c rfl (o_alB TI95 ?_)
    intro w5 hC5 hx5 hs5
    obtain ⟨b5, hb5⟩ : ∃ b, b = wb4.heap.size := ⟨_, rfl⟩
    rw [← hb5] at hC5 ⊢
    replace hC5 : w5.heap[b5]? = some (.cells ([.pointer none, .slice none 0 0]).toArray 95 (0, 0)) := hC5
    have hg5 : w0.heap.size ≤ b5 := by have := hx.size; omega
    have hl1 := (Array.getElem?_eq_some_iff.1 hC1).1
    have hl3 := (Array.getElem?_eq_some_iff.1 hC3).1
    have hn1 : b1 ≠ b5 := by omega
    have hn3 : b3 ≠ b5 := by omega
    replace hx := hx.tr hx5
    replace hC1 := hx5.blk hC1 (fun h => h)
    replace hC3 := hx5.blk hC3 (fun h => h)
    obtain ⟨H0, hH0⟩ : ∃ H, H = b5 := ⟨_, rfl⟩
    have hH0x : w0.heap.size ≤ H0 := by omega
    have hH5 : H0 ≤ b5 := by omega
    have hb3H : b3 < H0 := by omega
    have hM : PrB w5 H0 b5 (.pointer none) (.slice none 0 0) [] := ⟨hC5, .inl rfl, World.ownsRow_nil _ _ _ _, hH5⟩
    clear hC5
    refine WL.nil ?_
    refine W.seq ?_
    refine W.region ?_
    refine WL.c rfl (o_mkF (lc rfl ln) ?_)
    refine WL.c rfl (o_as ?_)
    refine WL.nil ?_
    refine W.seq ?_
    refine W.seq ?_
    refine W.region ?_
    refine WL.c rfl (o_fa 0 TI26 rfl TI4 rfl rfl ?_)
    refine WL.c rfl (o_ld TI4 rfl rfl (cell_of hC1 rfl) ?_)
    refine WL.nil ?_
    refine W.cut (fun e1 w1 => ∃ ad vb, PrB w1 H0 b5 ad vb (prt0 p) ∧ e1 1 = .pointer (some ⟨b1, 0, none⟩) ∧ e1 3 = .pointer (some ⟨b3, 0, none⟩) ∧ e1 5 = .pointer (some ⟨b5, 0, none⟩) ∧ e1 6 = Value.func (.func 46) #[] #[.pointer (some ⟨b5, 0, none⟩)] ∧ w1.heap[b1]? = some (.cells (pgV p cv ev_).toArray 26 (0, 0)) ∧ w1.heap[b3]? = some (.cells #[.int .i64 0, .int .i64 0] 32 (0, 0)) ∧ Ext w0 w1) ?_ ?_
    · -- both ways
      refine W.cond rfl (fun c24 => ?_) (fun c24 => ?_)
      · try simp only [decide_eq_true_eq, decide_eq_false_iff_not, Bool.not_eq_true', Bool.not_eq_false', Bool.and_eq_true, Bool.or_eq_true, Bool.and_eq_false_iff, Bool.or_eq_false_iff] at c24
        refine W.region ?_
        refine WL.c rfl (o_mv ?_)
        refine WL.c rfl (o_bs1 TI96 TI9 (show _ = Value.string _ from rfl) (by decide) (by decide) rfl ?_)
        have hr26 := own_newN (w := w5) (vs := [st [101, 110, 99, 111, 100, 101, 114]]) (el := 9) (n := 1) rfl (by decide)
        have hx26 : Ext w5 (w5.alloc (.cells ([st [101, 110, 99, 111, 100, 101, 114]]).toArray 9)) := Only.alloc w5 _
        obtain ⟨w26, hw26⟩ : ∃ w, w = w5.alloc (.cells ([st [101, 110, 99, 111, 100, 101, 114]]).toArray 9) := ⟨_, rfl⟩
        rw [← hw26] at hr26 hx26
        first | rw [← hw26] | (have hww : w5.alloc (.cells ([st [101, 110, 99, 111, 100, 101, 114]]).toArray 9) = w26 := hw26.symm; refine Eq.mpr (congrArg _ hww) ?_) | (have hww : w5.alloc (.cells ([st [101, 110, 99, 111, 100, 101, 114]]).toArray 9) = w26 := hw26.symm; simp only [Value.cells] at hww ⊢; rw [hww])
        clear hw26
        obtain ⟨g26, hg26⟩ : ∃ b, b = w5.heap.size := ⟨_, rfl⟩
        rw [← hg26] at hr26 ⊢
        replace hx := hx.tr hx26
        replace hC1 := hx26.blk hC1 (fun h => h)
        replace hC3 := hx26.blk hC3 (fun h => h)
        replace hM := hM.ext hx26
        refine WL.c rfl (o_callC (show _ = Value.func (.func 46) #[] #[.pointer (some ⟨b5, 0, none⟩)] from by first | rfl | assumption) Tryd.call46 (lc (show _ = Value.slice (some ⟨g26, 0, none⟩) 1 1 from by first | rfl | assumption) ln) ((line_spec H0 b5 _ _ _ (Value.slice (some ⟨g26, 0, none⟩) 1 1) ([[101, 110, 99, 111, 100, 101, 114]]) _ hM (Sl.own hr26) (by first | exact List.cons_ne_nil _ _ | (unfold prtJ; exact List.cons_ne_nil _ _)) (by first | decide | omega | (simp [entParts]; done)) (by rw [lineS_cons]; simp)).mono ?_))
        rintro v27 w27 ⟨ad27, vb27, hM27, ho27⟩
        replace hC1 := FP.blk ho27 hC1 (by decide) hn1
        replace hC3 := FP.blk ho27 hC3 (by decide) hn3
        replace hx := FP.top hx ho27 hH0x hH5
        clear hM
        have hM := hM27
        clear hM27
        refine WL.nil ?_
        first | exact ⟨_, _, by (have hh : prt0 p = [] ++ lineS [[101, 110, 99, 111, 100, 101, 114]] := by (unfold prt0 hdrP; rw [c24]; rfl)); rw [hh]; exact hM, rfl, rfl, rfl, rfl, hC1, hC3, hx⟩ | exact ⟨_, _, by (have hh : prt0 p = [] ++ lineS [[100, 101, 99, 111, 100, 101, 114]] := by (unfold prt0 hdrP; rw [c24]; rfl)); rw [hh]; exact hM, rfl, rfl, rfl, rfl, hC1, hC3, hx⟩
      · try simp only [decide_eq_true_eq, decide_eq_false_iff_not, Bool.not_eq_true', Bool.not_eq_false', Bool.and_eq_true, Bool.or_eq_true, Bool.and_eq_false_iff, Bool.or_eq_false_iff] at c24
        refine W.region ?_
        refine WL.c rfl (o_mv ?_)
        refine WL.c rfl (o_bs1 TI96 TI9 (show _ = Value.string _ from rfl) (by decide) (by decide) rfl ?_)
        have hr29 := own_newN (w := w5) (vs := [st [100, 101, 99, 111, 100, 101, 114]]) (el := 9) (n := 1) rfl (by decide)
        have hx29 : Ext w5 (w5.alloc (.cells ([st [100, 101, 99, 111, 100, 101, 114]]).toArray 9)) := Only.alloc w5 _
        obtain ⟨w29, hw29⟩ : ∃ w, w = w5.alloc (.cells ([st [100, 101, 99, 111, 100, 101, 114]]).toArray 9) := ⟨_, rfl⟩
        rw [← hw29] at hr29 hx29
        first | rw [← hw29] | (have hww : w5.alloc (.cells ([st [100, 101, 99, 111, 100, 101, 114]]).toArray 9) = w29 := hw29.symm; refine Eq.mpr (congrArg _ hww) ?_) | (have hww : w5.alloc (.cells ([st [100, 101, 99, 111, 100, 101, 114]]).toArray 9) = w29 := hw29.symm; simp only [Value.cells] at hww ⊢; rw [hww])
        clear hw29
        obtain ⟨g29, hg29⟩ : ∃ b, b = w5.heap.size := ⟨_, rfl⟩
        rw [← hg29] at hr29 ⊢
        replace hx := hx.tr hx29
        replace hC1 := hx29.blk hC1 (fun h => h)
        replace hC3 := hx29.blk hC3 (fun h => h)
        replace hM := hM.ext hx29
        refine WL.c rfl (o_callC (show _ = Value.func (.func 46) #[] #[.pointer (some ⟨b5, 0, none⟩)] from by first | rfl | assumption) Tryd.call46 (lc (show _ = Value.slice (some ⟨g29, 0, none⟩) 1 1 from by first | rfl | assumption) ln) ((line_spec H0 b5 _ _ _ (Value.slice (some ⟨g29, 0, none⟩) 1 1) ([[100, 101, 99, 111, 100, 101, 114]]) _ hM (Sl.own hr29) (by first | exact List.cons_ne_nil _ _ | (unfold prtJ; exact List.cons_ne_nil _ _)) (by first | decide | omega | (simp [entParts]; done)) (by rw [lineS_cons]; simp)).mono ?_))
        rintro v30 w30 ⟨ad30, vb30, hM30, ho30⟩
        replace hC1 := FP.blk ho30 hC1 (by decide) hn1
        replace hC3 := FP.blk ho30 hC3 (by decide) hn3
        replace hx := FP.top hx ho30 hH0x hH5
        clear hM
        have hM := hM30
        clear hM30
        refine WL.nil ?_
        first | exact ⟨_, _, by (have hh : prt0 p = [] ++ lineS [[101, 110, 99, 111, 100, 101, 114]] := by (unfold prt0 hdrP; rw [c24]; rfl)); rw [hh]; exact hM, rfl, rfl, rfl, rfl, hC1, hC3, hx⟩ | exact ⟨_, _, by (have hh : prt0 p = [] ++ lineS [[100, 101, 99, 111, 100, 101, 114]] := by (unfold prt0 hdrP; rw [c24]; rfl)); rw [hh]; exact hM, rfl, rfl, rfl, rfl, hC1, hC3, hx⟩
    rintro e w ⟨ad0, vb0, hM, h1, h3, h5, h6, hC1, hC3, hx⟩
    refine W.seq ?_
    refine W.seq ?_
    refine W.region ?_
    refine WL.c rfl (o_fa 2 TI26 rfl TI24 rfl h1 ?_)
    refine WL.c rfl (o_ld TI24 rfl rfl (cell_of hC1 rfl) ?_)
    refine WL.c rfl (o_lenR TI24 rfl (hp.ent.ext hx) ?_)
    refine WL.c rfl (o_mvh (show _ = Value.int _ _ from rfl) ?_)
    refine WL.nil ?_
    refine W.block ?_
    refine W.loop (fun e w => ∃ (k : Nat) (ad vb : Value), k ≤ p.ent.length ∧ e 1 = .pointer (some ⟨b1, 0, none⟩) ∧ e 3 = .pointer (some ⟨b3, 0, none⟩) ∧ e 5 = .pointer (some ⟨b5, 0, none⟩) ∧ e 6 = Value.func (.func 46) #[] #[.pointer (some ⟨b5, 0, none⟩)] ∧ e 32 = ev_ ∧ e 33 = .int .i64 (p.ent.length : Int) ∧ e 34 = .int .i64 (k : Int) ∧ PrB w H0 b5 ad vb (prt0 p ++ prtE p k) ∧ w.heap[b1]? = some (.cells (pgV p cv ev_).toArray 26 (0, 0)) ∧ w.heap[b3]? = some (.cells #[.int .i64 0, .int .i64 0] 32 (0, 0)) ∧ Ext w0 w) (fun e w => p.ent.length - (intOf (e 34)).toNat) ?_ ?_
    · exact ⟨0, _, _, Nat.zero_le _, h1, h3, h5, h6, rfl, rfl, rfl, by simpa [prtE] using hM, hC1, hC3, hx⟩
    rintro e w ⟨k, ad1, vb, hk, h1, h3, h5, h6, h32, h33, h34, hM, hC1, hC3, hx⟩
    have hm34 := h34
    refine W.seq ?_
    refine W.region ?_
    refine WL.c rfl (o_lt h34 h33 ?_)
    refine WL.nil ?_
    refine W.seq ?_
    refine W.cond rfl (fun c35 => ?_) (fun c35 => ?_)
    · try simp only [decide_eq_true_eq, decide_eq_false_iff_not, Bool.not_eq_true', Bool.not_eq_false', Bool.and_eq_true, Bool.or_eq_true, Bool.and_eq_false_iff, Bool.or_eq_false_iff] at c35
      have hk1 : k < p.ent.length := by omega
      have hek := (okE_at hk1).1 (hok.ent k hk1)
      have hgk : p.ent.getD k 0 = p.ent[k] := by rw [List.getD_eq_getElem?_getD, List.getElem?_eq_getElem hk1]; rfl
      have hlk := hbe1 k hk1
      rw [hgk] at hlk
      have hbk := hbE k hk
      refine W.skip ?_
      refine W.seq ?_
      refine W.block ?_
      refine W.seq ?_
      refine W.region ?_
      refine WL.c rfl (o_mvh h34 ?_)
      refine WL.c rfl (o_ix1 TI24 TI3 h32 h34 (hp.ent.ext hx) (by omega) ?_)
      intro b37 o37 hc37 hb37
      refine WL.c rfl (o_ld TI3 rfl rfl (hc37.trans (zs_at hk1)) ?_)
      refine WL.c rfl (o_ash (show _ = Value.int _ _ from rfl) ?_)
      refine WL.c rfl (o_ash (show _ = Value.int _ _ from rfl) ?_)
      refine WL.nil ?_
      refine W.region ?_
      refine WL.c rfl (o_mvh h6 ?_)
      refine WL.c rfl (o_mvh (show _ = Value.int _ _ from rfl) ?_)
      refine WL.c rfl (o_call Tryd.call49 (lc rfl ln) ((itoa_spec k (by omega) _ (hT.ext hx)).mono ?_))
      rintro v41 w41 ⟨rfl, hx41⟩
      replace hx := hx.tr hx41
      replace hC1 := hx41.blk hC1 (fun h => h)
      replace hC3 := hx41.blk hC3 (fun h => h)
      replace hM := hM.ext hx41
      refine WL.c rfl (o_mvh (show _ = Value.int _ _ from rfl) ?_)
      refine WL.c rfl (o_call Tryd.call49 (lc rfl ln) ((itoa_int p.ent[k] (by omega) (by omega) _ (hT.ext hx)).mono ?_))
      rintro v43 w43 ⟨rfl, hx43⟩
      replace hx := hx.tr hx43
      replace hC1 := hx43.blk hC1 (fun h => h)
      replace hC3 := hx43.blk hC3 (fun h => h)
      replace hM := hM.ext hx43
      refine WL.c rfl (o_bsn (vs := [st [116, 121, 112, 101], st (digL k), st (digL p.ent[k].toNat)]) (xs := [(.const (.string (.mk #[116, 121, 112, 101]))), (.tmp 41), (.tmp 43)]) TI96 TI9 rfl (lc (show _ = Value.string _ from rfl) (lc (show _ = Value.string _ from rfl) (lc (show _ = Value.string _ from rfl) ln))) rfl rfl (by decide) (by decide) ?_)
      have hr44 := own_newN (w := w43) (vs := [st [116, 121, 112, 101], st (digL k), st (digL p.ent[k].toNat)]) (el := 9) (n := 3) rfl (by decide)
      have hx44 : Ext w43 (w43.alloc (.cells ([st [116, 121, 112, 101], st (digL k), st (digL p.ent[k].toNat)]).toArray 9)) := Only.alloc w43 _
      obtain ⟨w44, hw44⟩ : ∃ w, w = w43.alloc (.cells ([st [116, 121, 112, 101], st (digL k), st (digL p.ent[k].toNat)]).toArray 9) := ⟨_, rfl⟩
      rw [← hw44] at hr44 hx44
      first | rw [← hw44] | (have hww : w43.alloc (.cells ([st [116, 121, 112, 101], st (digL k), st (digL p.ent[k].toNat)]).toArray 9) = w44 := hw44.symm; refine Eq.mpr (congrArg _ hww) ?_) | (have hww : w43.alloc (.cells ([st [116, 121, 112, 101], st (digL k), st (digL p.ent[k].toNat)]).toArray 9) = w44 := hw44.symm; simp only [Value.cells] at hww ⊢; rw [hww])
      clear hw44
      obtain ⟨g44, hg44⟩ : ∃ b, b = w43.heap.size := ⟨_, rfl⟩
      rw [← hg44] at hr44 ⊢
      replace hx := hx.tr hx44
      replace hC1 := hx44.blk hC1 (fun h => h)
      replace hC3 := hx44.blk hC3 (fun h => h)
      replace hM := hM.ext hx44
      refine WL.c rfl (o_callC (show _ = Value.func (.func 46) #[] #[.pointer (some ⟨b5, 0, none⟩)] from by first | rfl | assumption) Tryd.call46 (lc (show _ = Value.slice (some ⟨g44, 0, none⟩) 3 3 from by first | rfl | assumption) ln) ((line_spec H0 b5 _ _ _ (Value.slice (some ⟨g44, 0, none⟩) 3 3) (entParts k p.ent[k]) _ hM (Sl.own hr44) (by first | exact List.cons_ne_nil _ _ | (unfold prtJ; exact List.cons_ne_nil _ _)) (by first | decide | omega | (simp [entParts]; done)) (by simp only [List.length_append]; omega)).mono ?_))
      rintro v45 w45 ⟨ad45, vb45, hM45, ho45⟩
      replace hC1 := FP.blk ho45 hC1 (by decide) hn1
      replace hC3 := FP.blk ho45 hC3 (by decide) hn3
      replace hx := FP.top hx ho45 hH0x hH5
      clear hM
      have hM := hM45
      clear hM45
      refine WL.nil ?_
      refine W.region ?_
      refine WL.c rfl (o_addi h34 rfl (by omega) ?_)
      refine WL.c rfl (o_mvh (show _ = Value.int _ _ from rfl) ?_)
      refine WL.nil ?_
      refine ⟨⟨k + 1, _, _, by omega, h1, h3, h5, h6, h32, h33, rfl, by rw [prtE_succ, ← List.append_assoc, hgk]; exact hM, hC1, hC3, hx⟩, ?_⟩
      show p.ent.length - ((k : Int) + 1).toNat < _
      rw [hm34]; simp [intOf]; omega
    · try simp only [decide_eq_true_eq, decide_eq_false_iff_not, Bool.not_eq_true', Bool.not_eq_false', Bool.and_eq_true, Bool.or_eq_true, Bool.and_eq_false_iff, Bool.or_eq_false_iff] at c35
      obtain rfl : k = p.ent.length := by omega
      refine W.exit ?_
      refine W.seq ?_
      refine W.seq ?_
      refine W.region ?_
      refine WL.c rfl (o_fa 1 TI26 rfl TI23 rfl h1 ?_)
      refine WL.c rfl (o_ld TI23 rfl rfl (cell_of hC1 rfl) ?_)
      refine WL.c rfl (o_lenR TI23 rfl (hp.code.ext hx) ?_)
      refine WL.c rfl (o_mvh (show _ = Value.int _ _ from rfl) ?_)
      refine WL.nil ?_
      refine W.block ?_
      refine W.loop (fun e w => ∃ (k : Nat) (ad vb : Value), k ≤ p.code.length ∧ e 1 = .pointer (some ⟨b1, 0, none⟩) ∧ e 3 = .pointer (some ⟨b3, 0, none⟩) ∧ e 5 = .pointer (some ⟨b5, 0, none⟩) ∧ e 6 = Value.func (.func 46) #[] #[.pointer (some ⟨b5, 0, none⟩)] ∧ e 48 = cv ∧ e 49 = .int .i64 (p.code.length : Int) ∧ e 50 = .int .i64 (k : Int) ∧ PrB w H0 b5 ad vb (prt0 p ++ prtE p p.ent.length ++ prtI p k) ∧ w.heap[b1]? = some (.cells (pgV p cv ev_).toArray 26 (0, 0)) ∧ w.heap[b3]? = some (.cells #[.int .i64 0, .int .i64 0] 32 (0, 0)) ∧ Ext w0 w) (fun e w => p.code.length - (intOf (e 50)).toNat) ?_ ?_
      · exact ⟨0, _, _, Nat.zero_le _, h1, h3, h5, h6, rfl, rfl, rfl, by simpa [prtI] using hM, hC1, hC3, hx⟩
      rintro e w ⟨k, ad1, vb, hk, h1, h3, h5, h6, h48, h49, h50, hM, hC1, hC3, hx⟩
      have hm50 := h50
      refine W.seq ?_
      refine W.region ?_
      refine WL.c rfl (o_lt h50 h49 ?_)
      refine WL.nil ?_
      refine W.seq ?_
      refine W.cond rfl (fun c51 => ?_) (fun c51 => ?_)
      · try simp only [decide_eq_true_eq, decide_eq_false_iff_not, Bool.not_eq_true', Bool.not_eq_false', Bool.and_eq_true, Bool.or_eq_true, Bool.and_eq_false_iff, Bool.or_eq_false_iff] at c51
        have hk1 : k < p.code.length := by omega
        obtain ⟨sb, so, sc, hve, hsc⟩ := Sl.ins (hp.code.ext hx) hk1
        rw [hve] at h48
        obtain ⟨nm, l0, l1, l2, hfm, hop, hLI, hopb⟩ := hrd.form hk1
        have hlk := insL_len hrd hk1
        have hbk := hbI k hk
        have hbE1 := hbE p.ent.length (Nat.le_refl _)
        obtain ⟨x, hxk⟩ : ∃ x, p.code[k] = x := ⟨_, rfl⟩
        have hgk : p.code.getD k in0 = x := by rw [← hxk, List.getD_eq_getElem?_getD, List.getElem?_eq_getElem hk1]; rfl
        rw [hxk] at hsc hfm hop hLI hopb
        rw [hgk] at hlk
        have hpa := prtJ_all (k := k) hfm
        refine W.skip ?_
        refine W.seq ?_
        refine W.block ?_
        refine W.seq ?_
        refine W.region ?_
        refine WL.c rfl (o_mvh h50 ?_)
        refine WL.c rfl (o_ixB (i := k) TI23 TI28 h48 h50 hk1 ?_)
        refine WL.c rfl (o_ldA TI28 rfl rfl hsc rfl ?_)
        refine WL.c rfl (o_alB TI28 ?_)
        intro wa hCa hxa hsa
        refine WL.c rfl (o_ash (show _ = Value.int _ _ from rfl) ?_)
        refine WL.u (o_stA TI28 rfl (show _ = Value.agg (insV x).toArray from rfl) rfl rfl hCa rfl ?_)
        intro wb10 hC10 hob hsb
        have hxb := Ext.own hxa (Nat.le_refl _) hob
        obtain ⟨b10, hb10⟩ : ∃ b, b = w.heap.size := ⟨_, rfl⟩
        rw [← hb10] at hC10 ⊢
        clear hCa hxa hsa hob hsb
        replace hx := hx.tr hxb
        replace hC1 := hxb.blk hC1 (fun h => h)
        replace hC3 := hxb.blk hC3 (fun h => h)
        replace hM := hM.ext hxb
        have hn10 : b10 ≠ b5 := fun h => by rw [h, hM.cell] at hC10; cases hC10
        clear hxb
        refine WL.nil ?_
        refine W.seq ?_
        refine W.region ?_
        refine WL.c rfl (o_ldA TI26 rfl h1 (show Cells _ b1 0 (pgV p cv ev_) from Cells.of hC1 0 _ (by simp)) rfl ?_)
        refine WL.c rfl (o_fa 0 TI28 rfl TI3 rfl rfl ?_)
        refine WL.c rfl (o_ld TI3 rfl rfl (cell_of hC10 rfl) ?_)
        refine WL.c rfl (o_call Tryd.call28 (lc rfl (lc rfl ln)) ((of_spec p cv ev_ x.op _ (hp.ext hx)).mono ?_))
        rintro v59 w59 ⟨rfl, hx59⟩
        rw [fmP_some hfm]
        replace hx := hx.tr hx59
        replace hC1 := hx59.blk hC1 (fun h => h)
        replace hC3 := hx59.blk hC3 (fun h => h)
        replace hC10 := hx59.blk hC10 (fun h => h)
        replace hM := hM.ext hx59
        refine WL.c rfl (o_mvh (by first | exact (show _ = Value.tuple _ from rfl) | exact rfl) ?_)
        refine WL.c rfl (o_ext rfl rfl ?_)
        refine WL.c rfl (o_ext rfl rfl ?_)
        refine WL.c rfl (o_alB TI61 ?_)
        intro wa hCa hxa hsa
        refine WL.u (o_stA TI61 rfl (show _ = Value.agg ([st nm, st [tl l0, tl l1, tl l2]]).toArray from rfl) rfl rfl hCa rfl ?_)
        intro wb11 hC11 hob hsb
        have hxb := Ext.own hxa (Nat.le_refl _) hob
        obtain ⟨b11, hb11⟩ : ∃ b, b = w59.heap.size := ⟨_, rfl⟩
        rw [← hb11] at hC11 ⊢
        clear hCa hxa hsa hob hsb
        replace hx := hx.tr hxb
        replace hC1 := hxb.blk hC1 (fun h => h)
        replace hC3 := hxb.blk hC3 (fun h => h)
        replace hC10 := hxb.blk hC10 (fun h => h)
        replace hM := hM.ext hxb
        clear hxb
        refine WL.c rfl (o_ash (show _ = Value.bool _ from rfl) ?_)
        refine WL.nil ?_
        refine W.seq ?_
        obtain ⟨wd, hwd⟩ : ∃ wd, wd = World.drew wb11 := ⟨_, rfl⟩
        have hxd : Ext wb11 wd := hwd ▸ Only.drew wb11
        replace hx := hx.tr hxd
        replace hC1 := hxd.blk hC1 (fun h => h)
        replace hC3 := hxd.blk hC3 (fun h => h)
        replace hC10 := hxd.blk hC10 (fun h => h)
        replace hC11 := hxd.blk hC11 (fun h => h)
        replace hM := hM.ext hxd
        refine W.draw (Ext) [(1, fun v _ => v = (Value.pointer (some ⟨b1, 0, none⟩))), (3, fun v _ => v = (Value.pointer (some ⟨b3, 0, none⟩))), (5, fun v _ => v = (Value.pointer (some ⟨b5, 0, none⟩))), (6, fun v _ => v = (Value.func (.func 46) #[] #[.pointer (some ⟨b5, 0, none⟩)])), (9, fun v _ => v = (Value.int .i64 (k : Int))), (10, fun v _ => v = (Value.pointer (some ⟨b10, 0, none⟩))), (11, fun v _ => v = (Value.pointer (some ⟨b11, 0, none⟩))), (48, fun v _ => v = (Value.slice (some ⟨sb, so, none⟩) p.code.length sc)), (49, fun v _ => v = (Value.int .i64 (p.code.length : Int))), (50, fun v _ => v = (Value.int .i64 (k : Int)))] rfl (by kernel_rfl) (Only.refl No) (fun _ _ _ h k => h.trans k) ⟨Mono.eq, Mono.eq, Mono.eq, Mono.eq, Mono.eq, Mono.eq, Mono.eq, Mono.eq, Mono.eq, Mono.eq, trivial⟩ ⟨h1, h3, h5, h6, rfl, rfl, rfl, h48, h49, h50, trivial⟩ ?_
        refine WD.p rfl (fun e w hR hh => by obtain ⟨h9, -⟩ := hh; exact SG.n (o_mvh h9 ⟨rfl, Only.refl No _⟩)) ?_
        refine WD.p rfl (fun e w hR hh => by obtain ⟨h62, -⟩ := hh; rw [← hwd] at hR; exact SG.n (o_call Tryd.call49 (lc h62 ln) ((itoa_spec k (by omega) _ (hT.ext (hx.tr hR))).mono (fun v w' hh => hh)))) ?_
        refine WD.p rfl (fun e w hR hh => by obtain ⟨h11, -⟩ := hh; exact SG.n (o_fa 0 TI61 rfl TI9 rfl h11 ⟨rfl, Only.refl No _⟩)) ?_
        refine WD.p rfl (fun e w hR hh => by obtain ⟨h64, -⟩ := hh; rw [← hwd] at hR; have hc9 := hR.blk hC11 (fun h => h); exact SG.n (o_ld TI9 rfl h64 (cell_of hc9 rfl) ⟨rfl, Only.refl No _⟩)) ?_
        refine WD.q (fun v w => w.ownsRow wd.heap.size 9 1 v 2 [st (digL k), st nm]) (fun v w w2 hR hh => own_ext hh hR) rfl (fun e w hR hh => by obtain ⟨h65, h63, -⟩ := hh; rw [← hwd] at hR; exact SG.n (o_bsn (vs := [st (digL k), st nm]) (xs := [(.tmp 63), (.tmp 65)]) TI96 TI9 rfl (lc h63 (lc h65 ln)) rfl rfl (by decide) (by decide) ⟨own_mono (own_newN rfl (by decide)) hR.size, Only.alloc w _⟩)) ?_
        refine WD.q (fun v w => w.ownsRow wd.heap.size 9 1 v 2 [st (digL k), st nm]) (fun v w w2 hR hh => own_ext hh hR) rfl (fun e w hR hh => by obtain ⟨h66, -⟩ := hh; exact SG.n (o_as ⟨h66, Only.refl No _⟩)) ?_
        rintro e w hR ⟨h13, h66, h65, h64, h63, h62, h1, h3, h5, h6, h9, h10, h11, h48, h49, h50, -⟩
        rw [← hwd] at hR
        obtain ⟨v13, hv13⟩ : ∃ v, v = e 13 := ⟨_, rfl⟩
        have hw13 := h13
        clear h13
        rw [← hv13] at hw13
        replace hv13 := hv13.symm
        obtain ⟨B13, hB13⟩ : ∃ B, B = wd.heap.size := ⟨_, rfl⟩
        rw [← hB13] at hw13
        have hB13g : w0.heap.size ≤ B13 := by have := hx.size; omega
        have hB13s : B13 ≤ w.heap.size := by rw [hB13]; exact hR.size
        replace hx := hx.tr hR
        replace hC1 := hR.blk hC1 (fun h => h)
        replace hC3 := hR.blk hC3 (fun h => h)
        replace hC10 := hR.blk hC10 (fun h => h)
        replace hC11 := hR.blk hC11 (fun h => h)
        replace hM := hM.ext hR
        refine W.seq ?_
        refine W.seq ?_
        refine W.region ?_
        refine WL.c rfl (o_ldA TI61 rfl h11 (show Cells _ b11 0 [st nm, st [tl l0, tl l1, tl l2]] from Cells.of hC11 0 _ (by simp)) rfl ?_)
        refine WL.c rfl (o_call Tryd.call29 (lc rfl (lc h10 ln)) ((operands_spec b10 nm [tl l0, tl l1, tl l2] _ rfl).mono ?_))
        rintro v68 w68 ⟨hr68, hx68⟩
        rw [selI_tl] at hr68
        obtain ⟨S, hS⟩ : ∃ S, S = selI [l0, l1, l2] := ⟨_, rfl⟩
        have hSl := selK_le [l0, l1, l2] 3
        rw [← hS] at hr68 hLI hopb hpa
        replace hSl : S.length ≤ 3 := by rw [hS]; exact hSl
        have hS3 : ∀ t ∈ S, t < 3 := fun t ht => selK_lt (hS ▸ ht)
        replace hx := hx.tr hx68
        replace hC1 := hx68.blk hC1 (fun h => h)
        replace hC3 := hx68.blk hC3 (fun h => h)
        replace hC10 := hx68.blk hC10 (fun h => h)
        replace hM := hM.ext hx68
        replace hw13 := own_ext hw13 hx68
        replace hB13s := Nat.le_trans hB13s hx68.size
        obtain ⟨B68, hB68⟩ : ∃ B, B = w.heap.size := ⟨_, rfl⟩
        rw [← hB68] at hr68
        refine WL.c rfl (o_lenR TI64 rfl (Sl.own (show World.ownsRow _ _ _ _ _ (S.map (ptrJ b10)).length (S.map (ptrJ b10)) from by rw [List.length_map]; exact hr68)) ?_)
        refine WL.c rfl (o_mvh (show _ = Value.int _ _ from rfl) ?_)
        refine WL.nil ?_
        refine W.block ?_
        refine W.loop (fun e w => ∃ (j : Nat) (v13 : Value), j ≤ S.length ∧ e 1 = .pointer (some ⟨b1, 0, none⟩) ∧ e 3 = .pointer (some ⟨b3, 0, none⟩) ∧ e 5 = .pointer (some ⟨b5, 0, none⟩) ∧ e 6 = Value.func (.func 46) #[] #[.pointer (some ⟨b5, 0, none⟩)] ∧ e 48 = .slice (some ⟨sb, so, none⟩) p.code.length sc ∧ e 49 = .int .i64 (p.code.length : Int) ∧ e 50 = .int .i64 (k : Int) ∧ e 13 = v13 ∧ e 68 = v68 ∧ e 69 = .int .i64 (S.length : Int) ∧ e 70 = .int .i64 (j : Int) ∧ w.ownsRow B13 9 1 v13 (prtJ k nm x S j).length ((prtJ k nm x S j).map st) ∧ PrB w H0 b5 ad1 vb (prt0 p ++ prtE p p.ent.length ++ prtI p k) ∧ w.ownsRow B68 67 1 v68 S.length (S.map (ptrJ b10)) ∧ w.heap[b10]? = some (.cells (insV x).toArray 28 (0, 0)) ∧ B13 ≤ w.heap.size ∧ w.heap[b1]? = some (.cells (pgV p cv ev_).toArray 26 (0, 0)) ∧ w.heap[b3]? = some (.cells #[.int .i64 0, .int .i64 0] 32 (0, 0)) ∧ Ext w0 w) (fun e w => S.length - (intOf (e 70)).toNat) ?_ ?_
        · exact ⟨0, v13, Nat.zero_le _, h1, h3, h5, h6, h48, h49, h50, hv13, rfl, by first | rfl | (show Value.int _ _ = Value.int _ _; simp), rfl, by simpa [prtJ] using hw13, hM, hr68, hC10, hB13s, hC1, hC3, hx⟩
        rintro e w ⟨j, v13, hj, h1, h3, h5, h6, h48, h49, h50, h13, h68, h69, h70, hw13, hM, hr68, hC10, hB13s, hC1, hC3, hx⟩
        have hm70 := h70
        refine W.seq ?_
        refine W.region ?_
        refine WL.c rfl (o_lt h70 h69 ?_)
        refine WL.nil ?_
        refine W.seq ?_
        refine W.cond rfl (fun c71 => ?_) (fun c71 => ?_)
        · try simp only [decide_eq_true_eq, decide_eq_false_iff_not, Bool.not_eq_true', Bool.not_eq_false', Bool.and_eq_true, Bool.or_eq_true, Bool.and_eq_false_iff, Bool.or_eq_false_iff] at c71
          have hj1 : j < S.length := by omega
          have ht3 := hS3 S[j] (List.getElem_mem _)
          have hob := hopb S[j] (List.getElem_mem _)
          have hpl := prtJ_len (k := k) (nm := nm) (x := x) hj
          refine W.skip ?_
          refine W.seq ?_
          refine W.block ?_
          refine W.seq ?_
          refine W.region ?_
          refine WL.c rfl (o_ix1 TI64 TI67 h68 h70 (Sl.own hr68) (by omega) ?_)
          intro b72 o72 hc72 hb72
          refine WL.c rfl (o_ld TI67 rfl rfl (show _ = some (ptrJ b10 S[j]) from hc72.trans (by simp [hj1])) ?_)
          refine WL.c rfl (o_ash (by first | exact (show _ = Value.pointer _ from rfl) | exact rfl) ?_)
          refine WL.nil ?_
          refine W.seq ?_
          refine W.region ?_
          refine WL.c rfl (o_mvh (by first | exact (show _ = Value.pointer _ from rfl) | exact rfl) ?_)
          refine WL.c rfl (o_nil (show _ = Value.pointer (some ⟨b10, 1 + S[j], none⟩) from rfl) ?_)
          refine WL.c rfl (o_ld TI3 rfl rfl (cell_of hC10 (ins_opAt x ht3)) ?_)
          refine WL.c rfl (o_eq rfl rfl ?_)
          refine WL.nil ?_
          refine W.cond rfl (fun c77 => ?_) (fun c77 => ?_)
          · try simp only [decide_eq_true_eq, decide_eq_false_iff_not, Bool.not_eq_true', Bool.not_eq_false', Bool.and_eq_true, Bool.or_eq_true, Bool.and_eq_false_iff, Bool.or_eq_false_iff] at c77
            have hwo : wordS (opAt x S[j]) = [45] := by unfold wordS; rw [if_pos (by omega)]
            refine W.region ?_
            refine WL.c rfl (o_mvh h13 ?_)
            refine WL.ap1 (B13) rfl rfl TI96 TI9 (show _ = Value.string _ from rfl) rfl hw13 (by decide) (by decide) rfl (one1 rfl) rfl (by rw [maxLen_eq]; omega) (by omega) hB13s ?_
            intro v13n w80n h13n ho80n
            have hs13 := fun q (hq : v13.ownBlock = some q) => (hw13.lt q hq).1
            replace hC1 := ho80n.blk hC1 (own_off hw13 hC1 (by decide))
            replace hC3 := ho80n.blk hC3 (own_off hw13 hC3 (by decide))
            replace hC10 := ho80n.blk hC10 (own_off hw13 hC10 (by decide))
            replace hM := hM.only ho80n (own_off hw13 hM.cell (by decide)) (fun q hq hF => own_row_off hw13 hM.row (by decide) q hq hF)
            replace hr68 := own_only hr68 ho80n (fun q hq hF => own_row_off hw13 hr68 (by decide) q hq hF)
            replace hx := hx.trans' ho80n (fun _ h => h) (fun q hq hF => by have := hs13 q hF; omega)
            replace hB13s := Nat.le_trans hB13s ho80n.size
            clear hw13
            have hw13 : w80n.ownsRow B13 9 1 v13n (prtJ k nm x S (j + 1)).length ((prtJ k nm x S (j + 1)).map st) := by rw [prtJ_succ hj1, hwo, List.map_append, List.length_append]; exact h13n
            refine WL.c rfl (o_ash (by first | exact (show _ = Value.slice _ _ _ from rfl) | exact rfl) ?_)
            refine WL.nil ?_
            refine W.region ?_
            refine WL.c rfl (o_addi h70 rfl (by omega) ?_)
            refine WL.c rfl (o_mvh (show _ = Value.int _ _ from rfl) ?_)
            refine WL.nil ?_
            refine ⟨⟨j + 1, v13n, by omega, h1, h3, h5, h6, h48, h49, h50, rfl, h68, h69, rfl, hw13, hM, hr68, hC10, hB13s, hC1, hC3, hx⟩, ?_⟩
            show S.length - ((j : Int) + 1).toNat < _
            rw [hm70]; simp [intOf]; omega
          · try simp only [decide_eq_true_eq, decide_eq_false_iff_not, Bool.not_eq_true', Bool.not_eq_false', Bool.and_eq_true, Bool.or_eq_true, Bool.and_eq_false_iff, Bool.or_eq_false_iff] at c77
            have hwo : wordS (opAt x S[j]) = digL (opAt x S[j]).toNat := by unfold wordS; rw [if_neg (by omega)]
            refine W.region ?_
            refine WL.c rfl (o_mvh h13 ?_)
            refine WL.c rfl (o_mvh (by first | exact (show _ = Value.pointer _ from rfl) | exact rfl) ?_)
            refine WL.c rfl (o_nil (show _ = Value.pointer (some ⟨b10, 1 + S[j], none⟩) from rfl) ?_)
            refine WL.c rfl (o_ld TI3 rfl rfl (cell_of hC10 (ins_opAt x ht3)) ?_)
            refine WL.c rfl (o_call Tryd.call49 (lc rfl ln) ((itoa_int (opAt x S[j]) (by omega) (by omega) _ (hT.ext hx)).mono ?_))
            rintro v85 w85 ⟨rfl, hx85⟩
            replace hx := hx.tr hx85
            replace hC1 := hx85.blk hC1 (fun h => h)
            replace hC3 := hx85.blk hC3 (fun h => h)
            replace hC10 := hx85.blk hC10 (fun h => h)
            replace hM := hM.ext hx85
            replace hw13 := own_ext hw13 hx85
            replace hr68 := own_ext hr68 hx85
            replace hB13s := Nat.le_trans hB13s hx85.size
            refine WL.ap1 (B13) rfl rfl TI96 TI9 (show _ = Value.string _ from rfl) rfl hw13 (by decide) (by decide) rfl (one1 rfl) rfl (by rw [maxLen_eq]; omega) (by omega) hB13s ?_
            intro v13n w87n h13n ho87n
            have hs13 := fun q (hq : v13.ownBlock = some q) => (hw13.lt q hq).1
            replace hC1 := ho87n.blk hC1 (own_off hw13 hC1 (by decide))
            replace hC3 := ho87n.blk hC3 (own_off hw13 hC3 (by decide))
            replace hC10 := ho87n.blk hC10 (own_off hw13 hC10 (by decide))
            replace hM := hM.only ho87n (own_off hw13 hM.cell (by decide)) (fun q hq hF => own_row_off hw13 hM.row (by decide) q hq hF)
            replace hr68 := own_only hr68 ho87n (fun q hq hF => own_row_off hw13 hr68 (by decide) q hq hF)
            replace hx := hx.trans' ho87n (fun _ h => h) (fun q hq hF => by have := hs13 q hF; omega)
            replace hB13s := Nat.le_trans hB13s ho87n.size
            clear hw13
            have hw13 : w87n.ownsRow B13 9 1 v13n (prtJ k nm x S (j + 1)).length ((prtJ k nm x S (j + 1)).map st) := by rw [prtJ_succ hj1, hwo, List.map_append, List.length_append]; exact h13n
            refine WL.c rfl (o_ash (by first | exact (show _ = Value.slice _ _ _ from rfl) | exact rfl) ?_)
            refine WL.nil ?_
            refine W.region ?_
            refine WL.c rfl (o_addi h70 rfl (by omega) ?_)
            refine WL.c rfl (o_mvh (show _ = Value.int _ _ from rfl) ?_)
            refine WL.nil ?_
            refine ⟨⟨j + 1, v13n, by omega, h1, h3, h5, h6, h48, h49, h50, rfl, h68, h69, rfl, hw13, hM, hr68, hC10, hB13s, hC1, hC3, hx⟩, ?_⟩
            show S.length - ((j : Int) + 1).toNat < _
            rw [hm70]; simp [intOf]; omega
        · try simp only [decide_eq_true_eq, decide_eq_false_iff_not, Bool.not_eq_true', Bool.not_eq_false', Bool.and_eq_true, Bool.or_eq_true, Bool.and_eq_false_iff, Bool.or_eq_false_iff] at c71
          obtain rfl : j = S.length := by omega
          have hpl := prtJ_len (k := k) (nm := nm) (x := x) hj
          refine W.exit ?_
          refine W.region ?_
          refine WL.c rfl (o_mvh h6 ?_)
          refine WL.c rfl (o_mvh h13 ?_)
          refine WL.c rfl (o_callC (show _ = Value.func (.func 46) #[] #[.pointer (some ⟨b5, 0, none⟩)] from by first | rfl | assumption) Tryd.call46 (lc (show _ = v13 from by first | rfl | assumption) ln) ((line_spec H0 b5 _ _ _ (v13) (prtJ k nm x S S.length) _ hM (Sl.own hw13) (by first | exact List.cons_ne_nil _ _ | (unfold prtJ; exact List.cons_ne_nil _ _)) (by first | decide | omega | (simp [entParts]; done)) (by rw [hpa]; simp only [List.length_append]; omega)).mono ?_))
          rintro v91 w91 ⟨ad91, vb91, hM91, ho91⟩
          replace hC1 := FP.blk ho91 hC1 (by decide) hn1
          replace hC3 := FP.blk ho91 hC3 (by decide) hn3
          replace hx := FP.top hx ho91 hH0x hH5
          clear hM
          have hM := hM91
          clear hM91
          refine WL.nil ?_
          refine W.region ?_
          refine WL.c rfl (o_addi h50 rfl (by omega) ?_)
          refine WL.c rfl (o_mvh (show _ = Value.int _ _ from rfl) ?_)
          refine WL.nil ?_
          refine ⟨⟨k + 1, _, _, by omega, h1, h3, h5, h6, h48.trans hve.symm, h49, rfl, by rw [prtI_succ, ← List.append_assoc, hgk, ← hpa]; exact hM, hC1, hC3, hx⟩, ?_⟩
          show p.code.length - ((k : Int) + 1).toNat < _
          rw [hm50]; simp [intOf]; omega
      · try simp only [decide_eq_true_eq, decide_eq_false_iff_not, Bool.not_eq_true', Bool.not_eq_false', Bool.and_eq_true, Bool.or_eq_true, Bool.and_eq_false_iff, Bool.or_eq_false_iff] at c51
        obtain rfl : k = p.code.length := by omega
        refine W.exit ?_
        refine W.seq ?_
        refine W.region ?_
        refine WL.c rfl (o_call Tryd.call50 (lc h5 ln) ((bstr_spec H0 b5 _ _ _ _ hM).mono ?_))
        rintro v93 w93 ⟨rfl, ho93⟩
        replace hC3 := ho93.blk hC3 (by omega)
        replace hx := hx.trans' ho93 (fun _ h => h) (fun k hk hF => by omega)
        refine WL.c rfl (o_bldC (cs := [(.int .i64 0), (.int .i64 0)]) TI32 (Sizes.cons TI30 (Sizes.cons TI3 Sizes.nil)) rfl lnp rfl rfl ?_)
        refine WL.c rfl (o_ash (show _ = Value.string _ from rfl) ?_)
        refine WL.u (o_stA TI32 h3 rfl rfl rfl (by assumption) rfl ?_)
        intro ws hBs hos hss
        replace hx := hx.trans' hos (fun _ h => h) (fun k hk he => by subst he; omega)
        refine WL.nil ?_
        refine W.ret ?_
        refine retTC rfl TI32 rfl (show _ = st (prt0 p ++ prtE p p.ent.length ++ prtI p p.code.length) from rfl) h3 (cells_all (by assumption)) rfl ?_
        exact ⟨by rw [hcz, heb]; rfl, hx⟩
end Go.Proofs.YthlbhnefldaoiaaDoor

set_option linter.unusedSimpArgs false
set_option linter.unusedVariables false
set_option maxRecDepth 100000
namespace Go.Proofs.YthlbhnefldaoiaaDoor
open Go Go.Vc Go.RowKit Go.Proofs

theorem dec_enc {p : Pg} (h : OkP p) : decA (lay p) = (0, 0) ∧ decQ (lay p) = p := by
  obtain ⟨h1, h2, h3, h4⟩ := dec_lay h.read []
  rw [List.append_nil] at h1 h2 h3 h4
  rw [← h2] at h4
  have hA : decA (lay p) = (0, 0) := by
    rw [decA_end h1 h4 (Nat.lt_irrefl _), h3, chk_okP h]
    rfl
  refine ⟨hA, ?_⟩
  unfold decQ
  rw [hA, if_pos rfl, h3]
theorem encB_ok {p : Pg} (h : OkP p) : encB p = lay p := by rw [encB, if_pos (chk_zero.2 h)]
theorem prtB_ok {p : Pg} (h : OkP p) : prtB p = prtS p := by rw [prtB, if_pos (chk_zero.2 h)]
def smL (b : Int) : List Ins := [⟨1, -1, b, 0⟩, ⟨20, 0, 0, 0⟩]
def smP (b : Int) : Pg := ⟨false, smL b, [0]⟩
theorem smP_ok : OkP (smP 2) := ⟨by unfold BigP; decide, fun j hj => by
  have : j = 0 ∨ j = 1 := by have : j < 2 := hj; omega
  rcases this with rfl | rfl
  · exact ⟨([117, 105, 110, 116], [107, 119, 32]), rfl, by unfold fitP; decide, by unfold fitP; decide, by unfold fitP; decide, by unfold moreP; rw [if_neg (by decide), if_neg (by decide), if_neg (by decide), if_neg (by decide)]; trivial⟩
  · exact ⟨([114, 101, 116], [32, 32, 32]), rfl, by unfold fitP; decide, by unfold fitP; decide, by unfold fitP; decide, by unfold moreP; rw [if_neg (by decide), if_neg (by decide), if_neg (by decide), if_neg (by decide)]; trivial⟩, fun j hj => by
  have : j = 0 := by have : j < 1 := hj; omega
  subst this
  unfold OkE; decide⟩
theorem smP_bad : chk (smP 3) = (140, 0) := chk_eq (.inr (.inl ⟨by unfold BigP; decide, by decide, fun j hj => absurd hj (by omega), fun ⟨f, hf⟩ => by
  have h1 := hf.fm
  have h2 : f = ([117, 105, 110, 116], [107, 119, 32]) := by
    have : fmOf false 1 = some ([117, 105, 110, 116], [107, 119, 32]) := rfl
    have h3 : fmOf false 1 = some f := h1
    rw [this] at h3; cases h3; rfl
  subst h2
  have h4 := hf.fb
  unfold fitP at h4
  revert h4
  decide, rfl⟩))
theorem smP_lay : lay (smP 2) = [109, 0, 1, 0, 2, 1, 0, 3, 20] := by decide +kernel
theorem smP_txt : prtS (smP 2) = [100, 101, 99, 111, 100, 101, 114] ++ [10] ++ ([116, 121, 112, 101, 32, 48, 32, 48] ++ [10]) ++ ([48, 32, 117, 105, 110, 116, 32, 45, 32, 50] ++ [10] ++ ([49, 32, 114, 101, 116] ++ [10])) := by
  have e1 : prt0 (smP 2) = [100, 101, 99, 111, 100, 101, 114] ++ [10] := by unfold prt0 hdrP; rw [lineS_cons]; rfl
  have e2 : prtE (smP 2) 1 = [116, 121, 112, 101, 32, 48, 32, 48] ++ [10] := by
    rw [show (1 : Nat) = 0 + 1 from rfl, prtE_succ]
    show [] ++ lineS [[116, 121, 112, 101], digL 0, digL (0 : Int).toNat] = _
    rw [show (0 : Int).toNat = 0 from rfl, digL_lt (by decide), lineS_cons]; rfl
  have e3 : prtI (smP 2) 2 = [48, 32, 117, 105, 110, 116, 32, 45, 32, 50] ++ [10] ++ ([49, 32, 114, 101, 116] ++ [10]) := by
    rw [show (2 : Nat) = 0 + 1 + 1 from rfl, prtI_succ, prtI_succ]
    show [] ++ lineS [digL 0, [117, 105, 110, 116], wordS (-1), wordS 2] ++ lineS [digL (0 + 1), [114, 101, 116]] = _
    rw [show wordS (-1) = [45] from rfl, show wordS 2 = digL 2 from rfl, digL_lt (by decide), digL_lt (by decide), digL_lt (by decide), lineS_cons, lineS_cons]; rfl
  show prt0 (smP 2) ++ prtE (smP 2) 1 ++ prtI (smP 2) 2 = _
  rw [e1, e2, e3]


theorem lay_len {p : Pg} (hr : ReadP p) : (lay p).length ≤ 60000000 := by
  obtain ⟨h1, h2, h3, h4⟩ := lay_bd hr p.code.length
  rw [List.take_length] at h4
  unfold lay
  rw [List.length_append]; omega
theorem encode_ok (p : Pg) (hok : OkP p) (cv ev_ : Value) (w0 : World) (hp : PgR w0 p cv ev_) : Ca Tryd.prog 13 #[.agg (pgV p cv ev_).toArray] w0 (fun r w' => ∃ v, r = .tuple #[v, .agg #[.int .i64 0, .int .i64 0]] ∧ w'.ownsRow w0.heap.size 5 1 v (lay p).length ((lay p).map bv) ∧ Ext w0 w') := by
  have h := encode_spec p cv ev_ w0 hp (by have := hok.read.nc; omega) (by have := hok.read.ne; omega)
  rw [encB_ok hok, chk_okP hok] at h
  exact h
theorem print_ok (p : Pg) (hok : OkP p) (cv ev_ : Value) (w0 : World) (hT : Tab w0) (hp : PgR w0 p cv ev_) : Ca Tryd.prog 23 #[.agg (pgV p cv ev_).toArray] w0 (fun r w' => r = .tuple #[st (prtS p), .agg #[.int .i64 0, .int .i64 0]] ∧ Ext w0 w') := by
  have h := print_spec p cv ev_ w0 hT hp (by have := hok.read.nc; omega) (by have := hok.read.ne; omega)
  rw [prtB_ok hok, chk_okP hok] at h
  exact h
theorem decode_by (T : List UInt8) (v : Value) (w0 : World) (hB : By w0 v T) (hT : T.length ≤ 4611686018427387904) : Ca Tryd.prog 14 #[v] w0 (fun r w' => ∃ cv ev_, r = .tuple #[.agg (pgV (decQ T) cv ev_).toArray, .agg #[.int .i64 ((decA T).1 : Int), .int .i64 ((decA T).2 : Int)]] ∧ w'.ownsRow w0.heap.size 28 4 cv (decQ T).code.length (inss (decQ T).code) ∧ w'.ownsRow w0.heap.size 3 1 ev_ (decQ T).ent.length (zs (decQ T).ent) ∧ Ext w0 w') := by
  obtain ⟨a, c, rfl⟩ := hB.isSlice
  exact decode_spec a c T w0 hB hT
theorem decode_ok (p : Pg) (hok : OkP p) (v : Value) (w0 : World) (hB : By w0 v (lay p)) : Ca Tryd.prog 14 #[v] w0 (fun r w' => ∃ cv ev_, r = .tuple #[.agg (pgV p cv ev_).toArray, .agg #[.int .i64 0, .int .i64 0]] ∧ w'.ownsRow w0.heap.size 28 4 cv p.code.length (inss p.code) ∧ w'.ownsRow w0.heap.size 3 1 ev_ p.ent.length (zs p.ent) ∧ Ext w0 w') := by
  have h := decode_by (lay p) v w0 hB (by have := lay_len hok.read; omega)
  obtain ⟨h1, h2⟩ := dec_enc hok
  rw [h1, h2] at h
  exact h
theorem check_ok (p : Pg) (cv ev_ : Value) (w0 : World) (hp : PgR w0 p cv ev_) (e a : Nat) (hc : chk p = (e, a)) (hlc : p.code.length ≤ 4611686018427387904) (hle : p.ent.length ≤ 4611686018427387904) : Ca Tryd.prog 12 #[.agg (pgV p cv ev_).toArray] w0 (fun r w' => r = .agg #[.int .i64 (e : Int), .int .i64 (a : Int)] ∧ Ext w0 w') := by
  have h := check_spec p cv ev_ w0 hp hlc hle
  rw [hc] at h
  exact h

theorem num_spec (er : Int) (w0 : World) : Ca Tryd.prog 20 #[.int .i64 er] w0 (fun v w' => v = .int .i64 er ∧ w' = w0) := by
  refine Ca.of Tryd.func20 Tryd.ntmps20 rfl rfl ?_
  refine W.seq ?_
  refine W.region ?_
  refine WL.c rfl (o_ash (show _ = Value.int _ _ from rfl) ?_)
  refine WL.nil ?_
  refine W.seq ?_
  refine W.region ?_
  refine WL.c rfl (o_mvh (show _ = Value.int _ _ from rfl) ?_)
  refine WL.c rfl (o_ash (show _ = Value.int _ _ from rfl) ?_)
  refine WL.nil ?_
  refine W.ret ?_
  refine ret1v rfl (show _ = Value.int _ _ from rfl) ?_
  exact ⟨rfl, rfl⟩
theorem is_spec (e1 a1 er at_ : Int) (w0 : World) : Ca Tryd.prog 11 #[.agg #[.int .i64 e1, .int .i64 a1], .int .i64 er, .int .i64 at_] w0 (fun v w' => v = .bool (decide (e1 = er ∧ a1 = at_)) ∧ Ext w0 w') := by
  refine Ca.of Tryd.func11 Tryd.ntmps11 rfl rfl ?_
  refine W.seq ?_
  refine W.region ?_
  refine WL.c rfl (o_boxB rfl ?_)
  intro w3 hC3 hx3 hs3
  obtain ⟨b3, hb3⟩ : ∃ b, b = w0.heap.size := ⟨_, rfl⟩
  rw [← hb3] at hC3 ⊢
  replace hC3 : w3.heap[b3]? = some (.cells ([.int .i64 e1, .int .i64 a1]).toArray 32 (0, 0)) := hC3
  have hx := hx3
  refine WL.c rfl (o_ash (show _ = Value.bool _ from rfl) ?_)
  refine WL.nil ?_
  refine W.seq ?_
  refine W.region ?_
  refine WL.c rfl (o_fa 0 TI32 rfl TI30 rfl rfl ?_)
  refine WL.c rfl (o_ld TI30 rfl rfl (cell_of hC3 rfl) ?_)
  refine WL.c rfl (o_call Tryd.call20 (lc rfl ln) ((num_spec e1 _).mono ?_))
  rintro v9 w9 ⟨rfl, rfl⟩
  refine WL.c rfl (o_mvh (show _ = Value.int _ _ from rfl) ?_)
  refine WL.c rfl (o_eq rfl rfl ?_)
  refine WL.c rfl (o_mvh (show _ = Value.bool _ from rfl) ?_)
  refine WL.sp 5 rfl (fun g12 => ?_) (fun g12 => ?_)
  · skip
    refine WL.g rfl (g12) rfl (o_fa 1 TI32 rfl TI3 rfl rfl ?_)
    refine WL.g rfl (g12) rfl (o_ld TI3 rfl rfl (cell_of hC3 rfl) ?_)
    refine WL.g rfl (g12) rfl (o_mvh (show _ = Value.int _ _ from rfl) ?_)
    refine WL.g rfl (g12) rfl (o_eq rfl rfl ?_)
    refine WL.c rfl (o_pickA rfl rfl ?_)
    refine WL.c rfl (o_ash (show _ = Value.bool _ from rfl) ?_)
    refine WL.nil ?_
    refine W.ret ?_
    refine ret1v rfl (show _ = Value.bool _ from rfl) ?_
    exact ⟨congrArg Value.bool (by rw [Bool.eq_iff_iff]; simp_all), hx⟩
  · skip
    refine WL.s rfl (g12) rfl ?_
    refine WL.s rfl (g12) rfl ?_
    refine WL.s rfl (g12) rfl ?_
    refine WL.s rfl (g12) rfl ?_
    refine WL.c rfl (o_pickF rfl (g12) ?_)
    refine WL.c rfl (o_ash (show _ = Value.bool _ from rfl) ?_)
    refine WL.nil ?_
    refine W.ret ?_
    refine ret1v rfl (show _ = Value.bool _ from rfl) ?_
    exact ⟨congrArg Value.bool (by rw [Bool.eq_iff_iff]; simp_all), hx⟩
set_option maxHeartbeats 2000000 in
theorem small_spec (w0 : World) : Ca Tryd.prog 22 #[] w0 (fun r w' => ∃ cv ev_, r = .agg (pgV (smP 2) cv ev_).toArray ∧ w'.ownsRow w0.heap.size 28 4 cv 2 (inss (smL 2)) ∧ w'.ownsRow w0.heap.size 3 1 ev_ 1 (zs [0]) ∧ Ext w0 w') := by
  refine Ca.of Tryd.func22 Tryd.ntmps22 rfl rfl ?_
  refine W.seq ?_
  refine W.region ?_
  refine WL.c rfl (o_alB TI26 ?_)
  intro w0b hC0 hx0 hs0
  obtain ⟨b0, hb0⟩ : ∃ b, b = w0.heap.size := ⟨_, rfl⟩
  rw [← hb0] at hC0 ⊢
  replace hC0 : w0b.heap[b0]? = some (.cells ([.bool false, .slice none 0 0, .slice none 0 0]).toArray 26 (0, 0)) := hC0
  have hx : Ext w0 w0b := hx0
  have hz0 := hx.size
  refine WL.nil ?_
  refine W.seq ?_
  refine W.region ?_
  refine WL.c rfl (o_bldC (cs := [(.int .i64 1), (.int .i64 (-1)), (.int .i64 2), (.int .i64 0)]) TI28 (Sizes.cons TI3 (Sizes.cons TI3 (Sizes.cons TI3 (Sizes.cons TI3 Sizes.nil)))) rfl (lcp (show _ = Value.int _ _ from rfl) (lcp (show _ = Value.int _ _ from rfl) (lcp (show _ = Value.int _ _ from rfl) lnp))) rfl rfl ?_)
  refine WL.c rfl (o_bldC (cs := [(.int .i64 20), (.int .i64 0), (.int .i64 0), (.int .i64 0)]) TI28 (Sizes.cons TI3 (Sizes.cons TI3 (Sizes.cons TI3 (Sizes.cons TI3 Sizes.nil)))) rfl (lcp (show _ = Value.int _ _ from rfl) lnp) rfl rfl ?_)
  refine WL.c rfl (o_bsA (xs := [(.tmp 1), (.tmp 2)]) (cs := inss (smL 2)) TI23 TI28 rfl (lc rfl (lc rfl ln)) rfl rfl (by decide) (by decide) rfl ?_)
  have hT3 : World.ownsRow (w0b.alloc (.cells (inss (smL 2)).toArray 28)) w0b.heap.size 28 4 (.slice (some ⟨w0b.heap.size, 0, none⟩) 2 2) 2 (inss (smL 2)) := ⟨by decide, .inr ⟨_, 2, _, rfl, Nat.le_refl _, heap_alloc_new _ _, Nat.le_refl _, by rw [maxLen_eq]; decide, by decide, by rfl⟩⟩
  have hxr : Ext w0b (w0b.alloc (.cells (inss (smL 2)).toArray 28)) := Only.alloc w0b _
  obtain ⟨g3, hg3⟩ : ∃ g, g = w0b.heap.size := ⟨_, rfl⟩
  rw [← hg3] at hT3 ⊢
  generalize w0b.alloc (.cells (inss (smL 2)).toArray 28) = w3 at hT3 hxr ⊢
  replace hC0 := hxr.blk hC0 (fun h => h)
  replace hx := hx.tr hxr
  have hz3 := hx.size
  refine WL.c rfl (o_bs1 TI24 TI3 (show _ = Value.int _ _ from rfl) (by decide) (by decide) rfl ?_)
  have hT4 : World.ownsRow (w3.alloc (.cells (Value.int .i64 0).cells 3)) w3.heap.size 3 1 (.slice (some ⟨w3.heap.size, 0, none⟩) 1 1) 1 (zs [0]) := ⟨by decide, .inr ⟨_, 1, _, rfl, Nat.le_refl _, heap_alloc_new _ _, Nat.le_refl _, by rw [maxLen_eq]; decide, by decide, by rfl⟩⟩
  have hxr : Ext w3 (w3.alloc (.cells (Value.int .i64 0).cells 3)) := Only.alloc w3 _
  obtain ⟨g4, hg4⟩ : ∃ g, g = w3.heap.size := ⟨_, rfl⟩
  rw [← hg4] at hT4 ⊢
  generalize w3.alloc (.cells (Value.int .i64 0).cells 3) = w4 at hT4 hxr ⊢
  replace hC0 := hxr.blk hC0 (fun h => h)
  replace hx := hx.tr hxr
  replace hT3 := own_ext hT3 hxr
  refine WL.c rfl (o_bldC (cs := [(.bool false), _, _]) TI26 (Sizes.cons TI4 (Sizes.cons TI23 (Sizes.cons TI24 Sizes.nil))) rfl (lcp (show _ = Value.slice _ _ _ from rfl) (lcp (show _ = Value.slice _ _ _ from rfl) lnp)) rfl rfl ?_)
  refine WL.u (o_stA TI26 rfl (show _ = Value.agg (pgV (smP 2) (.slice (some ⟨g3, 0, none⟩) 2 2) (.slice (some ⟨g4, 0, none⟩) 1 1)).toArray from rfl) rfl rfl hC0 rfl ?_)
  intro ws hBs hos hss
  replace hx := hx.trans' hos (fun _ h => h) (fun k hk he => by omega)
  replace hT3 := own_only hT3 hos (fun k hk he => by subst he; exact own_off hT3 hC0 (by decide) hk)
  replace hT4 := own_only hT4 hos (fun k hk he => by subst he; exact own_off hT4 hC0 (by decide) hk)
  refine WL.nil ?_
  refine W.ret ?_
  refine retC rfl TI26 rfl rfl (cells_all (by assumption)) rfl ?_
  exact ⟨_, _, rfl, own_mono hT3 (by omega), own_mono hT4 (by omega), hx⟩
end Go.Proofs.YthlbhnefldaoiaaDoor

set_option linter.unusedSimpArgs false
set_option linter.unusedVariables false
set_option maxRecDepth 100000
namespace Go.Proofs.YthlbhnefldaoiaaDoor
open Go Go.Vc Go.RowKit Go.Proofs
set_option maxHeartbeats 16000000 in
theorem awake_spec (w0 : World) (hT : Tab w0) : Ca Tryd.prog 10 #[] w0 (fun r w' => r = .bool true ∧ Ext w0 w') := by
  have hx : Ext w0 w0 := Only.refl _ _
  refine Ca.of Tryd.func10 Tryd.ntmps10 rfl rfl ?_
  refine W.seq ?_
  refine W.region ?_
  refine WL.c rfl (o_ash (show _ = Value.bool _ from rfl) ?_)
  refine WL.nil ?_
  refine W.seq ?_
  refine W.region ?_
  refine WL.c rfl (o_call Tryd.call22 ln ((small_spec _).mono ?_))
  rintro v8 w8 ⟨cv, ev_, rfl, hcv, hev, hx8⟩
  replace hx := hx.tr hx8
  refine WL.c rfl (o_alB TI26 ?_)
  intro wa hCa hxa hsa
  refine WL.u (o_stA TI26 rfl (show _ = Value.agg (pgV (smP 2) cv ev_).toArray from rfl) rfl (by simp [pgV, own_one hcv, own_one hev]; rfl) hCa rfl ?_)
  intro wb1 hC1 hob hsb
  have hxb := Ext.own hxa (Nat.le_refl _) hob
  obtain ⟨b1, hb1⟩ : ∃ b, b = w8.heap.size := ⟨_, rfl⟩
  rw [← hb1] at hC1 ⊢
  clear hCa hxa hsa hob hsb
  replace hx := hx.tr hxb
  replace hcv := own_ext hcv hxb
  replace hev := own_ext hev hxb
  clear hxb
  refine WL.nil ?_
  refine W.seq ?_
  refine W.region ?_
  refine WL.c rfl (o_ldA TI26 rfl rfl (show Cells _ b1 0 (pgV (smP 2) cv ev_) from Cells.of hC1 0 _ (by simp [pgV] <;> exact fun i v h => h)) rfl ?_)
  refine WL.c rfl (o_call Tryd.call13 (lc rfl ln) ((encode_ok (smP 2) smP_ok cv ev_ _ ⟨Sl.own hcv, Sl.own hev⟩).mono ?_))
  rintro v11 w11 ⟨vb, rfl, hvb, hx11⟩
  rw [smP_lay] at hvb
  replace hx := hx.tr hx11
  replace hcv := own_ext hcv hx11
  replace hev := own_ext hev hx11
  replace hC1 := hx11.blk hC1 (fun h => h)
  refine WL.c rfl (o_mvh (by first | exact (show _ = Value.tuple _ from rfl) | exact rfl) ?_)
  refine WL.c rfl (o_ext rfl rfl ?_)
  refine WL.c rfl (o_ext rfl rfl ?_)
  refine WL.c rfl (o_alB TI32 ?_)
  intro wa hCa hxa hsa
  refine WL.c rfl (o_ash (by first | exact (show _ = Value.slice _ _ _ from rfl) | exact rfl) ?_)
  refine WL.u (o_stA TI32 rfl (show _ = Value.agg ([.int .i64 0, .int .i64 0]).toArray from rfl) rfl rfl hCa rfl ?_)
  intro wb3 hC3 hob hsb
  have hxb := Ext.own hxa (Nat.le_refl _) hob
  obtain ⟨b3, hb3⟩ : ∃ b, b = w11.heap.size := ⟨_, rfl⟩
  rw [← hb3] at hC3 ⊢
  clear hCa hxa hsa hob hsb
  replace hx := hx.tr hxb
  replace hcv := own_ext hcv hxb
  replace hev := own_ext hev hxb
  replace hvb := own_ext hvb hxb
  replace hC1 := hxb.blk hC1 (fun h => h)
  clear hxb
  refine WL.nil ?_
  refine W.seq ?_
  refine W.region ?_
  refine WL.c rfl (o_mvh (by first | exact (show _ = Value.slice _ _ _ from rfl) | exact rfl) ?_)
  refine WL.c rfl (o_call Tryd.call14 (lc rfl ln) ((decode_ok (smP 2) smP_ok vb _ (by rw [smP_lay]; exact Sl.own hvb)).mono ?_))
  rintro v16 w16 ⟨cq, eq_, rfl, hcq, heq, hx16⟩
  have hcvR := fun q (hq : cv.ownBlock = some q) => (hcv.lt q hq).2
  replace hx := hx.tr hx16
  replace hcv := own_ext hcv hx16
  replace hev := own_ext hev hx16
  replace hvb := own_ext hvb hx16
  replace hC1 := hx16.blk hC1 (fun h => h)
  replace hC3 := hx16.blk hC3 (fun h => h)
  have hz4 := hx.size
  refine WL.c rfl (o_mvh (by first | exact (show _ = Value.tuple _ from rfl) | exact rfl) ?_)
  refine WL.c rfl (o_ext rfl rfl ?_)
  refine WL.c rfl (o_ext rfl rfl ?_)
  refine WL.c rfl (o_alB TI26 ?_)
  intro w4 hC4 hx4 hs4
  obtain ⟨b4, hb4⟩ : ∃ b, b = w16.heap.size := ⟨_, rfl⟩
  have hn14 : b1 < b4 := by have := (Array.getElem?_eq_some_iff.1 hC1).1; omega
  have hn34 : b3 < b4 := by have := (Array.getElem?_eq_some_iff.1 hC3).1; omega
  rw [← hb4] at hC4 ⊢
  replace hC4 : w4.heap[b4]? = some (.cells ([.bool false, .slice none 0 0, .slice none 0 0]).toArray 26 (0, 0)) := hC4
  replace hx := hx.tr hx4
  replace hcv := own_ext hcv hx4
  replace hev := own_ext hev hx4
  replace hvb := own_ext hvb hx4
  replace hcq := own_ext hcq hx4
  replace heq := own_ext heq hx4
  replace hC1 := hx4.blk hC1 (fun h => h)
  replace hC3 := hx4.blk hC3 (fun h => h)
  have hb4 : w0.heap.size ≤ b4 := by have := hx16; have h9 := hx4.size; rw [hb4]; exact hz4
  refine WL.c rfl (o_alB TI32 ?_)
  intro w5 hC5 hx5 hs5
  obtain ⟨b5, hb5⟩ : ∃ b, b = w4.heap.size := ⟨_, rfl⟩
  rw [← hb5] at hC5 ⊢
  replace hC5 : w5.heap[b5]? = some (.cells ([.int .i64 0, .int .i64 0]).toArray 32 (0, 0)) := hC5
  replace hx := hx.tr hx5
  replace hcv := own_ext hcv hx5
  replace hev := own_ext hev hx5
  replace hvb := own_ext hvb hx5
  replace hcq := own_ext hcq hx5
  replace heq := own_ext heq hx5
  replace hC1 := hx5.blk hC1 (fun h => h)
  replace hC3 := hx5.blk hC3 (fun h => h)
  replace hC4 := hx5.blk hC4 (fun h => h)
  have hb45 : b4 < b5 := by have := (Array.getElem?_eq_some_iff.1 hC4).1; omega
  refine WL.u (o_stA TI26 rfl (show _ = Value.agg (pgV (smP 2) cq eq_).toArray from rfl) rfl (by simp [pgV, own_one hcq, own_one heq]; rfl) hC4 rfl ?_)
  intro w4s hB4 ho4 hs4s
  replace hx := hx.trans' ho4 (fun _ h => h) (fun k hk he => by omega)
  replace hcv := own_only hcv ho4 (fun k hk he => by subst he; exact own_off hcv hC4 (by decide) hk)
  replace hev := own_only hev ho4 (fun k hk he => by subst he; exact own_off hev hC4 (by decide) hk)
  replace hvb := own_only hvb ho4 (fun k hk he => by subst he; exact own_off hvb hC4 (by decide) hk)
  replace hcq := own_only hcq ho4 (fun k hk he => by subst he; exact own_off hcq hC4 (by decide) hk)
  replace heq := own_only heq ho4 (fun k hk he => by subst he; exact own_off heq hC4 (by decide) hk)
  replace hC1 := ho4.blk hC1 (fun h => by rw [h, hC4] at hC1; have := hn14; omega)
  replace hC3 := ho4.blk hC3 (fun h => by rw [h, hC4] at hC3; cases hC3)
  replace hC5 := ho4.blk hC5 (by omega)
  clear hC4
  have hC4 := hB4
  clear hB4
  refine WL.u (o_stA TI32 rfl (show _ = Value.agg #[.int .i64 0, .int .i64 0] from rfl) rfl rfl hC5 rfl ?_)
  intro w5s hB5 ho5 hs5s
  replace hx := hx.trans' ho5 (fun _ h => h) (fun k hk he => by omega)
  replace hcv := own_only hcv ho5 (fun k hk he => by subst he; exact own_off hcv hC5 (by decide) hk)
  replace hev := own_only hev ho5 (fun k hk he => by subst he; exact own_off hev hC5 (by decide) hk)
  replace hvb := own_only hvb ho5 (fun k hk he => by subst he; exact own_off hvb hC5 (by decide) hk)
  replace hcq := own_only hcq ho5 (fun k hk he => by subst he; exact own_off hcq hC5 (by decide) hk)
  replace heq := own_only heq ho5 (fun k hk he => by subst he; exact own_off heq hC5 (by decide) hk)
  replace hC1 := ho5.blk hC1 (fun h => by rw [h, hC5] at hC1; cases hC1)
  replace hC3 := ho5.blk hC3 (by omega)
  replace hC4 := ho5.blk hC4 (by omega)
  clear hC5
  have hC5 := hB5
  clear hB5
  refine WL.nil ?_
  refine W.seq ?_
  refine W.region ?_
  refine WL.c rfl (o_ldA TI26 rfl rfl (show Cells _ b1 0 (pgV (smP 2) cv ev_) from Cells.of hC1 0 _ (by simp [pgV] <;> exact fun i v h => h)) rfl ?_)
  refine WL.c rfl (o_call Tryd.call23 (lc rfl ln) ((print_ok (smP 2) smP_ok cv ev_ _ (hT.ext hx) ⟨Sl.own hcv, Sl.own hev⟩).mono ?_))
  rintro v21 w21 ⟨rfl, hx21⟩
  rw [smP_txt]
  replace hx := hx.tr hx21
  replace hcv := own_ext hcv hx21
  replace hev := own_ext hev hx21
  replace hvb := own_ext hvb hx21
  replace hcq := own_ext hcq hx21
  replace heq := own_ext heq hx21
  replace hC1 := hx21.blk hC1 (fun h => h)
  replace hC3 := hx21.blk hC3 (fun h => h)
  replace hC4 := hx21.blk hC4 (fun h => h)
  replace hC5 := hx21.blk hC5 (fun h => h)
  refine WL.c rfl (o_mvh (by first | exact (show _ = Value.tuple _ from rfl) | exact rfl) ?_)
  refine WL.c rfl (o_ext rfl rfl ?_)
  refine WL.c rfl (o_ext rfl rfl ?_)
  refine WL.c rfl (o_alB TI32 ?_)
  intro wa hCa hxa hsa
  refine WL.c rfl (o_ash (show _ = Value.string _ from rfl) ?_)
  refine WL.u (o_stA TI32 rfl (show _ = Value.agg ([.int .i64 0, .int .i64 0]).toArray from rfl) rfl rfl hCa rfl ?_)
  intro wb7 hC7 hob hsb
  have hxb := Ext.own hxa (Nat.le_refl _) hob
  obtain ⟨b7, hb7⟩ : ∃ b, b = w21.heap.size := ⟨_, rfl⟩
  rw [← hb7] at hC7 ⊢
  clear hCa hxa hsa hob hsb
  replace hx := hx.tr hxb
  replace hcv := own_ext hcv hxb
  replace hev := own_ext hev hxb
  replace hvb := own_ext hvb hxb
  replace hcq := own_ext hcq hxb
  replace heq := own_ext heq hxb
  replace hC1 := hxb.blk hC1 (fun h => h)
  replace hC3 := hxb.blk hC3 (fun h => h)
  replace hC4 := hxb.blk hC4 (fun h => h)
  replace hC5 := hxb.blk hC5 (fun h => h)
  clear hxb
  refine WL.nil ?_
  refine W.seq ?_
  obtain ⟨g9, k9, hv9, hg9⟩ := own_some hcv (show 0 < 2 by decide)
  subst hv9
  refine W.region ?_
  refine WL.c rfl (o_fa 1 TI26 rfl TI23 rfl rfl ?_)
  refine WL.c rfl (o_ld TI23 rfl rfl (cell_of hC1 rfl) ?_)
  refine WL.c rfl (o_ixB (i := 0) TI23 TI28 rfl rfl (by decide) ?_)
  refine WL.c rfl (o_fa 2 TI28 rfl TI3 rfl rfl ?_)
  refine WL.u (o_stRj TI3 rfl (show _ = 2 from rfl) (show _ = Value.int .i64 3 from rfl) rfl hcv rfl (by decide) ?_)
  intro w27 hr27 ho27 hs27
  have hlo := fun q (hq : (Value.slice (some ⟨g9, 0, none⟩) 2 k9).ownBlock = some q) => (hcv.lt q hq).1
  replace hC1 := ho27.blk hC1 (own_off hcv hC1 (by decide))
  replace hC3 := ho27.blk hC3 (own_off hcv hC3 (by decide))
  replace hC4 := ho27.blk hC4 (own_off hcv hC4 (by decide))
  replace hC5 := ho27.blk hC5 (own_off hcv hC5 (by decide))
  replace hC7 := ho27.blk hC7 (own_off hcv hC7 (by decide))
  replace hev := own_only hev ho27 (fun q hq hF => own_row_off hcv hev (by decide) q hq hF)
  replace hvb := own_only hvb ho27 (fun q hq hF => own_row_off hcv hvb (by decide) q hq hF)
  replace heq := own_only heq ho27 (fun q hq hF => own_row_off hcv heq (by decide) q hq hF)
  replace hcq := own_only hcq ho27 (fun q hq hF => by have := (hcq.lt q hq).1; have := hcvR q hF; omega)
  replace hx := hx.trans' ho27 (fun _ h => h) (fun q hq hF => by have := hlo q hF; omega)
  clear hcv
  have hcv : w27.ownsRow w0.heap.size 28 4 (.slice (some ⟨g9, 0, none⟩) 2 k9) 2 (inss (smL 3)) := hr27
  clear hr27
  refine WL.nil ?_
  refine W.seq ?_
  refine W.seq ?_
  refine W.region ?_
  refine WL.c rfl (o_call Tryd.call22 ln ((small_spec _).mono ?_))
  rintro v28 w28 ⟨cs, es, rfl, hcs, hes, hx28⟩
  replace hx := hx.tr hx28
  replace hcv := own_ext hcv hx28
  replace hev := own_ext hev hx28
  replace hvb := own_ext hvb hx28
  replace hcq := own_ext hcq hx28
  replace heq := own_ext heq hx28
  replace hC1 := hx28.blk hC1 (fun h => h)
  replace hC3 := hx28.blk hC3 (fun h => h)
  replace hC4 := hx28.blk hC4 (fun h => h)
  replace hC5 := hx28.blk hC5 (fun h => h)
  replace hC7 := hx28.blk hC7 (fun h => h)
  refine WL.c rfl (o_call Tryd.call12 (lc rfl ln) ((check_ok (smP 2) cs es _ ⟨Sl.own hcs, Sl.own hes⟩ 0 0 (chk_okP smP_ok) (by decide) (by decide)).mono ?_))
  rintro v29 w29 ⟨rfl, hx29⟩
  replace hx := hx.tr hx29
  replace hcv := own_ext hcv hx29
  replace hev := own_ext hev hx29
  replace hvb := own_ext hvb hx29
  replace hcq := own_ext hcq hx29
  replace heq := own_ext heq hx29
  replace hC1 := hx29.blk hC1 (fun h => h)
  replace hC3 := hx29.blk hC3 (fun h => h)
  replace hC4 := hx29.blk hC4 (fun h => h)
  replace hC5 := hx29.blk hC5 (fun h => h)
  replace hC7 := hx29.blk hC7 (fun h => h)
  refine WL.c rfl (o_call Tryd.call11 (lc rfl (lc rfl (lc rfl ln))) ((is_spec 0 0 0 0 _).mono ?_))
  rintro v30 w30 ⟨rfl, hx30⟩
  replace hx := hx.tr hx30
  replace hcv := own_ext hcv hx30
  replace hev := own_ext hev hx30
  replace hvb := own_ext hvb hx30
  replace hcq := own_ext hcq hx30
  replace heq := own_ext heq hx30
  replace hC1 := hx30.blk hC1 (fun h => h)
  replace hC3 := hx30.blk hC3 (fun h => h)
  replace hC4 := hx30.blk hC4 (fun h => h)
  replace hC5 := hx30.blk hC5 (fun h => h)
  replace hC7 := hx30.blk hC7 (fun h => h)
  refine WL.c rfl (o_not' rfl ?_)
  refine WL.c rfl (o_mvh (show _ = Value.bool _ from rfl) ?_)
  refine WL.g rfl (by decide) rfl (o_ldA TI26 rfl rfl (show Cells _ b1 0 (pgV (smP 3) (.slice (some ⟨g9, 0, none⟩) 2 k9) ev_) from Cells.of hC1 0 _ (by simp [pgV] <;> exact fun i v h => h)) rfl ?_)
  refine WL.g rfl (by decide) rfl (o_call Tryd.call12 (lc rfl ln) ((check_ok (smP 3) (.slice (some ⟨g9, 0, none⟩) 2 k9) ev_ _ ⟨Sl.own hcv, Sl.own hev⟩ 140 0 smP_bad (by decide) (by decide)).mono ?_))
  rintro v34 w34 ⟨rfl, hx34⟩
  replace hx := hx.tr hx34
  replace hcv := own_ext hcv hx34
  replace hev := own_ext hev hx34
  replace hvb := own_ext hvb hx34
  replace hcq := own_ext hcq hx34
  replace heq := own_ext heq hx34
  replace hC1 := hx34.blk hC1 (fun h => h)
  replace hC3 := hx34.blk hC3 (fun h => h)
  replace hC4 := hx34.blk hC4 (fun h => h)
  replace hC5 := hx34.blk hC5 (fun h => h)
  replace hC7 := hx34.blk hC7 (fun h => h)
  refine WL.g rfl (by decide) rfl (o_call Tryd.call11 (lc rfl (lc rfl (lc rfl ln))) ((is_spec 140 0 140 0 _).mono ?_))
  rintro v35 w35 ⟨rfl, hx35⟩
  replace hx := hx.tr hx35
  replace hcv := own_ext hcv hx35
  replace hev := own_ext hev hx35
  replace hvb := own_ext hvb hx35
  replace hcq := own_ext hcq hx35
  replace heq := own_ext heq hx35
  replace hC1 := hx35.blk hC1 (fun h => h)
  replace hC3 := hx35.blk hC3 (fun h => h)
  replace hC4 := hx35.blk hC4 (fun h => h)
  replace hC5 := hx35.blk hC5 (fun h => h)
  replace hC7 := hx35.blk hC7 (fun h => h)
  refine WL.g rfl (by decide) rfl (o_not' rfl ?_)
  refine WL.c rfl (o_pickO rfl rfl ?_)
  refine WL.c rfl (o_mvh (show _ = Value.bool _ from rfl) ?_)
  refine WL.g rfl (by decide) rfl (o_ldA TI32 rfl rfl (show Cells _ b3 0 [.int .i64 0, .int .i64 0] from Cells.of hC3 0 _ (by simp)) rfl ?_)
  refine WL.g rfl (by decide) rfl (o_call Tryd.call11 (lc rfl (lc rfl (lc rfl ln))) ((is_spec 0 0 0 0 _).mono ?_))
  rintro v40 w40 ⟨rfl, hx40⟩
  replace hx := hx.tr hx40
  replace hcv := own_ext hcv hx40
  replace hev := own_ext hev hx40
  replace hvb := own_ext hvb hx40
  replace hcq := own_ext hcq hx40
  replace heq := own_ext heq hx40
  replace hC1 := hx40.blk hC1 (fun h => h)
  replace hC3 := hx40.blk hC3 (fun h => h)
  replace hC4 := hx40.blk hC4 (fun h => h)
  replace hC5 := hx40.blk hC5 (fun h => h)
  replace hC7 := hx40.blk hC7 (fun h => h)
  refine WL.g rfl (by decide) rfl (o_not' rfl ?_)
  refine WL.c rfl (o_pickO rfl rfl ?_)
  refine WL.c rfl (o_mvh (show _ = Value.bool _ from rfl) ?_)
  refine WL.g rfl (by decide) rfl (o_ldA TI32 rfl rfl (show Cells _ b5 0 [.int .i64 0, .int .i64 0] from Cells.of hC5 0 _ (by simp)) rfl ?_)
  refine WL.g rfl (by decide) rfl (o_call Tryd.call11 (lc rfl (lc rfl (lc rfl ln))) ((is_spec 0 0 0 0 _).mono ?_))
  rintro v45 w45 ⟨rfl, hx45⟩
  replace hx := hx.tr hx45
  replace hcv := own_ext hcv hx45
  replace hev := own_ext hev hx45
  replace hvb := own_ext hvb hx45
  replace hcq := own_ext hcq hx45
  replace heq := own_ext heq hx45
  replace hC1 := hx45.blk hC1 (fun h => h)
  replace hC3 := hx45.blk hC3 (fun h => h)
  replace hC4 := hx45.blk hC4 (fun h => h)
  replace hC5 := hx45.blk hC5 (fun h => h)
  replace hC7 := hx45.blk hC7 (fun h => h)
  refine WL.g rfl (by decide) rfl (o_not' rfl ?_)
  refine WL.c rfl (o_pickO rfl rfl ?_)
  refine WL.c rfl (o_mvh (show _ = Value.bool _ from rfl) ?_)
  refine WL.g rfl (by decide) rfl (o_ldA TI32 rfl rfl (show Cells _ b7 0 [.int .i64 0, .int .i64 0] from Cells.of hC7 0 _ (by simp)) rfl ?_)
  refine WL.g rfl (by decide) rfl (o_call Tryd.call11 (lc rfl (lc rfl (lc rfl ln))) ((is_spec 0 0 0 0 _).mono ?_))
  rintro v50 w50 ⟨rfl, hx50⟩
  replace hx := hx.tr hx50
  replace hcv := own_ext hcv hx50
  replace hev := own_ext hev hx50
  replace hvb := own_ext hvb hx50
  replace hcq := own_ext hcq hx50
  replace heq := own_ext heq hx50
  replace hC1 := hx50.blk hC1 (fun h => h)
  replace hC3 := hx50.blk hC3 (fun h => h)
  replace hC4 := hx50.blk hC4 (fun h => h)
  replace hC5 := hx50.blk hC5 (fun h => h)
  replace hC7 := hx50.blk hC7 (fun h => h)
  refine WL.g rfl (by decide) rfl (o_not' rfl ?_)
  refine WL.c rfl (o_pickO rfl rfl ?_)
  refine WL.nil ?_
  refine W.condF' rfl (by decide) ?_
  refine W.skip ?_
  refine W.seq ?_
  obtain ⟨wd, hwd⟩ : ∃ wd, wd = World.drew w50 := ⟨_, rfl⟩
  have hxd : Ext w50 wd := hwd ▸ Only.drew w50
  replace hx := hx.tr hxd
  replace hcv := own_ext hcv hxd
  replace hev := own_ext hev hxd
  replace hvb := own_ext hvb hxd
  replace hcq := own_ext hcq hxd
  replace heq := own_ext heq hxd
  replace hC1 := hxd.blk hC1 (fun h => h)
  replace hC3 := hxd.blk hC3 (fun h => h)
  replace hC4 := hxd.blk hC4 (fun h => h)
  replace hC5 := hxd.blk hC5 (fun h => h)
  replace hC7 := hxd.blk hC7 (fun h => h)
  refine W.draw (Ext) [(1, fun v _ => v = (Value.pointer (some ⟨b1, 0, none⟩))), (2, fun v _ => v = (vb)), (4, fun v _ => v = (Value.pointer (some ⟨b4, 0, none⟩))), (6, fun v _ => v = (st ([100, 101, 99, 111, 100, 101, 114] ++ [10] ++ ([116, 121, 112, 101, 32, 48, 32, 48] ++ [10]) ++ ([48, 32, 117, 105, 110, 116, 32, 45, 32, 50] ++ [10] ++ ([49, 32, 114, 101, 116] ++ [10])))))] rfl (by kernel_rfl) (Only.refl No) (fun _ _ _ h k => h.trans k) ⟨Mono.eq, Mono.eq, Mono.eq, Mono.eq, trivial⟩ ⟨rfl, rfl, rfl, rfl, trivial⟩ ?_
  refine WD.p rfl (fun e w hR hh => by obtain ⟨h2, -⟩ := hh; exact SG.n (o_mvh h2 ⟨rfl, Only.refl No _⟩)) ?_
  refine WD.p rfl (fun e w hR hh => by obtain ⟨h53, -⟩ := hh; rw [← hwd] at hR; have hvb9 := own_ext hvb hR; exact SG.n (o_cvBS TI34 TI5 TI9 h53 (Sl.own hvb9) ⟨rfl, Only.refl No _⟩)) ?_
  refine WD.p rfl (fun e w hR hh => by obtain ⟨h54, -⟩ := hh; exact SG.n (o_eqT h54 rfl ⟨rfl, Only.refl No _⟩)) ?_
  refine WD.p rfl (fun e w hR hh => by obtain ⟨h55, -⟩ := hh; exact SG.n (o_mvh h55 ⟨rfl, Only.refl No _⟩)) ?_
  refine WD.p rfl (fun e w hR hh => by obtain ⟨h56, h4, -⟩ := hh; rw [← hwd] at hR; have hc9 := hR.blk hC4 (fun h => h); exact SG.g h56 (by decide) (o_ldA TI26 rfl h4 (show Cells _ b4 0 (pgV (smP 2) cq eq_) from Cells.of hc9 0 _ (by simp [pgV] <;> exact fun i v h => h)) rfl ⟨rfl, Only.refl No _⟩)) ?_
  refine WD.q (fun v w => ∃ cs es, v = .agg (pgV (smP 2) cs es).toArray ∧ PgR w (smP 2) cs es) (fun v w w2 hR hh => by obtain ⟨cs, es, h1, h2⟩ := hh; exact ⟨cs, es, h1, h2.ext hR⟩) rfl (fun e w hR hh => by obtain ⟨h56, -⟩ := hh; exact SG.g h56 (by decide) (o_call Tryd.call22 ln ((small_spec _).mono (fun v w' hh => by obtain ⟨cs, es, h1, h2, h3, h4⟩ := hh; exact ⟨⟨cs, es, h1, ⟨Sl.own h2, Sl.own h3⟩⟩, h4⟩)))) ?_
  refine WD.p rfl (fun e w hR hh => by obtain ⟨h58, h57, h56, -⟩ := hh; rw [← hwd] at hR; obtain ⟨cs9, es9, h58v, h58p⟩ := h58; exact SG.g h56 (by decide) (o_call Tryd.call15 (lc h57 (lc h58v ln)) ((equal_spec (smP 2) (smP 2) cq eq_ cs9 es9 _ ⟨Sl.own (own_ext hcq hR), Sl.own (own_ext heq hR)⟩ h58p (by decide) (by decide)).mono (fun v w' h => h)))) ?_
  refine WD.p rfl (fun e w hR hh => by obtain ⟨h59, h56, -⟩ := hh; exact SG.n (o_pickA h56 h59 ⟨rfl, Only.refl No _⟩)) ?_
  refine WD.p rfl (fun e w hR hh => by obtain ⟨h60, -⟩ := hh; exact SG.n (o_mvh h60 ⟨rfl, Only.refl No _⟩)) ?_
  refine WD.p rfl (fun e w hR hh => by obtain ⟨h61, h4, -⟩ := hh; rw [← hwd] at hR; have hc9 := hR.blk hC4 (fun h => h); exact SG.g h61 (by decide) (o_ldA TI26 rfl h4 (show Cells _ b4 0 (pgV (smP 2) cq eq_) from Cells.of hc9 0 _ (by simp [pgV] <;> exact fun i v h => h)) rfl ⟨rfl, Only.refl No _⟩)) ?_
  refine WD.p rfl (fun e w hR hh => by obtain ⟨h61, h1, -⟩ := hh; rw [← hwd] at hR; have hc9 := hR.blk hC1 (fun h => h); exact SG.g h61 (by decide) (o_ldA TI26 rfl h1 (show Cells _ b1 0 (pgV (smP 3) (.slice (some ⟨g9, 0, none⟩) 2 k9) ev_) from Cells.of hc9 0 _ (by simp [pgV] <;> exact fun i v h => h)) rfl ⟨rfl, Only.refl No _⟩)) ?_
  refine WD.p rfl (fun e w hR hh => by obtain ⟨h63, h62, h61, -⟩ := hh; rw [← hwd] at hR; exact SG.g h61 (by decide) (o_call Tryd.call15 (lc h62 (lc h63 ln)) ((equal_spec (smP 2) (smP 3) cq eq_ (.slice (some ⟨g9, 0, none⟩) 2 k9) ev_ _ ⟨Sl.own (own_ext hcq hR), Sl.own (own_ext heq hR)⟩ ⟨Sl.own (own_ext hcv hR), Sl.own (own_ext hev hR)⟩ (by decide) (by decide)).mono (fun v w' h => h)))) ?_
  refine WD.p rfl (fun e w hR hh => by obtain ⟨h64, h61, -⟩ := hh; exact SG.g h61 (by decide) (o_not' h64 ⟨rfl, Only.refl No _⟩)) ?_
  refine WD.p rfl (fun e w hR hh => by obtain ⟨h65, h61, -⟩ := hh; exact SG.n (o_pickA h61 h65 ⟨rfl, Only.refl No _⟩)) ?_
  refine WD.p rfl (fun e w hR hh => by obtain ⟨h66, -⟩ := hh; exact SG.n (o_mvh h66 ⟨rfl, Only.refl No _⟩)) ?_
  refine WD.p rfl (fun e w hR hh => by obtain ⟨h67, h6, -⟩ := hh; exact SG.g h67 (by decide) (o_mvh h6 ⟨rfl, Only.refl No _⟩)) ?_
  refine WD.p rfl (fun e w hR hh => by obtain ⟨h68, h67, -⟩ := hh; exact SG.g h67 (by decide) (o_eqT h68 rfl ⟨rfl, Only.refl No _⟩)) ?_
  refine WD.p rfl (fun e w hR hh => by obtain ⟨h69, h67, -⟩ := hh; exact SG.n (o_pickA h67 h69 ⟨rfl, Only.refl No _⟩)) ?_
  refine WD.p rfl (fun e w hR hh => by obtain ⟨h70, -⟩ := hh; exact SG.n (o_ash h70 ⟨rfl, Only.refl No _⟩)) ?_
  rintro e w hR ⟨h0, h70, h69, h68, h67, h66, h65, h64, h63, h62, h61, h60, h59, h58, h57, h56, h55, h54, h53, h1, h2, h4, h6, -⟩
  rw [← hwd] at hR
  refine W.ret ?_
  refine ret1v rfl h0 ?_
  exact ⟨by first | rfl | (rw [h0]; rfl) | (rw [h0]; decide), hx.tr hR⟩
end Go.Proofs.YthlbhnefldaoiaaDoor

set_option linter.unusedSimpArgs false
set_option linter.unusedVariables false
set_option maxRecDepth 100000
namespace Go.Proofs.YthlbhnefldaoiaaDoor
open Go Go.Vc Go.RowKit Go.Proofs
theorem o_minI {P : Program} {e : Env} {w : World} {K : Value → World → Prop} {ty : TypeId} {x y : Operand} {t u : TypeId} {k : IntKind} {a b : Int} (hx : ev e x = .int k a) (hy : ev e y = .int k b) (kk : K (.int k (if b < a then b else a)) w) : OP P e (.call ⟨.builtin .min, #[x, y], #[t, u]⟩) ty w K := by
  refine OP.of ?_ kk
  simp [execOp, resolve, invoke, builtin, Builtin.min_, Builtin.min2, hx, hy]

end Go.Proofs.YthlbhnefldaoiaaDoor

set_option linter.unusedSimpArgs false
set_option linter.unusedVariables false
set_option maxRecDepth 100000
namespace Go.Proofs.YthlbhnefldaoiaaDoor
open Go Go.Vc Go.RowKit Go.Proofs
theorem own_made1 {w : World} {el : TypeId} {l n : Nat} {z : Value} (hz : z.cells = #[z]) (hln : l ≤ n) (hn : n ≤ 9223372036854775807) : (w.alloc (.cells (madeCells z.cells (n * 1)) el)).ownsRow w.heap.size el 1 (.slice (some ⟨w.heap.size, 0, none⟩) l n) l (List.replicate l z) := by
  have hc : (madeCells z.cells (n * 1)).toList = List.replicate n z := by rw [hz, Nat.mul_one, toList_madeCells_one]
  refine ⟨by simp, .inr ⟨w.heap.size, n, madeCells z.cells (n * 1), rfl, Nat.le_refl _, heap_alloc_new w _, hln, by rw [maxLen_eq]; omega, ?_, ?_⟩⟩
  · have := congrArg List.length hc; simpa using this
  · rw [hc, List.take_replicate, Nat.mul_one, Nat.min_eq_left hln]

def ret0I : Ins := ⟨20, 0, 0, 0⟩
theorem inss_rep (n : Nat) : inss (List.replicate n in0) = List.replicate (n * 4) (.int .i64 0) := by
  induction n with
  | zero => rfl
  | succ n ih => rw [List.replicate_succ, inss, List.flatMap_cons, ← inss, ih, show (n + 1) * 4 = 4 + n * 4 by omega, ← List.replicate_append_replicate]; rfl
theorem made4 (n : Nat) : (madeCells (Value.agg #[.int .i64 0, .int .i64 0, .int .i64 0, .int .i64 0]).cells (n * 4)).toList = inss (List.replicate n in0) := by
  rw [inss_rep]
  refine List.ext_getElem (by simp [size_madeCells]) fun i h1 h2 => ?_
  have h4 : i % 4 = 0 ∨ i % 4 = 1 ∨ i % 4 = 2 ∨ i % 4 = 3 := by omega
  simp only [madeCells, Array.toList_map, List.getElem_map, Array.getElem_toList, Array.getElem_range, List.getElem_replicate]
  show (#[Value.int .i64 0, .int .i64 0, .int .i64 0, .int .i64 0] : Array Value)[i % 4]! = _
  rcases h4 with h | h | h | h <;> rw [h] <;> rfl
theorem own_made4 {w : World} {n : Nat} {el : TypeId} (hn : n ≤ 9223372036854775807) : (w.alloc (.cells (madeCells (Value.agg #[.int .i64 0, .int .i64 0, .int .i64 0, .int .i64 0]).cells (n * 4)) el)).ownsRow w.heap.size el 4 (.slice (some ⟨w.heap.size, 0, none⟩) n n) n (inss (List.replicate n in0)) :=
  ⟨by rw [inss_len, List.length_replicate], .inr ⟨w.heap.size, n, _, rfl, Nat.le_refl _, heap_alloc_new w _, Nat.le_refl _, by rw [maxLen_eq]; omega, size_madeCells _ _, by rw [made4, List.take_of_length_le (by rw [inss_len, List.length_replicate]; omega)]⟩⟩
theorem fitP_blank {nc ne : Nat} : fitP nc ne 32 0 := by simp [fitP]
end Go.Proofs.YthlbhnefldaoiaaDoor

set_option linter.unusedSimpArgs false
set_option linter.unusedVariables false
set_option maxRecDepth 100000
namespace Go.Proofs.YthlbhnefldaoiaaDoor
open Go Go.Vc Go.RowKit Go.Proofs
theorem o_remI {P : Program} {e : Env} {w : World} {K : Value → World → Prop} {ty : TypeId} {x y : Operand} {t u : TypeId} {a b : Int} (hx : ev e x = .int .i64 a) (hy : ev e y = .int .i64 b) (hb : 0 < b) (kk : K (.int .i64 (a.tmod b)) w) : OP P e (.binOp .rem t x y u) ty w K := by
  exact o_rem hx hy (by omega) kk
theorem tmod_lim (a : Int) {b : Int} (hb : 0 < b) : -b < a.tmod b ∧ a.tmod b < b := by
  refine ⟨?_, Int.tmod_lt_of_pos a hb⟩
  by_cases h : 0 ≤ a
  · have := Int.tmod_nonneg b h
    omega
  · have h1 := Int.tmod_lt_of_pos (-a) hb
    rw [Int.neg_tmod] at h1
    omega
theorem o_maxI {P : Program} {e : Env} {w : World} {K : Value → World → Prop} {ty : TypeId} {x y : Operand} {t u : TypeId} {k : IntKind} {a b : Int} (hx : ev e x = .int k a) (hy : ev e y = .int k b) (kk : K (.int k (if a < b then b else a)) w) : OP P e (.call ⟨.builtin .max, #[x, y], #[t, u]⟩) ty w K := by
  refine OP.of ?_ kk
  simp [execOp, resolve, invoke, builtin, Builtin.max_, Builtin.max2, hx, hy]

/-- what 'made' makes, letter by letter -/
def madN (nc ne : Nat) (k : Nat) (x : Int) : Prop := if k = 107 ∨ k = 112 then -1 ≤ x ∧ x ≤ 63 else if k = 75 then 0 ≤ x ∧ x ≤ 61 else if k = 119 then x = 1 ∨ x = 2 ∨ x = 4 ∨ x = 8 else if k = 109 then x = 2 else if k = 102 then 4 ≤ x ∧ x ≤ 400 else if k = 110 then 1 ≤ x ∧ x ≤ 1048576 else if k = 115 then 1 ≤ x ∧ x ≤ 64 else if k = 103 then 0 ≤ x ∧ x ≤ 255 else if k = 108 then 0 ≤ x ∧ x ≤ 300 else if k = 76 then -1 ≤ x ∧ x ≤ 16777215 else if k = 114 then 1 ≤ x ∧ x ≤ 300 else if k = 122 then 1 ≤ x ∧ x ≤ 16777216 else if k = 116 then 0 ≤ x ∧ x ≤ (nc : Int) - 1 else if k = 121 then 0 ≤ x ∧ x ≤ (ne : Int) - 1 else x = 0

theorem brought_spec (x lo hi : Int) (w0 : World) (hx : -9223372036854775808 ≤ x ∧ x ≤ 9223372036854775807) (hlh : lo ≤ hi) (hlo_ : -1 ≤ lo) (hhi_ : hi ≤ 1000000000) : Ca Tryd.prog 39 #[.int .i64 x, .int .i64 lo, .int .i64 hi] w0 (fun v w' => (∃ q, v = .int .i64 q ∧ lo ≤ q ∧ q ≤ hi) ∧ w' = w0) := by
  refine Ca.of Tryd.func39 Tryd.ntmps39 rfl rfl ?_
  refine W.seq ?_
  refine W.region ?_
  refine WL.c rfl (o_ash (show _ = Value.int _ _ from rfl) ?_)
  refine WL.nil ?_
  refine W.seq ?_
  refine W.seq ?_
  refine W.region ?_
  refine WL.c rfl (o_mvh (show _ = Value.int _ _ from rfl) ?_)
  refine WL.c rfl (o_mvh (show _ = Value.int _ _ from rfl) ?_)
  refine WL.c rfl (o_lt rfl rfl ?_)
  refine WL.c rfl (o_mvh (show _ = Value.bool _ from rfl) ?_)
  refine WL.g rfl (by simp; omega) rfl (o_mvh (show _ = Value.int _ _ from rfl) ?_)
  refine WL.g rfl (by simp; omega) rfl (o_mvh (show _ = Value.int _ _ from rfl) ?_)
  refine WL.g rfl (by simp; omega) rfl (o_mvh (show _ = Value.int _ _ from rfl) ?_)
  refine WL.g rfl (by simp; omega) rfl (o_call Tryd.call60 (lc rfl (lc rfl (lc rfl ln))) ((rin_spec x lo hi _).mono ?_))
  rintro v15 w15 ⟨rfl, rfl⟩
  refine WL.c rfl (o_pickO rfl rfl ?_)
  refine WL.nil ?_
  refine W.cond rfl (fun c16 => ?_) (fun c16 => ?_)
  · try simp only [decide_eq_true_eq, decide_eq_false_iff_not, Bool.not_eq_true', Bool.not_eq_false', Bool.and_eq_true, Bool.or_eq_true, Bool.and_eq_false_iff, Bool.or_eq_false_iff] at c16
    refine W.seq ?_
    refine W.region ?_
    refine WL.c rfl (o_mvh (show _ = Value.int _ _ from rfl) ?_)
    refine WL.c rfl (o_mvh (show _ = Value.int _ _ from rfl) ?_)
    refine WL.c rfl (o_maxI rfl rfl ?_)
    refine WL.c rfl (o_ash (show _ = Value.int _ _ from rfl) ?_)
    refine WL.nil ?_
    refine W.ret ?_
    refine ret1v rfl (show _ = Value.int _ _ from rfl) ?_
    exact ⟨⟨_, rfl, by split <;> omega, by split <;> omega⟩, rfl⟩
  · try simp only [decide_eq_true_eq, decide_eq_false_iff_not, Bool.not_eq_true', Bool.not_eq_false', Bool.and_eq_true, Bool.or_eq_true, Bool.and_eq_false_iff, Bool.or_eq_false_iff] at c16
    refine W.skip ?_
    refine W.seq ?_
    refine W.region ?_
    refine WL.c rfl (o_mvh (show _ = Value.int _ _ from rfl) ?_)
    refine WL.c rfl (o_mvh (show _ = Value.int _ _ from rfl) ?_)
    refine WL.c rfl (o_subi rfl rfl (by omega) ?_)
    refine WL.c rfl (o_addi rfl rfl (by omega) ?_)
    refine WL.c rfl (o_ash (show _ = Value.int _ _ from rfl) ?_)
    refine WL.nil ?_
    refine W.seq ?_
    refine W.region ?_
    refine WL.c rfl (o_mvh (show _ = Value.int _ _ from rfl) ?_)
    refine WL.c rfl (o_mvh (show _ = Value.int _ _ from rfl) ?_)
    refine WL.c rfl (o_remI rfl rfl (by omega) ?_)
    refine WL.c rfl (o_ash (show _ = Value.int _ _ from rfl) ?_)
    refine WL.nil ?_
    refine W.seq ?_
    refine W.seq ?_
    refine W.region ?_
    refine WL.c rfl (o_mvh (show _ = Value.int _ _ from rfl) ?_)
    refine WL.c rfl (o_lt rfl rfl ?_)
    refine WL.nil ?_
    refine W.cut (fun e1 w1 => ∃ y, e1 0 = .int .i64 y ∧ e1 1 = .int .i64 lo ∧ 0 ≤ y ∧ y ≤ hi - lo ∧ w1 = w15) ?_ ?_
    · -- both ways
      refine W.cond rfl (fun c28 => ?_) (fun c28 => ?_)
      · try simp only [decide_eq_true_eq, decide_eq_false_iff_not, Bool.not_eq_true', Bool.not_eq_false', Bool.and_eq_true, Bool.or_eq_true, Bool.and_eq_false_iff, Bool.or_eq_false_iff] at c28
        refine W.region ?_
        refine WL.c rfl (o_mvh (show _ = Value.int _ _ from rfl) ?_)
        refine WL.c rfl (o_mvh (show _ = Value.int _ _ from rfl) ?_)
        refine WL.c rfl (o_addi rfl rfl (by have h4 := tmod_lim x (show 0 < hi - lo + 1 by omega); omega) ?_)
        refine WL.c rfl (o_ash (show _ = Value.int _ _ from rfl) ?_)
        refine WL.nil ?_
        first | exact ⟨_, rfl, rfl, by have h4 := tmod_lim x (show 0 < hi - lo + 1 by omega); omega, by have h4 := tmod_lim x (show 0 < hi - lo + 1 by omega); omega, rfl⟩
      · try simp only [decide_eq_true_eq, decide_eq_false_iff_not, Bool.not_eq_true', Bool.not_eq_false', Bool.and_eq_true, Bool.or_eq_true, Bool.and_eq_false_iff, Bool.or_eq_false_iff] at c28
        refine W.skip ?_
        first | exact ⟨_, rfl, rfl, by have h4 := tmod_lim x (show 0 < hi - lo + 1 by omega); omega, by have h4 := tmod_lim x (show 0 < hi - lo + 1 by omega); omega, rfl⟩
    rintro e w ⟨y, h0, h1, hy0, hy1, hw1⟩
    refine W.seq ?_
    subst hw1
    refine W.region ?_
    refine WL.c rfl (o_mvh h1 ?_)
    refine WL.c rfl (o_mvh h0 ?_)
    refine WL.c rfl (o_addi rfl rfl (by omega) ?_)
    refine WL.c rfl (o_ash (show _ = Value.int _ _ from rfl) ?_)
    refine WL.nil ?_
    refine W.ret ?_
    refine ret1v rfl (show _ = Value.int _ _ from rfl) ?_
    exact ⟨⟨_, rfl, by omega, by omega⟩, rfl⟩
set_option maxHeartbeats 4000000 in
theorem made1_spec (p : Pg) (cv ev_ : Value) (c : UInt8) (x : Int) (w0 : World) (hp : PgR w0 p cv ev_) (hx_ : -9223372036854775808 ≤ x ∧ x ≤ 9223372036854775807) (hnc : 1 ≤ p.code.length ∧ p.code.length ≤ 1000000) (hne : 1 ≤ p.ent.length ∧ p.ent.length ≤ 1000000) : Ca Tryd.prog 41 #[.agg (pgV p cv ev_).toArray, bv c, .int .i64 x] w0 (fun r w' => ∃ q, r = .int .i64 q ∧ madN p.code.length p.ent.length c.toNat q ∧ Ext w0 w') := by
  have h1 := hp.one.2.2.1
  have h2 := hp.one.2.2.2
  refine Ca.of Tryd.func41 Tryd.ntmps41 rfl rfl ?_
  refine W.seq ?_
  refine W.region ?_
  refine WL.c rfl (o_boxB rfl ?_)
  intro w3 hC3 hx3 hs3
  obtain ⟨b3, hb3⟩ : ∃ b, b = w0.heap.size := ⟨_, rfl⟩
  rw [← hb3] at hC3 ⊢
  replace hC3 : w3.heap[b3]? = some (.cells (pgV p cv ev_).toArray 26 (0, 0)) := hC3
  have hx : Ext w0 w3 := hx3
  refine WL.c rfl (o_ash (show _ = Value.int _ _ from rfl) ?_)
  refine WL.nil ?_
  refine W.seq ?_
  refine W.seq ?_
  refine W.region ?_
  refine WL.c rfl (o_mvh (show _ = Value.int _ _ from rfl) ?_)
  refine WL.nil ?_
  refine W.block ?_
  refine W.seq ?_
  refine W.seq ?_
  refine W.region ?_
  refine WL.c rfl (o_eq rfl rfl ?_)
  refine WL.c rfl (o_ash (show _ = Value.bool _ from rfl) ?_)
  refine WL.nil ?_
  refine W.cut (fun e1 w1 => e1 8 = .bool (decide (c.toNat = 107 ∨ c.toNat = 112)) ∧ e1 0 = .agg (pgV p cv ev_).toArray ∧ e1 2 = .int .i64 x ∧ e1 3 = .pointer (some ⟨b3, 0, none⟩) ∧ e1 7 = bv c ∧ w1 = w3) ?_ ?_
  · -- both ways
    refine W.cond rfl (fun c8 => ?_) (fun c8 => ?_)
    · try simp only [decide_eq_true_eq, decide_eq_false_iff_not, Bool.not_eq_true', Bool.not_eq_false', Bool.and_eq_true, Bool.or_eq_true, Bool.and_eq_false_iff, Bool.or_eq_false_iff] at c8
      refine W.skip ?_
      first | exact ⟨congrArg Value.bool (decide_eq_decide.2 (by omega)), rfl, rfl, rfl, rfl, rfl⟩
    · try simp only [decide_eq_true_eq, decide_eq_false_iff_not, Bool.not_eq_true', Bool.not_eq_false', Bool.and_eq_true, Bool.or_eq_true, Bool.and_eq_false_iff, Bool.or_eq_false_iff] at c8
      refine W.region ?_
      refine WL.c rfl (o_eq rfl rfl ?_)
      refine WL.c rfl (o_ash (show _ = Value.bool _ from rfl) ?_)
      refine WL.nil ?_
      first | exact ⟨congrArg Value.bool (decide_eq_decide.2 (by omega)), rfl, rfl, rfl, rfl, rfl⟩
  rintro e w ⟨h8, h0, h2, h3, h7, hw1⟩
  refine W.cond h8 (fun c8 => ?_) (fun c8 => ?_)
  · try simp only [decide_eq_true_eq, decide_eq_false_iff_not, Bool.not_eq_true', Bool.not_eq_false', Bool.and_eq_true, Bool.or_eq_true, Bool.and_eq_false_iff, Bool.or_eq_false_iff] at c8
    refine W.seq ?_
    subst hw1
    refine W.region ?_
    refine WL.c rfl (o_mvh h2 ?_)
    refine WL.c rfl (o_call Tryd.call39 (lc rfl (lc rfl (lc rfl ln))) ((brought_spec x (-1) (63) _ hx_ (by omega) (by omega) (by omega)).mono ?_))
    rintro v12 w12 ⟨⟨q, rfl, hq0, hq1⟩, rfl⟩
    refine WL.c rfl (o_ash (show _ = Value.int _ _ from rfl) ?_)
    refine WL.nil ?_
    refine W.ret ?_
    refine ret1v rfl (show _ = Value.int _ _ from rfl) ?_
    refine ⟨_, rfl, ?_, hx⟩
    unfold madN
    repeat (first | rw [if_neg (by omega)] | rw [if_pos (by omega)])
    all_goals first | rfl | omega | (split <;> omega) | (refine ⟨?_, ?_⟩ <;> first | omega | (split <;> omega)) | (simp; omega)
  · try simp only [decide_eq_true_eq, decide_eq_false_iff_not, Bool.not_eq_true', Bool.not_eq_false', Bool.and_eq_true, Bool.or_eq_true, Bool.and_eq_false_iff, Bool.or_eq_false_iff] at c8
    refine W.seq ?_
    subst hw1
    refine W.region ?_
    refine WL.c rfl (o_eq h7 rfl ?_)
    refine WL.c rfl (o_ash (show _ = Value.bool _ from rfl) ?_)
    refine WL.nil ?_
    refine W.cond rfl (fun c13 => ?_) (fun c13 => ?_)
    · try simp only [decide_eq_true_eq, decide_eq_false_iff_not, Bool.not_eq_true', Bool.not_eq_false', Bool.and_eq_true, Bool.or_eq_true, Bool.and_eq_false_iff, Bool.or_eq_false_iff] at c13
      refine W.seq ?_
      refine W.region ?_
      refine WL.c rfl (o_mvh h2 ?_)
      refine WL.c rfl (o_call Tryd.call39 (lc rfl (lc rfl (lc rfl ln))) ((brought_spec x (0) (61) _ hx_ (by omega) (by omega) (by omega)).mono ?_))
      rintro v16 w16 ⟨⟨q, rfl, hq0, hq1⟩, rfl⟩
      refine WL.c rfl (o_ash (show _ = Value.int _ _ from rfl) ?_)
      refine WL.nil ?_
      refine W.ret ?_
      refine ret1v rfl (show _ = Value.int _ _ from rfl) ?_
      refine ⟨_, rfl, ?_, hx⟩
      unfold madN
      repeat (first | rw [if_neg (by omega)] | rw [if_pos (by omega)])
      all_goals first | rfl | omega | (split <;> omega) | (refine ⟨?_, ?_⟩ <;> first | omega | (split <;> omega)) | (simp; omega)
    · try simp only [decide_eq_true_eq, decide_eq_false_iff_not, Bool.not_eq_true', Bool.not_eq_false', Bool.and_eq_true, Bool.or_eq_true, Bool.and_eq_false_iff, Bool.or_eq_false_iff] at c13
      refine W.seq ?_
      refine W.region ?_
      refine WL.c rfl (o_eq h7 rfl ?_)
      refine WL.c rfl (o_ash (show _ = Value.bool _ from rfl) ?_)
      refine WL.nil ?_
      refine W.cond rfl (fun c17 => ?_) (fun c17 => ?_)
      · try simp only [decide_eq_true_eq, decide_eq_false_iff_not, Bool.not_eq_true', Bool.not_eq_false', Bool.and_eq_true, Bool.or_eq_true, Bool.and_eq_false_iff, Bool.or_eq_false_iff] at c17
        refine W.seq ?_
        refine W.region ?_
        refine WL.c rfl (o_mvh h2 ?_)
        refine WL.c rfl (o_call Tryd.call39 (lc rfl (lc rfl (lc rfl ln))) ((brought_spec x (0) (3) _ hx_ (by omega) (by omega) (by omega)).mono ?_))
        rintro v20 w20 ⟨⟨q, rfl, hq0, hq1⟩, rfl⟩
        refine WL.c rfl (o_cvN TI3 TI109 (show _ = Value.int .i64 q from rfl) (by omega) (by omega) ?_)
        refine WL.c rfl (o_shl (show _ = Value.int .i64 1 from rfl) (show _ = Value.int .u64 _ from rfl) (by omega) ?_)
        refine WL.c rfl (o_ash (show _ = Value.int _ _ from rfl) ?_)
        refine WL.nil ?_
        refine W.ret ?_
        refine ret1v rfl (show _ = Value.int _ _ from rfl) ?_
        refine ⟨_, rfl, ?_, hx⟩
        unfold madN
        repeat (first | rw [if_neg (by omega)] | rw [if_pos (by omega)])
        have hq : q = 0 ∨ q = 1 ∨ q = 2 ∨ q = 3 := by omega
        rcases hq with rfl | rfl | rfl | rfl <;> decide
      · try simp only [decide_eq_true_eq, decide_eq_false_iff_not, Bool.not_eq_true', Bool.not_eq_false', Bool.and_eq_true, Bool.or_eq_true, Bool.and_eq_false_iff, Bool.or_eq_false_iff] at c17
        refine W.seq ?_
        refine W.region ?_
        refine WL.c rfl (o_eq h7 rfl ?_)
        refine WL.c rfl (o_ash (show _ = Value.bool _ from rfl) ?_)
        refine WL.nil ?_
        refine W.cond rfl (fun c23 => ?_) (fun c23 => ?_)
        · try simp only [decide_eq_true_eq, decide_eq_false_iff_not, Bool.not_eq_true', Bool.not_eq_false', Bool.and_eq_true, Bool.or_eq_true, Bool.and_eq_false_iff, Bool.or_eq_false_iff] at c23
          refine W.seq ?_
          refine W.region ?_
          refine WL.c rfl (o_ash (show _ = Value.int _ _ from rfl) ?_)
          refine WL.nil ?_
          refine W.ret ?_
          refine ret1v rfl (show _ = Value.int _ _ from rfl) ?_
          refine ⟨_, rfl, ?_, hx⟩
          unfold madN
          repeat (first | rw [if_neg (by omega)] | rw [if_pos (by omega)])
          all_goals first | rfl | omega | (split <;> omega) | (refine ⟨?_, ?_⟩ <;> first | omega | (split <;> omega)) | (simp; omega)
        · try simp only [decide_eq_true_eq, decide_eq_false_iff_not, Bool.not_eq_true', Bool.not_eq_false', Bool.and_eq_true, Bool.or_eq_true, Bool.and_eq_false_iff, Bool.or_eq_false_iff] at c23
          refine W.seq ?_
          refine W.region ?_
          refine WL.c rfl (o_eq h7 rfl ?_)
          refine WL.c rfl (o_ash (show _ = Value.bool _ from rfl) ?_)
          refine WL.nil ?_
          refine W.cond rfl (fun c25 => ?_) (fun c25 => ?_)
          · try simp only [decide_eq_true_eq, decide_eq_false_iff_not, Bool.not_eq_true', Bool.not_eq_false', Bool.and_eq_true, Bool.or_eq_true, Bool.and_eq_false_iff, Bool.or_eq_false_iff] at c25
            refine W.seq ?_
            refine W.region ?_
            refine WL.c rfl (o_mvh h2 ?_)
            refine WL.c rfl (o_call Tryd.call39 (lc rfl (lc rfl (lc rfl ln))) ((brought_spec x (4) (400) _ hx_ (by omega) (by omega) (by omega)).mono ?_))
            rintro v28 w28 ⟨⟨q, rfl, hq0, hq1⟩, rfl⟩
            refine WL.c rfl (o_ash (show _ = Value.int _ _ from rfl) ?_)
            refine WL.nil ?_
            refine W.ret ?_
            refine ret1v rfl (show _ = Value.int _ _ from rfl) ?_
            refine ⟨_, rfl, ?_, hx⟩
            unfold madN
            repeat (first | rw [if_neg (by omega)] | rw [if_pos (by omega)])
            all_goals first | rfl | omega | (split <;> omega) | (refine ⟨?_, ?_⟩ <;> first | omega | (split <;> omega)) | (simp; omega)
          · try simp only [decide_eq_true_eq, decide_eq_false_iff_not, Bool.not_eq_true', Bool.not_eq_false', Bool.and_eq_true, Bool.or_eq_true, Bool.and_eq_false_iff, Bool.or_eq_false_iff] at c25
            refine W.seq ?_
            refine W.region ?_
            refine WL.c rfl (o_eq h7 rfl ?_)
            refine WL.c rfl (o_ash (show _ = Value.bool _ from rfl) ?_)
            refine WL.nil ?_
            refine W.cond rfl (fun c29 => ?_) (fun c29 => ?_)
            · try simp only [decide_eq_true_eq, decide_eq_false_iff_not, Bool.not_eq_true', Bool.not_eq_false', Bool.and_eq_true, Bool.or_eq_true, Bool.and_eq_false_iff, Bool.or_eq_false_iff] at c29
              refine W.seq ?_
              refine W.region ?_
              refine WL.c rfl (o_mvh h2 ?_)
              refine WL.c rfl (o_call Tryd.call39 (lc rfl (lc rfl (lc rfl ln))) ((brought_spec x (1) (1048576) _ hx_ (by omega) (by omega) (by omega)).mono ?_))
              rintro v32 w32 ⟨⟨q, rfl, hq0, hq1⟩, rfl⟩
              refine WL.c rfl (o_ash (show _ = Value.int _ _ from rfl) ?_)
              refine WL.nil ?_
              refine W.ret ?_
              refine ret1v rfl (show _ = Value.int _ _ from rfl) ?_
              refine ⟨_, rfl, ?_, hx⟩
              unfold madN
              repeat (first | rw [if_neg (by omega)] | rw [if_pos (by omega)])
              all_goals first | rfl | omega | (split <;> omega) | (refine ⟨?_, ?_⟩ <;> first | omega | (split <;> omega)) | (simp; omega)
            · try simp only [decide_eq_true_eq, decide_eq_false_iff_not, Bool.not_eq_true', Bool.not_eq_false', Bool.and_eq_true, Bool.or_eq_true, Bool.and_eq_false_iff, Bool.or_eq_false_iff] at c29
              refine W.seq ?_
              refine W.region ?_
              refine WL.c rfl (o_eq h7 rfl ?_)
              refine WL.c rfl (o_ash (show _ = Value.bool _ from rfl) ?_)
              refine WL.nil ?_
              refine W.cond rfl (fun c33 => ?_) (fun c33 => ?_)
              · try simp only [decide_eq_true_eq, decide_eq_false_iff_not, Bool.not_eq_true', Bool.not_eq_false', Bool.and_eq_true, Bool.or_eq_true, Bool.and_eq_false_iff, Bool.or_eq_false_iff] at c33
                refine W.seq ?_
                refine W.region ?_
                refine WL.c rfl (o_mvh h2 ?_)
                refine WL.c rfl (o_call Tryd.call39 (lc rfl (lc rfl (lc rfl ln))) ((brought_spec x (1) (64) _ hx_ (by omega) (by omega) (by omega)).mono ?_))
                rintro v36 w36 ⟨⟨q, rfl, hq0, hq1⟩, rfl⟩
                refine WL.c rfl (o_ash (show _ = Value.int _ _ from rfl) ?_)
                refine WL.nil ?_
                refine W.ret ?_
                refine ret1v rfl (show _ = Value.int _ _ from rfl) ?_
                refine ⟨_, rfl, ?_, hx⟩
                unfold madN
                repeat (first | rw [if_neg (by omega)] | rw [if_pos (by omega)])
                all_goals first | rfl | omega | (split <;> omega) | (refine ⟨?_, ?_⟩ <;> first | omega | (split <;> omega)) | (simp; omega)
              · try simp only [decide_eq_true_eq, decide_eq_false_iff_not, Bool.not_eq_true', Bool.not_eq_false', Bool.and_eq_true, Bool.or_eq_true, Bool.and_eq_false_iff, Bool.or_eq_false_iff] at c33
                refine W.seq ?_
                refine W.region ?_
                refine WL.c rfl (o_eq h7 rfl ?_)
                refine WL.c rfl (o_ash (show _ = Value.bool _ from rfl) ?_)
                refine WL.nil ?_
                refine W.cond rfl (fun c37 => ?_) (fun c37 => ?_)
                · try simp only [decide_eq_true_eq, decide_eq_false_iff_not, Bool.not_eq_true', Bool.not_eq_false', Bool.and_eq_true, Bool.or_eq_true, Bool.and_eq_false_iff, Bool.or_eq_false_iff] at c37
                  refine W.seq ?_
                  refine W.region ?_
                  refine WL.c rfl (o_mvh h2 ?_)
                  refine WL.c rfl (o_call Tryd.call39 (lc rfl (lc rfl (lc rfl ln))) ((brought_spec x (0) (255) _ hx_ (by omega) (by omega) (by omega)).mono ?_))
                  rintro v40 w40 ⟨⟨q, rfl, hq0, hq1⟩, rfl⟩
                  refine WL.c rfl (o_ash (show _ = Value.int _ _ from rfl) ?_)
                  refine WL.nil ?_
                  refine W.ret ?_
                  refine ret1v rfl (show _ = Value.int _ _ from rfl) ?_
                  refine ⟨_, rfl, ?_, hx⟩
                  unfold madN
                  repeat (first | rw [if_neg (by omega)] | rw [if_pos (by omega)])
                  all_goals first | rfl | omega | (split <;> omega) | (refine ⟨?_, ?_⟩ <;> first | omega | (split <;> omega)) | (simp; omega)
                · try simp only [decide_eq_true_eq, decide_eq_false_iff_not, Bool.not_eq_true', Bool.not_eq_false', Bool.and_eq_true, Bool.or_eq_true, Bool.and_eq_false_iff, Bool.or_eq_false_iff] at c37
                  refine W.seq ?_
                  refine W.region ?_
                  refine WL.c rfl (o_eq h7 rfl ?_)
                  refine WL.c rfl (o_ash (show _ = Value.bool _ from rfl) ?_)
                  refine WL.nil ?_
                  refine W.cond rfl (fun c41 => ?_) (fun c41 => ?_)
                  · try simp only [decide_eq_true_eq, decide_eq_false_iff_not, Bool.not_eq_true', Bool.not_eq_false', Bool.and_eq_true, Bool.or_eq_true, Bool.and_eq_false_iff, Bool.or_eq_false_iff] at c41
                    refine W.seq ?_
                    refine W.region ?_
                    refine WL.c rfl (o_mvh h2 ?_)
                    refine WL.c rfl (o_call Tryd.call39 (lc rfl (lc rfl (lc rfl ln))) ((brought_spec x (0) (300) _ hx_ (by omega) (by omega) (by omega)).mono ?_))
                    rintro v44 w44 ⟨⟨q, rfl, hq0, hq1⟩, rfl⟩
                    refine WL.c rfl (o_ash (show _ = Value.int _ _ from rfl) ?_)
                    refine WL.nil ?_
                    refine W.ret ?_
                    refine ret1v rfl (show _ = Value.int _ _ from rfl) ?_
                    refine ⟨_, rfl, ?_, hx⟩
                    unfold madN
                    repeat (first | rw [if_neg (by omega)] | rw [if_pos (by omega)])
                    all_goals first | rfl | omega | (split <;> omega) | (refine ⟨?_, ?_⟩ <;> first | omega | (split <;> omega)) | (simp; omega)
                  · try simp only [decide_eq_true_eq, decide_eq_false_iff_not, Bool.not_eq_true', Bool.not_eq_false', Bool.and_eq_true, Bool.or_eq_true, Bool.and_eq_false_iff, Bool.or_eq_false_iff] at c41
                    refine W.seq ?_
                    refine W.region ?_
                    refine WL.c rfl (o_eq h7 rfl ?_)
                    refine WL.c rfl (o_ash (show _ = Value.bool _ from rfl) ?_)
                    refine WL.nil ?_
                    refine W.cond rfl (fun c45 => ?_) (fun c45 => ?_)
                    · try simp only [decide_eq_true_eq, decide_eq_false_iff_not, Bool.not_eq_true', Bool.not_eq_false', Bool.and_eq_true, Bool.or_eq_true, Bool.and_eq_false_iff, Bool.or_eq_false_iff] at c45
                      refine W.seq ?_
                      refine W.region ?_
                      refine WL.c rfl (o_mvh h2 ?_)
                      refine WL.c rfl (o_call Tryd.call39 (lc rfl (lc rfl (lc rfl ln))) ((brought_spec x (-1) (16777215) _ hx_ (by omega) (by omega) (by omega)).mono ?_))
                      rintro v48 w48 ⟨⟨q, rfl, hq0, hq1⟩, rfl⟩
                      refine WL.c rfl (o_ash (show _ = Value.int _ _ from rfl) ?_)
                      refine WL.nil ?_
                      refine W.ret ?_
                      refine ret1v rfl (show _ = Value.int _ _ from rfl) ?_
                      refine ⟨_, rfl, ?_, hx⟩
                      unfold madN
                      repeat (first | rw [if_neg (by omega)] | rw [if_pos (by omega)])
                      all_goals first | rfl | omega | (split <;> omega) | (refine ⟨?_, ?_⟩ <;> first | omega | (split <;> omega)) | (simp; omega)
                    · try simp only [decide_eq_true_eq, decide_eq_false_iff_not, Bool.not_eq_true', Bool.not_eq_false', Bool.and_eq_true, Bool.or_eq_true, Bool.and_eq_false_iff, Bool.or_eq_false_iff] at c45
                      refine W.seq ?_
                      refine W.region ?_
                      refine WL.c rfl (o_eq h7 rfl ?_)
                      refine WL.c rfl (o_ash (show _ = Value.bool _ from rfl) ?_)
                      refine WL.nil ?_
                      refine W.cond rfl (fun c49 => ?_) (fun c49 => ?_)
                      · try simp only [decide_eq_true_eq, decide_eq_false_iff_not, Bool.not_eq_true', Bool.not_eq_false', Bool.and_eq_true, Bool.or_eq_true, Bool.and_eq_false_iff, Bool.or_eq_false_iff] at c49
                        refine W.seq ?_
                        refine W.region ?_
                        refine WL.c rfl (o_mvh h2 ?_)
                        refine WL.c rfl (o_call Tryd.call39 (lc rfl (lc rfl (lc rfl ln))) ((brought_spec x (0) (300) _ hx_ (by omega) (by omega) (by omega)).mono ?_))
                        rintro v52 w52 ⟨⟨q, rfl, hq0, hq1⟩, rfl⟩
                        refine WL.c rfl (o_maxI rfl rfl ?_)
                        refine WL.c rfl (o_ash (show _ = Value.int _ _ from rfl) ?_)
                        refine WL.nil ?_
                        refine W.ret ?_
                        refine ret1v rfl (show _ = Value.int _ _ from rfl) ?_
                        refine ⟨_, rfl, ?_, hx⟩
                        unfold madN
                        repeat (first | rw [if_neg (by omega)] | rw [if_pos (by omega)])
                        all_goals first | rfl | omega | (split <;> omega) | (refine ⟨?_, ?_⟩ <;> first | omega | (split <;> omega)) | (simp; omega)
                      · try simp only [decide_eq_true_eq, decide_eq_false_iff_not, Bool.not_eq_true', Bool.not_eq_false', Bool.and_eq_true, Bool.or_eq_true, Bool.and_eq_false_iff, Bool.or_eq_false_iff] at c49
                        refine W.seq ?_
                        refine W.region ?_
                        refine WL.c rfl (o_eq h7 rfl ?_)
                        refine WL.c rfl (o_ash (show _ = Value.bool _ from rfl) ?_)
                        refine WL.nil ?_
                        refine W.cond rfl (fun c54 => ?_) (fun c54 => ?_)
                        · try simp only [decide_eq_true_eq, decide_eq_false_iff_not, Bool.not_eq_true', Bool.not_eq_false', Bool.and_eq_true, Bool.or_eq_true, Bool.and_eq_false_iff, Bool.or_eq_false_iff] at c54
                          refine W.seq ?_
                          refine W.region ?_
                          refine WL.c rfl (o_mvh h2 ?_)
                          refine WL.c rfl (o_call Tryd.call39 (lc rfl (lc rfl (lc rfl ln))) ((brought_spec x (1) (16777216) _ hx_ (by omega) (by omega) (by omega)).mono ?_))
                          rintro v57 w57 ⟨⟨q, rfl, hq0, hq1⟩, rfl⟩
                          refine WL.c rfl (o_ash (show _ = Value.int _ _ from rfl) ?_)
                          refine WL.nil ?_
                          refine W.ret ?_
                          refine ret1v rfl (show _ = Value.int _ _ from rfl) ?_
                          refine ⟨_, rfl, ?_, hx⟩
                          unfold madN
                          repeat (first | rw [if_neg (by omega)] | rw [if_pos (by omega)])
                          all_goals first | rfl | omega | (split <;> omega) | (refine ⟨?_, ?_⟩ <;> first | omega | (split <;> omega)) | (simp; omega)
                        · try simp only [decide_eq_true_eq, decide_eq_false_iff_not, Bool.not_eq_true', Bool.not_eq_false', Bool.and_eq_true, Bool.or_eq_true, Bool.and_eq_false_iff, Bool.or_eq_false_iff] at c54
                          refine W.seq ?_
                          refine W.region ?_
                          refine WL.c rfl (o_eq h7 rfl ?_)
                          refine WL.c rfl (o_ash (show _ = Value.bool _ from rfl) ?_)
                          refine WL.nil ?_
                          refine W.cond rfl (fun c58 => ?_) (fun c58 => ?_)
                          · try simp only [decide_eq_true_eq, decide_eq_false_iff_not, Bool.not_eq_true', Bool.not_eq_false', Bool.and_eq_true, Bool.or_eq_true, Bool.and_eq_false_iff, Bool.or_eq_false_iff] at c58
                            refine W.seq ?_
                            refine W.region ?_
                            refine WL.c rfl (o_mvh h2 ?_)
                            refine WL.c rfl (o_fa 1 TI26 rfl TI23 rfl h3 ?_)
                            refine WL.c rfl (o_ld TI23 rfl rfl (cell_of hC3 rfl) ?_)
                            refine WL.c rfl (o_lenR TI23 rfl (hp.code.ext hx) ?_)
                            refine WL.c rfl (o_subi rfl rfl (by omega) ?_)
                            refine WL.c rfl (o_call Tryd.call39 (lc rfl (lc rfl (lc rfl ln))) ((brought_spec x (0) (((p.code.length : Int) - 1)) _ hx_ (by omega) (by omega) (by omega)).mono ?_))
                            rintro v65 w65 ⟨⟨q, rfl, hq0, hq1⟩, rfl⟩
                            refine WL.c rfl (o_ash (show _ = Value.int _ _ from rfl) ?_)
                            refine WL.nil ?_
                            refine W.ret ?_
                            refine ret1v rfl (show _ = Value.int _ _ from rfl) ?_
                            refine ⟨_, rfl, ?_, hx⟩
                            unfold madN
                            repeat (first | rw [if_neg (by omega)] | rw [if_pos (by omega)])
                            all_goals first | rfl | omega | (split <;> omega) | (refine ⟨?_, ?_⟩ <;> first | omega | (split <;> omega)) | (simp; omega)
                          · try simp only [decide_eq_true_eq, decide_eq_false_iff_not, Bool.not_eq_true', Bool.not_eq_false', Bool.and_eq_true, Bool.or_eq_true, Bool.and_eq_false_iff, Bool.or_eq_false_iff] at c58
                            refine W.seq ?_
                            refine W.region ?_
                            refine WL.c rfl (o_eq h7 rfl ?_)
                            refine WL.c rfl (o_ash (show _ = Value.bool _ from rfl) ?_)
                            refine WL.nil ?_
                            refine W.cond rfl (fun c66 => ?_) (fun c66 => ?_)
                            · try simp only [decide_eq_true_eq, decide_eq_false_iff_not, Bool.not_eq_true', Bool.not_eq_false', Bool.and_eq_true, Bool.or_eq_true, Bool.and_eq_false_iff, Bool.or_eq_false_iff] at c66
                              refine W.seq ?_
                              refine W.region ?_
                              refine WL.c rfl (o_mvh h2 ?_)
                              refine WL.c rfl (o_fa 2 TI26 rfl TI24 rfl h3 ?_)
                              refine WL.c rfl (o_ld TI24 rfl rfl (cell_of hC3 rfl) ?_)
                              refine WL.c rfl (o_lenR TI24 rfl (hp.ent.ext hx) ?_)
                              refine WL.c rfl (o_subi rfl rfl (by omega) ?_)
                              refine WL.c rfl (o_call Tryd.call39 (lc rfl (lc rfl (lc rfl ln))) ((brought_spec x (0) (((p.ent.length : Int) - 1)) _ hx_ (by omega) (by omega) (by omega)).mono ?_))
                              rintro v73 w73 ⟨⟨q, rfl, hq0, hq1⟩, rfl⟩
                              refine WL.c rfl (o_ash (show _ = Value.int _ _ from rfl) ?_)
                              refine WL.nil ?_
                              refine W.ret ?_
                              refine ret1v rfl (show _ = Value.int _ _ from rfl) ?_
                              refine ⟨_, rfl, ?_, hx⟩
                              unfold madN
                              repeat (first | rw [if_neg (by omega)] | rw [if_pos (by omega)])
                              all_goals first | rfl | omega | (split <;> omega) | (refine ⟨?_, ?_⟩ <;> first | omega | (split <;> omega)) | (simp; omega)
                            · try simp only [decide_eq_true_eq, decide_eq_false_iff_not, Bool.not_eq_true', Bool.not_eq_false', Bool.and_eq_true, Bool.or_eq_true, Bool.and_eq_false_iff, Bool.or_eq_false_iff] at c66
                              refine W.skip ?_
                              refine W.seq ?_
                              refine W.region ?_
                              refine WL.c rfl (o_ash (show _ = Value.int _ _ from rfl) ?_)
                              refine WL.nil ?_
                              refine W.ret ?_
                              refine ret1v rfl (show _ = Value.int _ _ from rfl) ?_
                              refine ⟨_, rfl, ?_, hx⟩
                              unfold madN
                              repeat (first | rw [if_neg (by omega)] | rw [if_pos (by omega)])
                              all_goals first | rfl | omega | (split <;> omega) | (refine ⟨?_, ?_⟩ <;> first | omega | (split <;> omega)) | (simp; omega)
end Go.Proofs.YthlbhnefldaoiaaDoor

set_option linter.unusedSimpArgs false
set_option linter.unusedVariables false
set_option maxRecDepth 100000
namespace Go.Proofs.YthlbhnefldaoiaaDoor
open Go Go.Vc Go.RowKit Go.Proofs

def okOp (enc : Bool) (op : Int) : Prop := if enc then op = 9 ∨ op = 19 ∨ op = 20 ∨ (33 ≤ op ∧ op ≤ 47) else 1 ≤ op ∧ op ≤ 20
theorem okOp_fm {enc : Bool} {op : Int} (h : okOp enc op) : ∃ nm l0 l1 l2, fmOf enc op = some (nm, [l0, l1, l2]) := by
  have hs : ∃ f, fmOf enc op = some f := by
    unfold okOp at h
    unfold fmOf
    cases enc with
    | true =>
      simp only [if_true] at h
      by_cases h1 : op = 9 ∨ op = 19 ∨ op = 20
      · rw [if_pos h1]; exact ⟨_, List.getElem?_eq_getElem (show op.toNat < 21 by omega)⟩
      · rw [if_neg h1, if_pos ⟨rfl, by omega⟩]; exact ⟨_, List.getElem?_eq_getElem (show op.toNat - 33 < 15 by omega)⟩
    | false =>
      simp only [Bool.false_eq_true, if_false] at h
      by_cases h1 : op = 9 ∨ op = 19 ∨ op = 20
      · rw [if_pos h1]; exact ⟨_, List.getElem?_eq_getElem (show op.toNat < 21 by omega)⟩
      · rw [if_neg h1, if_neg (by rintro ⟨h, -⟩; cases h), if_pos ⟨rfl, h⟩]; exact ⟨_, List.getElem?_eq_getElem (show op.toNat < 21 by omega)⟩
  obtain ⟨⟨nm, ls⟩, hf⟩ := hs
  obtain ⟨h3, -⟩ := fmOf_three hf
  match ls, h3 with
  | [l0, l1, l2], _ => exact ⟨nm, l0, l1, l2, hf⟩
def armNm (f : List UInt8 × List UInt8) : Prop := f.1 = [117, 110, 105, 111, 110] ∨ f.1 = [99, 104, 111, 105, 99, 101]
theorem fm_un {enc : Bool} {op : Int} {f : List UInt8 × List UInt8} (h : fmOf enc op = some f) : armNm f ↔ op = 8 ∨ op = 41 := by
  have key : ∀ (k : Fin 48) (enc : Bool), (fmOf enc ((k.val : Nat) : Int)).all (fun f => decide (f.1 = [117, 110, 105, 111, 110] ∨ f.1 = [99, 104, 111, 105, 99, 101]) == decide (k.val = 8 ∨ k.val = 41)) = true := by decide +kernel
  obtain ⟨h1, h2⟩ := fmOf_op h
  obtain ⟨k, rfl⟩ : ∃ k : Nat, op = (k : Int) := ⟨op.toNat, by omega⟩
  have := key ⟨k, by omega⟩ enc
  rw [h] at this
  simp only [Option.all_some, beq_iff_eq, decide_eq_decide] at this
  unfold armNm
  rw [this]
  omega
structure FitI (nc ne : Nat) (x : Ins) (f : List UInt8 × List UInt8) : Prop where
  fa : fitP nc ne (f.2.getD 0 0) x.a
  fb : fitP nc ne (f.2.getD 1 0) x.b
  fc : fitP nc ne (f.2.getD 2 0) x.c
  more : moreP [] 0 x f.1
/-- an instruction of Made's first loop -/
def GoodI (enc : Bool) (nc ne : Nat) (x : Ins) : Prop := ∃ f, fmOf enc x.op = some f ∧ ((armNm f ∧ x.a = 0 ∧ x.b = 0 ∧ x.c = 0 ∧ f.2 = [97, 32, 32]) ∨ (¬ armNm f ∧ FitI nc ne x f))
theorem moreP_any {L : List Ins} {i : Nat} {x : Ins} {f : List UInt8 × List UInt8} (h : moreP [] 0 x f.1) (hn : ¬ armNm f) : moreP L i x f.1 := by
  unfold armNm at hn
  unfold moreP at h ⊢
  split
  · rename_i h1; rwa [if_pos h1] at h
  · rename_i h1; rw [if_neg h1] at h
    split
    · rename_i h2; rwa [if_pos h2] at h
    · rename_i h2; rw [if_neg h2] at h
      split
      · rename_i h3; rwa [if_pos h3] at h
      · first | trivial | (rw [if_neg hn]; trivial)
theorem GoodI.ok {p : Pg} {i : Nat} (h : GoodI p.enc p.code.length p.ent.length (p.code.getD i in0)) (hn : ¬ ((p.code.getD i in0).op = 8 ∨ (p.code.getD i in0).op = 41)) : OkI p i := by
  obtain ⟨f, hf, h | ⟨h1, h2⟩⟩ := h
  · exact absurd ((fm_un hf).1 h.1) hn
  · exact ⟨f, hf, h2.fa, h2.fb, h2.fc, moreP_any h2.more h1⟩
/-- .. a union, with its arms counted -/
theorem GoodI.arms {enc : Bool} {nc ne : Nat} {x : Ins} (h : GoodI enc nc ne x) (hu : x.op = 8 ∨ x.op = 41) {p : Pg} {i : Nat} (he : p.enc = enc) {k : Nat} (hx : p.code.getD i in0 = { x with a := (k : Int) }) (h1 : 1 ≤ k ∧ k ≤ 64) (ha : ArmsP p.code i k) : OkI p i := by
  obtain ⟨f, hf, ⟨g1, g2, g3, g4, g5⟩ | ⟨g1, -⟩⟩ := h
  · refine ⟨f, ?_, ?_, ?_, ?_, ?_⟩
    · rw [hx, he]; exact hf
    · rw [hx, g5]; show fitP _ _ 97 (k : Int); simp [fitP]; omega
    · rw [hx, g5]; show fitP _ _ 32 x.b; simp [fitP, g3]
    · rw [hx, g5]; show fitP _ _ 32 x.c; simp [fitP, g4]
    · rw [hx]
      unfold moreP
      unfold armNm at g1
      rw [if_neg (by rcases g1 with h | h <;> rw [h] <;> decide), if_neg (by rcases g1 with h | h <;> rw [h] <;> decide), if_neg (by rcases g1 with h | h <;> rw [h] <;> decide), if_pos g1]
      exact ha
  · exact absurd ((fm_un hf).2 hu) g1
theorem ret_ok {p : Pg} {i : Nat} (h : p.code.getD i in0 = ret0I) : OkI p i := by
  unfold OkI
  rw [h]
  refine ⟨([114, 101, 116], [32, 32, 32]), by cases p.enc <;> rfl, fitP_blank, fitP_blank, fitP_blank, by unfold moreP; rw [if_neg (by decide), if_neg (by decide), if_neg (by decide), if_neg (by decide)]; trivial⟩
/-- what Made's loop lays: of the operands made, those of a part brought together -/
def partI (nm : List UInt8) (x : Ins) : Ins := if nm = [112, 97, 114, 116] ∧ (x.a = -1 ∨ x.b = -1) then { x with a := -1, b := -1 } else x
theorem made_good {enc : Bool} {nc ne : Nat} {op A B C : Int} {nm : List UInt8} {l0 l1 l2 : UInt8} (hf : fmOf enc op = some (nm, [l0, l1, l2])) (hA : madN nc ne l0.toNat A) (hB : madN nc ne l1.toNat B) (hC : madN nc ne l2.toNat C) : GoodI enc nc ne (partI nm ⟨op, A, B, C⟩) := by
  have hm := fmOf_mem hf
  have ho : (partI nm ⟨op, A, B, C⟩).op = op := by unfold partI; split <;> rfl
  refine ⟨(nm, [l0, l1, l2]), by rw [ho]; exact hf, ?_⟩
  clear hf ho
  unfold armNm
  simp only [dTab, cTab, List.tail_cons, List.cons_append, List.nil_append, List.mem_cons, List.not_mem_nil, or_false, Prod.mk.injEq, List.cons.injEq, and_true] at hm
  rcases hm with h | h | h | h | h | h | h | h | h | h | h | h | h | h | h | h | h | h | h | h | h | h | h | h | h | h | h | h | h | h | h | h | h | h | h <;>
  · obtain ⟨rfl, rfl, rfl, rfl⟩ := h
    simp [madN] at hA hB hC
    first
    | (left; simp [partI, hA, hB, hC]; done)
    | (right
       refine ⟨by decide, ?_⟩
       unfold partI
       first
       | (rw [if_neg (by decide)]
          refine ⟨?_, ?_, ?_, ?_⟩ <;> first | (simp [fitP]; done) | (simp [fitP]; omega) | (simp [moreP]; done) | (simp [moreP]; omega) | (subst hB; simp [moreP]; omega))
       | (rw [if_neg (by simp)]
          refine ⟨?_, ?_, ?_, ?_⟩ <;> first | (simp [fitP]; done) | (simp [fitP]; omega) | (simp [moreP]; done) | (simp [moreP]; omega) | (subst hB; simp [moreP]; omega))
       | (split
          · refine ⟨?_, ?_, ?_, ?_⟩ <;> first | (simp [fitP]; done) | (simp [fitP]; omega) | (simp [moreP]; done) | (simp [moreP]; omega)
          · rename_i hn
            refine ⟨?_, ?_, ?_, ?_⟩ <;> first | (simp [fitP]; done) | (simp [fitP]; omega) | (simp [moreP]; done) | (simp [moreP]; omega) | (simp at hn; simp [moreP]; omega)))
theorem inss_setI : ∀ (L : List Ins) (i : Nat) (x : Ins), i < L.length → (inss L).take (i * 4) ++ (insV x) ++ (inss L).drop (i * 4 + 4) = inss (L.set i x)
  | [], i, x, h => absurd h (Nat.not_lt_zero i)
  | y :: L, 0, x, _ => by simp [inss, insV]
  | y :: L, i + 1, x, h => by
    have := inss_setI L i x (by simpa using h)
    have e1 : inss (y :: L) = insV y ++ inss L := by rw [inss, List.flatMap_cons]; rfl
    have e2 : inss ((y :: L).set (i + 1) x) = insV y ++ inss (L.set i x) := by rw [List.set_cons_succ, inss, List.flatMap_cons]; rfl
    rw [e1, e2, ← this, List.take_append, List.drop_append, insV_len, show (i + 1) * 4 - 4 = i * 4 by omega, show (i + 1) * 4 + 4 - 4 = i * 4 + 4 by omega, List.take_of_length_le (by rw [insV_len]; omega), List.drop_of_length_le (by rw [insV_len]; omega)]
    simp [List.append_assoc]
theorem inss_setA : ∀ (L : List Ins) (i : Nat) (h : i < L.length) (v : Int), (inss L).set (i * 4 + 1) (.int .i64 v) = inss (L.set i { L[i] with a := v })
  | [], i, h, v => absurd h (Nat.not_lt_zero i)
  | x :: L, 0, _, v => by simp [inss, insV]
  | x :: L, i + 1, h, v => by
    have := inss_setA L i (by simpa using h) v
    rw [inss, List.flatMap_cons, ← inss, List.set_append, if_neg (by rw [insV_len]; omega), insV_len, show (i + 1) * 4 + 1 - 4 = i * 4 + 1 by omega, this]
    rfl


theorem getD_set {L : List Ins} {i j : Nat} {y : Ins} (h : j ≠ i) : (L.set i y).getD j in0 = L.getD j in0 := by
  rw [List.getD_eq_getElem?_getD, List.getD_eq_getElem?_getD, List.getElem?_set_ne (by omega)]
theorem getD_setI {L : List Ins} {i : Nat} {y : Ins} (h : i < L.length) : (L.set i y).getD i in0 = y := by
  rw [List.getD_eq_getElem?_getD, List.getElem?_set_self h]; rfl
theorem ArmsP.set {L : List Ins} {i : Nat} {y : Ins} {n : Int} : ArmsP (L.set i y) i n ↔ ArmsP L i n := by
  have key : ∀ (y : Ins) (L : List Ins), ArmsP L i n → ArmsP (L.set i y) i n := fun y L h => ⟨by rw [List.length_set]; exact h.room, fun k h1 h2 => by rw [getD_set (by omega)]; exact h.arm k h1 h2, fun j k h1 h2 h3 => by rw [getD_set (by omega), getD_set (by omega)]; exact h.tags j k h1 h2 h3⟩
  refine ⟨fun h => ?_, key y L⟩
  by_cases hi : i < L.length
  · have := key (L.getD i in0) _ h
    rw [List.set_set] at this
    have e : L.set i (L.getD i in0) = L := by
      apply List.ext_getElem?
      intro j
      by_cases hj : j = i
      · subst hj; rw [List.getElem?_set_self hi, List.getD_eq_getElem?_getD, List.getElem?_eq_getElem hi]; rfl
      · rw [List.getElem?_set_ne (by omega)]
    rwa [e] at this
  · rwa [List.set_eq_of_length_le (by omega)] at h
theorem ArmsP.zero {L : List Ins} {i : Nat} (h : i < L.length) : ArmsP L i 0 := ⟨by omega, fun k h1 h2 => by omega, fun j k h1 h2 h3 => by omega⟩
theorem OkI.ent {e : Bool} {L : List Ins} {E E' : List Int} {j : Nat} (h : OkI ⟨e, L, E⟩ j) (hl : E.length = E'.length) : OkI ⟨e, L, E'⟩ j := by
  obtain ⟨f, h1, h2, h3, h4, h5⟩ := h
  refine ⟨f, h1, ?_, ?_, ?_, h5⟩
  · show fitP L.length E'.length _ _; rw [← hl]; exact h2
  · show fitP L.length E'.length _ _; rw [← hl]; exact h3
  · show fitP L.length E'.length _ _; rw [← hl]; exact h4
theorem OkI.set {e : Bool} {L : List Ins} {E : List Int} {i j : Nat} {y : Ins} (h : OkI ⟨e, L, E⟩ j) (hj : j ≠ i) (h9 : (L.getD i in0).op ≠ 9) : OkI ⟨e, L.set i y, E⟩ j := by
  obtain ⟨f, h1, h2, h3, h4, h5⟩ := h
  have eg : (L.set i y).getD j in0 = L.getD j in0 := getD_set hj
  refine ⟨f, ?_, ?_, ?_, ?_, ?_⟩
  · show fmOf e ((L.set i y).getD j in0).op = _; rw [eg]; exact h1
  · show fitP (L.set i y).length _ _ ((L.set i y).getD j in0).a; rw [eg, List.length_set]; exact h2
  · show fitP (L.set i y).length _ _ ((L.set i y).getD j in0).b; rw [eg, List.length_set]; exact h3
  · show fitP (L.set i y).length _ _ ((L.set i y).getD j in0).c; rw [eg, List.length_set]; exact h4
  · show moreP (L.set i y) j ((L.set i y).getD j in0) f.1
    rw [eg]
    replace h5 : moreP L j (L.getD j in0) f.1 := h5
    unfold moreP at h5 ⊢
    split
    · rename_i g; rwa [if_pos g] at h5
    · rename_i g; rw [if_neg g] at h5
      split
      · rename_i g2; rwa [if_pos g2] at h5
      · rename_i g2; rw [if_neg g2] at h5
        split
        · rename_i g3; rwa [if_pos g3] at h5
        · rename_i g3; rw [if_neg g3] at h5
          split
          · rename_i g4
            rw [if_pos g4] at h5
            have hk : ∀ k : Nat, 1 ≤ k → (k : Int) ≤ (L.getD j in0).a → (L.set i y).getD (j + k) in0 = L.getD (j + k) in0 := fun k k1 k2 => by
              refine getD_set (fun he => h9 ?_)
              rw [← he]; exact h5.arm k k1 k2
            exact ⟨by rw [List.length_set]; exact h5.room, fun k k1 k2 => by rw [hk k k1 k2]; exact h5.arm k k1 k2, fun a b a1 a2 a3 => by rw [hk a a1 (by omega), hk b (by omega) a3]; exact h5.tags a b a1 a2 a3⟩
          · trivial

end Go.Proofs.YthlbhnefldaoiaaDoor

set_option linter.unusedSimpArgs false
set_option linter.unusedVariables false
namespace Go.Vc
open Go Go.RowKit Go.ChangeShapes Go.WideShapes

theorem addr_add (a : Addr) (m k : Nat) : (a.add m).add k = a.add (m + k) := by
  unfold Addr.add
  by_cases hm : m = 0 <;> by_cases hk : k = 0 <;> simp [hm, hk, Nat.add_assoc]

theorem list_of {α : Type} (p : Nat → α → Prop) : ∀ n, (∀ i, i < n → ∃ o, p i o) → ∃ os : List α, os.length = n ∧ ∀ i (h : i < os.length), p i os[i]
  | 0, _ => ⟨[], rfl, fun i h => by simp at h⟩
  | n + 1, h => by
    obtain ⟨os, h1, h2⟩ := list_of p n (fun i hi => h i (by omega))
    obtain ⟨o, ho⟩ := h n (by omega)
    refine ⟨os ++ [o], by simp [h1], fun i hi => ?_⟩
    by_cases e : i < os.length
    · rw [List.getElem_append_left e]; exact h2 i e
    · simp at hi
      have e2 : i = n := by omega
      subst e2
      rw [List.getElem_append_right (by omega)]
      simpa [h1] using ho
theorem flatMap_get {α : Type} {cells : α → List Value} {s : Nat} (hlen : ∀ o, (cells o).length = s) : ∀ (os : List α) (idx : Nat) (v : Value), (os.flatMap cells)[idx]? = some v → ∃ i j, ∃ h : i < os.length, idx = i * s + j ∧ (cells os[i])[j]? = some v
  | [], idx, v, h => by simp at h
  | o :: os, idx, v, h => by
    rw [List.flatMap_cons] at h
    by_cases e : idx < s
    · rw [List.getElem?_append_left (by rw [hlen]; exact e)] at h
      exact ⟨0, idx, by simp, by omega, h⟩
    · rw [List.getElem?_append_right (by rw [hlen]; omega), hlen] at h
      obtain ⟨i, j, hi, h1, h2⟩ := flatMap_get hlen os (idx - s) v h
      refine ⟨i + 1, j, by simp; omega, ?_, by simpa using h2⟩
      rw [Nat.add_mul]; omega
/-- its weights are within reach -/
def Small {H : Type} (P : Program) (t : TypeId) (d : DataW H) : Prop := ∀ n ∈ d.weights P t, n ≤ reachBytes
theorem Small.top {H : Type} {P : Program} {ts : List TypeId} {ds : List (DataW H)} {j : Nat} {t : TypeId} {d : DataW H} (h : (DataW.weightsEach P ts ds).all (· ≤ reachBytes) = true) (ht : ts[j]? = some t) (hd : ds[j]? = some d) : Small P t d := fun n hn => by
  have := List.all_eq_true.1 h _ (DataW.weights_mem_each ht hd n hn)
  simpa using this
theorem Small.size {H : Type} {P : Program} {t e : TypeId} {elems spare : List (DataW H)} (h : Small P t (.slice elems spare)) (hu : P.underlying t = some (.slice e)) : (elems.length + spare.length) * P.bytesOf e ≤ reachBytes :=
  h _ (by simp only [DataW.weights, hu]; exact List.mem_cons_self ..)
theorem Small.part {H : Type} {P : Program} {t u : TypeId} {fs : Array Field} {parts : List (DataW H)} {i : Nat} {d : DataW H} (h : Small P t (.agg parts)) (hu : P.underlying t = some (.struct fs)) (hf : (fs.toList.map (·.type))[i]? = some u) (hd : parts[i]? = some d) : Small P u d := fun n hn =>
  h n (by simp only [DataW.weights, hu]; exact DataW.weights_mem_each hf hd n hn)
section
variable {H : Type} {enc : TypeId × Value → H} {P : Program} {W : World} {held : Bool}
theorem open_struct_len {t : TypeId} {fs : Array Field} {s : Nat} (hu : P.underlying t = some (.struct fs)) (hs : P.cellsOf t = s) {fuel : Nat} {cs : List Value} {x : DataW H × List MemPlace} (h : DataW.trod enc P W 0 (fun _ => true) held fuel t cs = some x) : cs.length = s := by
  obtain ⟨xs, n, -, -, h1, -⟩ := DataW.trod_struct hu h
  rw [h1, hs]
end
end Go.Vc

set_option linter.unusedSimpArgs false
set_option linter.unusedVariables false
set_option maxRecDepth 100000
namespace Go.Proofs.YthlbhnefldaoiaaDoor
open Go Go.Vc Go.RowKit Go.Proofs
section
variable {H : Type} {enc : TypeId × Value → H} {P : Program} {W : World} {held : Bool}
theorem open_rowsN {α : Type} {t e : TypeId} (s : Nat) (cells : α → List Value) (p : α → Prop) (hu : P.underlying t = some (.slice e)) (hs : P.cellsOf e = s) (hs0 : 0 < s) (hlen : ∀ o, (cells o).length = s)
    (hc : ∀ (n : Nat) (cs : List Value) (y : DataW H × List MemPlace), DataW.trod enc P W 0 (fun _ => true) held n e cs = some y → ∃ o, cs = cells o ∧ p o)
    {fuel : Nat} {v : Value} {x : DataW H × List MemPlace} (h : DataW.trod enc P W 0 (fun _ => true) held fuel t [v] = some x) :
    ∃ os : List α, os.length ≤ maxLen ∧ Sl W s v os.length (os.flatMap cells) ∧ ∀ o ∈ os, p o := by
  rcases DataW.trod_slice hu h with ⟨hcs, hd⟩ | ⟨a, len, cap, elems, rest, n, -, hcs, hx, -, hl, hm, hle, hel, -, -⟩
  · simp only [List.cons.injEq, and_true] at hcs
    subst hcs
    exact ⟨[], Nat.zero_le _, Sl.nil W s, fun o h => by cases h⟩
  · simp only [List.cons.injEq, and_true] at hcs
    subst hcs
    subst hx
    have key : ∀ i, i < len → ∃ o : α, (∀ j v, (cells o)[j]? = some v → W.cell? (a.add (i * s + j)) = some v) ∧ p o := by
      intro i hi
      have he := hel i hi
      rw [List.getElem?_eq_getElem (by omega), hs, Option.bind_eq_some_iff] at he
      obtain ⟨cs, h1, h2⟩ := he
      obtain ⟨-, h4, h5⟩ := World.cells?_some h1
      obtain ⟨o, ho, hp⟩ := hc n cs _ h2
      subst ho
      refine ⟨o, fun j v hj => ?_, hp⟩
      have hjs : j < s := by have := (List.getElem?_eq_some_iff.1 hj).1; rw [hlen] at this; exact this
      have := h5 j hjs
      rw [← hj, ← this, addr_add]
    obtain ⟨os, ho1, ho2⟩ := list_of _ len key
    refine ⟨os, by omega, ⟨?_, ?_⟩, fun o ho => ?_⟩
    · clear ho2 ho1
      induction os with
      | nil => simp
      | cons o os ih => rw [List.flatMap_cons, List.length_append, hlen, ih, List.length_cons, Nat.add_mul]; omega
    · by_cases h0 : len = 0
      · subst h0; exact .inl ⟨ho1, _, _, rfl⟩
      · obtain ⟨b, off, spot⟩ := a
        have h00 := (ho2 0 (by omega)).1 0 ((cells (os[0]'(by omega)))[0]'(by rw [hlen]; exact hs0)) (List.getElem?_eq_getElem _)
        have hsp : spot = none := by simpa [Addr.add] using World.cell?_spot h00
        subst hsp
        refine .inr ⟨b, off, cap, by rw [ho1], by omega, fun idx u hu => ?_⟩
        obtain ⟨i, j, hi, h1, h2⟩ := flatMap_get hlen os idx u hu
        have h3 := (ho2 i hi).1 j u h2
        rw [h1, ← h3, add_none]
    · obtain ⟨i, hi, rfl⟩ := List.getElem_of_mem ho
      exact (ho2 i hi).2
theorem open_fieldN {t u : TypeId} {fs : Array Field} {f : Field} (i off s : Nat) (hu : P.underlying t = some (.struct fs)) (hf : fs[i]? = some f) (ht : f.type = u) (ho : f.offset = off) (hs : P.cellsOf u = s) {fuel : Nat} {cs : List Value} {x : DataW H × List MemPlace}
    (h : DataW.trod enc P W 0 (fun _ => true) held fuel t cs = some x) : ∃ n y, DataW.trod enc P W 0 (fun _ => true) held n u ((cs.drop off).take s) = some y := by
  subst ht ho hs
  obtain ⟨xs, n, -, hx, -, hl, hall⟩ := DataW.trod_struct hu h
  have hi : i < fs.size := (Array.getElem?_eq_some_iff.1 hf).1
  have h1 := hall i f hf
  rw [List.getElem?_eq_getElem (by omega)] at h1
  exact ⟨n, _, h1⟩
theorem three_cells {cs : List Value} (h : cs.length = 3) : ∃ a b c, cs = [a, b, c] := by
  match cs, h with
  | [a, b, c], _ => exact ⟨a, b, c, rfl⟩

theorem fm_one {α : Type} {f : α → Value} : ∀ l : List α, (l.flatMap fun x => [f x]) = l.map f
  | [] => rfl
  | x :: l => by rw [List.flatMap_cons, fm_one l]; rfl
theorem open_i64 {n : Nat} {cs : List Value} {y : DataW H × List MemPlace} (h : DataW.trod enc Tryd.prog W 0 (fun _ => true) held n 3 cs = some y) : ∃ c : Int, cs = [.int .i64 c] ∧ (-9223372036854775808 ≤ c ∧ c ≤ 9223372036854775807) := by
  obtain ⟨k, hk, -, wk⟩ := DataW.trod_int Tryd.underlying3 h
  simp [Lit.wf, IntKind.min, IntKind.max, IntKind.signed, IntKind.bits] at wk
  exact ⟨k, hk, by omega⟩
def bI (c : Int) : Prop := -9223372036854775808 ≤ c ∧ c ≤ 9223372036854775807
structure BIns (x : Ins) : Prop where
  op : bI x.op
  a : bI x.a
  b : bI x.b
  c : bI x.c
theorem four_cells {cs : List Value} (h : cs.length = 4) : ∃ a b c d, cs = [a, b, c, d] := by
  match cs, h with
  | [a, b, c, d], _ => exact ⟨a, b, c, d, rfl⟩
theorem open_instr {n : Nat} {cs : List Value} {y : DataW H × List MemPlace} (h : DataW.trod enc Tryd.prog W 0 (fun _ => true) held n 28 cs = some y) : ∃ x : Ins, cs = insV x ∧ BIns x := by
  have hl := open_struct_len (s := 4) Tryd.underlying28 (by kernel_rfl) h
  obtain ⟨a, b, c, d, rfl⟩ := four_cells hl
  obtain ⟨n0, y0, h0⟩ := open_fieldN 0 0 1 Tryd.underlying28 rfl rfl rfl (by kernel_rfl) h
  obtain ⟨n1, y1, h1⟩ := open_fieldN 1 1 1 Tryd.underlying28 rfl rfl rfl (by kernel_rfl) h
  obtain ⟨n2, y2, h2⟩ := open_fieldN 2 2 1 Tryd.underlying28 rfl rfl rfl (by kernel_rfl) h
  obtain ⟨n3, y3, h3⟩ := open_fieldN 3 3 1 Tryd.underlying28 rfl rfl rfl (by kernel_rfl) h
  obtain ⟨k0, e0, b0⟩ := open_i64 h0
  obtain ⟨k1, e1, b1⟩ := open_i64 h1
  obtain ⟨k2, e2, b2⟩ := open_i64 h2
  obtain ⟨k3, e3, b3⟩ := open_i64 h3
  simp only [List.drop_zero, List.drop_succ_cons, List.take_succ_cons, List.take_zero, List.cons.injEq, and_true] at e0 e1 e2 e3
  exact ⟨⟨k0, k1, k2, k3⟩, by rw [e0, e1, e2, e3]; rfl, ⟨b0, b1, b2, b3⟩⟩
theorem open_instrs {fuel : Nat} {v : Value} {x : DataW H × List MemPlace} (h : DataW.trod enc Tryd.prog W 0 (fun _ => true) held fuel 23 [v] = some x) : ∃ R : List Ins, Sl W 4 v R.length (inss R) ∧ R.length ≤ 9223372036854775807 ∧ ∀ x ∈ R, BIns x := by
  obtain ⟨R, h1, h2, h3⟩ := open_rowsN 4 insV BIns Tryd.underlying23 (by kernel_rfl) (by decide) (fun _ => rfl) (fun n cs y hy => open_instr hy) h
  exact ⟨R, h2, by rw [maxLen_eq] at h1; omega, h3⟩
theorem open_intl {fuel : Nat} {v : Value} {x : DataW H × List MemPlace} (h : DataW.trod enc Tryd.prog W 0 (fun _ => true) held fuel 24 [v] = some x) : ∃ R : List Int, Sl W 1 v R.length (zs R) ∧ R.length ≤ 9223372036854775807 ∧ ∀ x ∈ R, bI x := by
  obtain ⟨R, h1, h2, h3⟩ := open_rowsN 1 (fun c : Int => [Value.int .i64 c]) bI Tryd.underlying24 (by kernel_rfl) (by decide) (fun _ => rfl) (fun n cs y hy => open_i64 hy) h
  rw [fm_one] at h2
  exact ⟨R, h2, by rw [maxLen_eq] at h1; omega, h3⟩
/-- a program that is handed in -/
structure BPg (p : Pg) : Prop where
  lc : p.code.length ≤ 9223372036854775807
  le : p.ent.length ≤ 9223372036854775807
  ins : ∀ x ∈ p.code, BIns x
  ent : ∀ x ∈ p.ent, bI x
theorem open_pg {n : Nat} {cs : List Value} {y : DataW H × List MemPlace} (h : DataW.trod enc Tryd.prog W 0 (fun _ => true) held n 26 cs = some y) : ∃ p cv ev_, cs = pgV p cv ev_ ∧ PgR W p cv ev_ ∧ BPg p := by
  have hl := open_struct_len (s := 3) Tryd.underlying26 (by kernel_rfl) h
  obtain ⟨a, b, c, rfl⟩ := three_cells hl
  obtain ⟨n0, y0, h0⟩ := open_fieldN 0 0 1 Tryd.underlying26 rfl rfl rfl (by kernel_rfl) h
  obtain ⟨n1, y1, h1⟩ := open_fieldN 1 1 1 Tryd.underlying26 rfl rfl rfl (by kernel_rfl) h
  obtain ⟨n2, y2, h2⟩ := open_fieldN 2 2 1 Tryd.underlying26 rfl rfl rfl (by kernel_rfl) h
  obtain ⟨k0, e0, -⟩ := DataW.trod_bool Tryd.underlying4 h0
  simp only [List.drop_zero, List.drop_succ_cons, List.take_succ_cons, List.take_zero] at h1 h2 e0
  obtain ⟨L, g1, g2, g3⟩ := open_instrs h1
  obtain ⟨E, g4, g5, g6⟩ := open_intl h2
  simp only [List.cons.injEq, and_true] at e0
  exact ⟨⟨k0, L, E⟩, b, c, by rw [e0]; rfl, ⟨g1, g4⟩, ⟨g2, g5, g3, g6⟩⟩
end

end Go.Proofs.YthlbhnefldaoiaaDoor
