/-
  Walks and lemmas. Written by program out of specs of mine.
-/
import Derived.WalkKit
import Derived.WalkSpells
import Derived.WalkLawsBesides
import Derived.Deep.Quiet
import Derived.StillTail
import Derived.StringKeys
import Derived.Laws.StructEq
import Derived.Laws.Externs
import Derived.Laws.Tables
import Derived.Scope
import Derived.Test.YtpbflfgigfdohaaDoorProg
import Derived.Laws.AppendOwn
import Derived.Maps.AppendAt
import Derived.Recover
import Derived.Lib.Bytealg
import Derived.SizedLaws
import Derived.ChangeArms
import Derived.ChangeSlices
import Derived.Maps.OwnSet
import Derived.Lib.Builder
import Derived.Lib.UnsafeStr
import Derived.Shelf.Strconv.Itoa0
import Derived.Shelf.Strconv.Itoa1
import Derived.Shelf.LaysM
import Derived.Shelf.Strconv.Itoa2
import Derived.Shelf.Strconv.Itoa3
import Derived.Test.YtpbflfgigfdohaaDoorRows
import Derived.ProofKit
import Derived.OpenShut
import Derived.ShutString
import Derived.ChangeOld
import Derived.Below
import Derived.JoinedCond
import Derived.SliceStrings
import Derived.Test.YtpbflfgigfdohaaDoorCards
import Derived.Test.YtpbflfgigfdohaaDoorTie
import Derived.Deep.DeepHandedRow
import Derived.Lib.LaidTab
import Derived.Test.YtpbflfgigfdohaaDoorKp4
set_option linter.unusedSimpArgs false
set_option linter.unusedVariables false
set_option maxRecDepth 100000
namespace Go.Proofs.YtpbflfgigfdohaaDoor
open Go Go.Vc Go.RowKit Go.Proofs

theorem nat_flt {D : List Df} {er at_ : Int} (h : flt D = (er, at_)) : (flt D).1 = er ∧ (flt D).2 = at_ := by rw [h]; exact ⟨rfl, rfl⟩
theorem ordR_bad {D : List Df} (h : ¬ fA D = none) : ordR D = [] := if_neg h
theorem ordR_ok {D : List Df} (h : fA D = none) : ordR D = ordN D := if_pos h

set_option maxHeartbeats 1000000 in
theorem names_order_spec (D : List Df) (dv : Value) (V : Nat → Value) (w0 : World) (hD : DefR w0 D dv V) (hlim : DOk D) : Ca Tryd.prog 13 #[.agg #[dv]] w0 (fun v w' => ∃ ov, v = .tuple #[ov, .agg #[.int .i64 (flt D).1, .int .i64 (flt D).2]] ∧ w'.ownsRow w0.heap.size 3 1 ov (ordR D).length ((ordR D).map iv) ∧ Ext w0 w') := by
 refine Ca.of Tryd.func13 Tryd.ntmps13 rfl rfl (We (Wb (Wa rfl (o_boxB rfl ?_))))
 intro w1 hC1 hx1 hs1
 obtain ⟨b1, hb1⟩ : ∃ b, b = w0.heap.size := ⟨_, rfl⟩
 rw [← hb1] at hC1 ⊢
 replace hC1 : w1.heap[b1]? = some (.cells ([dv]).toArray 24 (0, 0)) := hC1
 have hx := hx1
 replace hD := hD.ext hx1
 have hD00 := hD
 refine Wa rfl (Wg (by first | exact vS | exact rfl) ?_)
 try have h2r := h18r
 refine Wa rfl (o_alB TI32 ?_)
 have hxq := hx
 intro wb hC3 hxb hsb
 replace hx := hx.tr hxb
 replace hD := hD.ext hxb
 replace hC1 := hxb.blk hC1 (fun h => h)
 obtain ⟨c3, hc3⟩ : ∃ c, c = w1.heap.size := ⟨_, rfl⟩
 rw [← hc3] at hC3 ⊢
 replace hC3 : wb.heap[c3]? = some (.cells #[.int .i64 0, .int .i64 0] 32 (0, 0)) := hC3
 have hz3 : w0.heap.size ≤ c3 := by rw [hc3]; exact hxq.size
 clear hxq hxb
 refine Wc (We (Wb (Wa rfl (o_ldA TI24 rfl rfl (show Cells _ b1 0 [dv] from Cells.of hC1 0 _ (by simp)) rfl (Wa rfl (o_call Tryd.call33 (lc rfl ln) ((names_checked_spec D dv V _ hD hlim).mono ?_)))))))
 rintro v9 w9 ⟨pv, dpv, er, at_, rfl, hf, hcase, hdp, hx9⟩
 obtain ⟨hf1, hf2⟩ := nat_flt hf
 replace hx := hx.tr hx9
 replace hD := hD.ext hx9
 replace hC1 := hx9.blk hC1 (fun h => h)
 replace hC3 := hx9.blk hC3 (fun h => h)
 refine Wa rfl (Wf (by first | exact (show _ = Value.tuple _ from rfl) | exact rfl) (Wa rfl (o_ext rfl rfl (Wa rfl (o_ext rfl rfl (Wa rfl (o_ext rfl rfl (Wa rfl (o_alB TI32 ?_)))))))))
 intro wa hCa hxa hsa
 refine Wa rfl (Wg (by first | exact (show _ = Value.pointer _ from rfl) | exact rfl) (Wa rfl (Wg (by first | exact vS | exact rfl) (WL.u (o_stA TI32 rfl (show _ = Value.agg ([.int .i64 er, .int .i64 at_]).toArray from rfl) rfl rfl hCa rfl ?_)))))
 intro wb6 hC6 hob hsb
 have hxb := Ext.own hxa (Nat.le_refl _) hob
 obtain ⟨b6, hb6⟩ : ∃ b, b = w9.heap.size := ⟨_, rfl⟩
 rw [← hb6] at hC6 ⊢
 clear hCa hxa hsa hob hsb
 replace hx := hx.tr hxb
 replace hD := hD.ext hxb
 replace hC3 := hxb.blk hC3 (fun h => h)
 have hx6b := hxb
 clear hxb
 refine Wc (We (We (Wb (Wa rfl (Wl 0 TI32 rfl TI30 rfl rfl (Wa rfl (Wk TI30 rfl rfl (Wh hC6 rfl) (Wa rfl (o_ne rfl rfl (Wc (Wn rfl (fun c15 => ?_) (fun c15 => ?_))))))))))))
 ·try simp only [cs8] at c15
  have hne : ¬ er = 0 := by simpa using c15
  have hbad : ¬ fA D = none := by
   rcases hcase with h | h
   ·exact h.2.1
   exact absurd h.1 hne
  refine We (W.tail 2 rfl (by kernel_rfl) (WS.c rfl ((SO.o rfl (o_ldA TI32 rfl rfl (show Cells _ b6 0 [.int .i64 er, .int .i64 at_] from Cells.of hC6 0 _ (by simp)) rfl ⟨rfl, rfl⟩))) (WS.c rfl ((SO.o rfl (Wg (by first | exact vS | exact rfl) ⟨rfl, rfl⟩))) (WS.nil ?_))))
  replace hx := hx.tr (Only.drew _)
  replace hC3 : (World.drew _).heap[c3]? = some (.cells #[.int .i64 0, .int .i64 0] 32 (0, 0)) := hC3
  refine WL.u (o_stA TI32 (by first | exact h3 | rfl) (by first | exact h19 | exact (show _ = Value.agg #[.int .i64 er, .int .i64 at_] from rfl)) rfl rfl (by first | exact hR.blk hC3 (fun h => h) | exact hC3) rfl ?_)
  intro wz hCz hoz hsz
  try replace hx := hx.tr hR
  replace hx := hx.trans' hoz (fun _ h => h) (fun b hb he => by omega)
  try replace h2r := own_only h2r hoz (fun b hb he => by subst he; exact own_off h2r (hR.blk hC3 (fun h => h)) (by decide) hb)
  refine Wc (Wm (retTC rfl TI32 rfl (show _ = Value.slice none 0 0 from rfl) rfl (show Cells _ c3 0 [.int .i64 er, .int .i64 at_] from Cells.of hCz 0 _ (by simp)) rfl ?_))
  subst hb1
  exact ⟨_, by rw [hf1, hf2], by rw [ordR_bad hbad]; exact World.ownsRow_nil _ _ _ _, hx⟩
 try simp only [cs8] at c15
 have her : er = 0 := by simpa using c15
 obtain ⟨hfn, hck, pb, mb, rfl, hB9⟩ : fA D = none ∧ (chkS D).2.2 = 0 ∧ ∃ pb mb, pv = .pointer (some ⟨pb, 0, none⟩) ∧ Bk w9 pb mb D dv V := by
  rcases hcase with h | h
  ·exact absurd her h.1
  exact h.2
 have hB := hB9.ext hx6b
 have hkn := kn9_of (fA_back hfn).1 hck
 have hac := ringF_none (fA_back hfn).2.1
 refine Wp (We ?_)
 obtain ⟨wd, hwd⟩ : ∃ wd, wd = wb6.drew := ⟨_, rfl⟩
 have hxd : Ext wb6 wd := hwd ▸ Only.drew wb6
 replace hx := hx.tr hxd
 replace hB := hB.ext hxd
 replace hC3 := hxd.blk hC3 (fun h => h)
 replace hC6 := hxd.blk hC6 (fun h => h)
 have hzd : w0.heap.size ≤ wd.heap.size := hx.size
 refine W.states (fun kS e w => match kS with | 0 => e 3 = (.pointer (some ⟨c3, 0, none⟩)) ∧ e 4 = (.pointer (some ⟨pb, 0, none⟩)) ∧ e 6 = (.pointer (some ⟨b6, 0, none⟩)) ∧ Ext wd w | 1 => e 3 = (.pointer (some ⟨c3, 0, none⟩)) ∧ e 4 = (.pointer (some ⟨pb, 0, none⟩)) ∧ e 6 = (.pointer (some ⟨b6, 0, none⟩)) ∧ e 17 = (.pointer (some ⟨pb, 0, none⟩)) ∧ Ext wd w | 2 => e 3 = (.pointer (some ⟨c3, 0, none⟩)) ∧ e 4 = (.pointer (some ⟨pb, 0, none⟩)) ∧ e 6 = (.pointer (some ⟨b6, 0, none⟩)) ∧ e 19 = (.agg #[.int .i64 er, .int .i64 at_]) ∧ Ext wd w | 3 => e 3 = (.pointer (some ⟨c3, 0, none⟩)) ∧ e 4 = (.pointer (some ⟨pb, 0, none⟩)) ∧ e 6 = (.pointer (some ⟨b6, 0, none⟩)) ∧ e 17 = (.pointer (some ⟨pb, 0, none⟩)) ∧ Ext wd w ∧ w.ownsRow wd.heap.size 3 1 (e 18) (ordN D).length ((ordN D).map iv) | 4 => e 3 = (.pointer (some ⟨c3, 0, none⟩)) ∧ e 4 = (.pointer (some ⟨pb, 0, none⟩)) ∧ e 6 = (.pointer (some ⟨b6, 0, none⟩)) ∧ e 17 = (.pointer (some ⟨pb, 0, none⟩)) ∧ e 19 = (.agg #[.int .i64 er, .int .i64 at_]) ∧ Ext wd w | 5 => e 3 = (.pointer (some ⟨c3, 0, none⟩)) ∧ e 4 = (.pointer (some ⟨pb, 0, none⟩)) ∧ e 6 = (.pointer (some ⟨b6, 0, none⟩)) ∧ e 17 = (.pointer (some ⟨pb, 0, none⟩)) ∧ e 19 = (.agg #[.int .i64 er, .int .i64 at_]) ∧ Ext wd w ∧ w.ownsRow wd.heap.size 3 1 (e 18) (ordN D).length ((ordN D).map iv) | 6 => e 3 = (.pointer (some ⟨c3, 0, none⟩)) ∧ e 4 = (.pointer (some ⟨pb, 0, none⟩)) ∧ e 6 = (.pointer (some ⟨b6, 0, none⟩)) ∧ e 17 = (.pointer (some ⟨pb, 0, none⟩)) ∧ Ext wd w ∧ w.ownsRow wd.heap.size 3 1 (e 18) (ordN D).length ((ordN D).map iv) ∧ w.ownsRow wd.heap.size 3 1 (e 2) (ordN D).length ((ordN D).map iv) | 7 => e 3 = (.pointer (some ⟨c3, 0, none⟩)) ∧ e 4 = (.pointer (some ⟨pb, 0, none⟩)) ∧ e 6 = (.pointer (some ⟨b6, 0, none⟩)) ∧ e 17 = (.pointer (some ⟨pb, 0, none⟩)) ∧ e 19 = (.agg #[.int .i64 er, .int .i64 at_]) ∧ Ext wd w ∧ w.ownsRow wd.heap.size 3 1 (e 18) (ordN D).length ((ordN D).map iv) ∧ w.ownsRow wd.heap.size 3 1 (e 2) (ordN D).length ((ordN D).map iv) | 8 => e 3 = (.pointer (some ⟨c3, 0, none⟩)) ∧ e 4 = (.pointer (some ⟨pb, 0, none⟩)) ∧ e 6 = (.pointer (some ⟨b6, 0, none⟩)) ∧ e 17 = (.pointer (some ⟨pb, 0, none⟩)) ∧ e 19 = (.agg #[.int .i64 er, .int .i64 at_]) ∧ w.ownsRow wd.heap.size 3 1 (e 2) (ordN D).length ((ordN D).map iv) ∧ w.heap[c3]? = some (.cells #[.int .i64 er, .int .i64 at_] 32 (0, 0)) ∧ Ext w0 w | _ => False) ([([false, false, false, false, false], [(0, 1), (2, 2)]), ([true, false, false, false, false], [(1, 3), (2, 4)]), ([false, false, true, false, false], [(0, 4)]), ([true, true, false, false, false], [(2, 5), (3, 6)]), ([true, false, true, false, false], [(1, 5)]), ([true, true, true, false, false], [(3, 7)]), ([true, true, false, true, false], [(2, 7)]), ([true, true, true, true, false], [(4, 8)]), ([true, true, true, true, true], [])]) rfl (by kernel_rfl) rfl ⟨rfl, rfl, rfl, by rw [hwd]; exact Only.refl _ _⟩ (⟨?_, ?_, ?_, ?_, ?_, ?_, ?_, ?_, ?_, trivial⟩)
 ·-- state 0 of region 4
  rintro e w ⟨h3, h4, h6, hR⟩
  refine ⟨?_, ?_, trivial⟩
  ·skip
   refine WO.c rfl rfl (Wf h4 ?_)
   exact ⟨h3, h4, h6, rfl, hR⟩
  skip
  refine WO.c rfl rfl (o_ldA TI32 rfl h6 (show Cells _ b6 0 [.int .i64 er, .int .i64 at_] from Cells.of (hR.blk hC6 (fun h => h)) 0 _ (by simp)) rfl ?_)
  exact ⟨h3, h4, h6, rfl, hR⟩
 ·-- state 1 of region 4
  rintro e w ⟨h3, h4, h6, h17, hR⟩
  refine ⟨?_, ?_, trivial⟩
  ·skip
   refine WO.c rfl rfl (o_call Tryd.call34 (lc h17 ln) ((order_spec pb mb D dv V _ (hB.ext hR) hlim (fun i hi => uses_lt hkn hi) hac).mono ?_))
   rintro v18 w18 ⟨h18a, hx18⟩
   have h18r := own_mono h18a hR.size
   replace hR := hR.tr hx18
   exact ⟨h3, h4, h6, h17, hR, h18r⟩
  skip
  refine WO.c rfl rfl (o_ldA TI32 rfl h6 (show Cells _ b6 0 [.int .i64 er, .int .i64 at_] from Cells.of (hR.blk hC6 (fun h => h)) 0 _ (by simp)) rfl ?_)
  exact ⟨h3, h4, h6, h17, rfl, hR⟩
 ·-- state 2 of region 4
  rintro e w ⟨h3, h4, h6, h19, hR⟩
  refine ⟨?_, trivial⟩
  skip
  refine WO.c rfl rfl (Wf h4 ?_)
  exact ⟨h3, h4, h6, rfl, h19, hR⟩
 ·-- state 3 of region 4
  rintro e w ⟨h3, h4, h6, h17, hR, h18r⟩
  refine ⟨?_, ?_, trivial⟩
  ·skip
   refine WO.c rfl rfl (o_ldA TI32 rfl h6 (show Cells _ b6 0 [.int .i64 er, .int .i64 at_] from Cells.of (hR.blk hC6 (fun h => h)) 0 _ (by simp)) rfl ?_)
   exact ⟨h3, h4, h6, h17, rfl, hR, h18r⟩
  skip
  refine WO.c rfl rfl (Wo ?_)
  try have h2r := h18r
  exact ⟨h3, h4, h6, h17, hR, h18r, h2r⟩
 ·-- state 4 of region 4
  rintro e w ⟨h3, h4, h6, h17, h19, hR⟩
  refine ⟨?_, trivial⟩
  skip
  refine WO.c rfl rfl (o_call Tryd.call34 (lc h17 ln) ((order_spec pb mb D dv V _ (hB.ext hR) hlim (fun i hi => uses_lt hkn hi) hac).mono ?_))
  rintro v18 w18 ⟨h18a, hx18⟩
  have h18r := own_mono h18a hR.size
  replace hR := hR.tr hx18
  exact ⟨h3, h4, h6, h17, h19, hR, h18r⟩
 ·-- state 5 of region 4
  rintro e w ⟨h3, h4, h6, h17, h19, hR, h18r⟩
  refine ⟨?_, trivial⟩
  skip
  refine WO.c rfl rfl (Wo ?_)
  try have h2r := h18r
  exact ⟨h3, h4, h6, h17, h19, hR, h18r, h2r⟩
 ·-- state 6 of region 4
  rintro e w ⟨h3, h4, h6, h17, hR, h18r, h2r⟩
  refine ⟨?_, trivial⟩
  skip
  refine WO.c rfl rfl (o_ldA TI32 rfl h6 (show Cells _ b6 0 [.int .i64 er, .int .i64 at_] from Cells.of (hR.blk hC6 (fun h => h)) 0 _ (by simp)) rfl ?_)
  exact ⟨h3, h4, h6, h17, rfl, hR, h18r, h2r⟩
 ·-- state 7 of region 4
  rintro e w ⟨h3, h4, h6, h17, h19, hR, h18r, h2r⟩
  refine ⟨?_, trivial⟩
  skip
  refine WO.u rfl (o_stA TI32 (by first | exact h3 | rfl) (by first | exact h19 | exact (show _ = Value.agg #[.int .i64 er, .int .i64 at_] from rfl)) rfl rfl (by first | exact hR.blk hC3 (fun h => h) | exact hC3) rfl ?_)
  intro wz hCz hoz hsz
  try replace hx := hx.tr hR
  replace hx := hx.trans' hoz (fun _ h => h) (fun b hb he => by omega)
  try replace h2r := own_only h2r hoz (fun b hb he => by subst he; exact own_off h2r (hR.blk hC3 (fun h => h)) (by decide) hb)
  exact ⟨h3, h4, h6, h17, h19, ⟨h2r, hCz, hx⟩⟩
 -- state 8 of region 4
 rintro e w ⟨h3, h4, h6, h17, h19, ⟨h2r, hCz, hx⟩⟩
 refine Wm (retTC rfl TI32 rfl rfl h3 (show Cells _ c3 0 [.int .i64 er, .int .i64 at_] from Cells.of hCz 0 _ (by simp)) rfl ?_)
 subst hb1
 exact ⟨_, by rw [hf1, hf2], by rw [ordR_ok hfn]; exact own_mono h2r hzd, hx⟩
end Go.Proofs.YtpbflfgigfdohaaDoor

namespace Go.Proofs.YtpbflfgigfdohaaDoor
open Go Go.Vc Go.RowKit Go.Proofs

/-- a struct's field, or a union's arm -/
structure Pa where
 label : List UInt8
 tag : Int
 ty : Int
deriving DecidableEq
structure Tp where
 kind : Int
 n : Int
 elem : Int
 parts : List Pa
deriving DecidableEq
structure Ro where
 name : List UInt8
 ty : Int
deriving DecidableEq
def paV (p : Pa) : List Value := [st p.label, .int .i64 p.tag, .int .i64 p.ty]
def pas (L : List Pa) : List Value := L.flatMap paV
def tcell (t : Tp) (v : Value) : List Value := [.int .i64 t.kind, .int .i64 t.n, .int .i64 t.elem, v]
def roV (r : Ro) : List Value := [st r.name, .int .i64 r.ty]
def ros (L : List Ro) : List Value := L.flatMap roV
def tp0 : Tp := ⟨0, 0, 0, []⟩
def pasT (L : List Tp) (j : Nat) : List Pa := (L.getD j tp0).parts
def trows (L : List Tp) (V : Nat → Value) : List Value := (List.range L.length).flatMap fun j => tcell (L.getD j tp0) (V j)

def many7 (k : Int) : Prop := k = 7 ∨ k = 8
instance (k : Int) : Decidable (many7 k) := by unfold many7; infer_instance
mutual
/-- the number of a type expression's type, by the roots of the names; the types, with its own behind -/
def mkT (rt : List UInt8 → Int) : Tr → List Tp → Int × List Tp
 | .node y ks, L => if y.kind = 9 then (rt y.name, L) else (((mkK rt y.kind ks L 0 []).2.2.length : Int), (mkK rt y.kind ks L 0 []).2.2 ++ [⟨y.kind, y.n, (mkK rt y.kind ks L 0 []).1, (mkK rt y.kind ks L 0 []).2.1⟩])
def mkK (rt : List UInt8 → Int) (kind : Int) : Trs → List Tp → Int → List Pa → Int × List Pa × List Tp
 | .nil, L, el, ps => (el, ps, L)
 | .cons t ts, L, el, ps => if many7 kind then mkK rt kind ts (mkT rt t L).2 el (ps ++ [⟨t.top.label, t.top.tag, (mkT rt t L).1⟩]) else mkK rt kind ts (mkT rt t L).2 (mkT rt t L).1 ps
end
def upI (f : Nat → Int) (i : Nat) (v : Int) : Nat → Int := fun j => if j = i then v else f j
/-- definition behind definition: their roots, the types -/
def mkO (wh : List UInt8 → Nat) (T : Nat → Tr) : List Nat → (Nat → Int) → List Tp → (Nat → Int) × List Tp
 | [], f, L => (f, L)
 | i :: l, f, L => mkO wh T l (upI f i (mkT (fun nm => f (wh nm)) (T i) L).1) (mkT (fun nm => f (wh nm)) (T i) L).2
theorem mkO_snoc {wh : List UInt8 → Nat} {T : Nat → Tr} : ∀ (l : List Nat) (f : Nat → Int) (L : List Tp) (i : Nat), mkO wh T (l ++ [i]) f L = (upI (mkO wh T l f L).1 i (mkT (fun nm => (mkO wh T l f L).1 (wh nm)) (T i) (mkO wh T l f L).2).1, (mkT (fun nm => (mkO wh T l f L).1 (wh nm)) (T i) (mkO wh T l f L).2).2)
 | [], f, L, i => rfl
 | j :: l, f, L, i => by rw [List.cons_append, mkO, mkO_snoc l, mkO]
theorem mkO_take {wh : List UInt8 → Nat} {T : Nat → Tr} {l : List Nat} {f : Nat → Int} {L : List Tp} {k : Nat} (hk : k < l.length) : mkO wh T (l.take (k + 1)) f L = (upI (mkO wh T (l.take k) f L).1 l[k] (mkT (fun nm => (mkO wh T (l.take k) f L).1 (wh nm)) (T l[k]) (mkO wh T (l.take k) f L).2).1, (mkT (fun nm => (mkO wh T (l.take k) f L).1 (wh nm)) (T l[k]) (mkO wh T (l.take k) f L).2).2) := by
 rw [List.take_succ_eq_append_getElem hk, mkO_snoc]
/-- a node out of its bounds -/
def outB (x : Ex) : Bool := (decide (x.kind = 4) || decide (x.kind = 5)) && (decide (x.n < 1) || decide (1048576 < x.n)) || decide (255 < x.tag)
def bndN (L : List Ex) (j : Nat) : Option (Int × Int) := if outB (L.getD j ex0) then some (90, (L.getD j ex0).at_) else none
def bndD (D : List Df) (i : Nat) : Option (Int × Int) := firstN (tyD D i).length (bndN (tyD D i))
def bndF (D : List Df) : Option (Int × Int) := firstN D.length (bndD D)
def rooN (D : List Df) (f : Nat → Int) : List Ro := (List.range D.length).map (fun i => ⟨(D.getD i df0).name, f i⟩)
/-- the schema of a source that is all right -/
noncomputable def schT (D : List Df) : List Tp := (mkO (whD D) (TD D) (ordN D) (fun _ => 0) []).2
noncomputable def schR (D : List Df) : List Ro := rooN D (mkO (whD D) (TD D) (ordN D) (fun _ => 0) []).1
/-- its fault -/
noncomputable def bldF (D : List Df) : Option (Int × Int) := if (chkS D).2.2 = 0 then (fA D).or (bndF D) else some (((chkS D).2.2 : Int), 0)
noncomputable def bldT (D : List Df) : List Tp := if bldF D = none then schT D else []
noncomputable def bldR (D : List Df) : List Ro := if bldF D = none then schR D else []

end Go.Proofs.YtpbflfgigfdohaaDoor

namespace Go.Proofs.YtpbflfgigfdohaaDoor
open Go Go.Vc Go.RowKit Go.Proofs

theorem paV_len (p : Pa) : (paV p).length = 3 := rfl
theorem roV_len (r : Ro) : (roV r).length = 2 := rfl
theorem pas_snoc (L : List Pa) (x : Pa) : pas (L ++ [x]) = pas L ++ paV x := by simp [pas]
theorem ros_snoc (L : List Ro) (x : Ro) : ros (L ++ [x]) = ros L ++ roV x := by simp [ros]
/-- an element of a row that is read -/
theorem Sl.fm {α : Type} {f : α → List Value} {s : Nat} (hs : ∀ a, (f a).length = s) {w : World} {v : Value} {ts : List α} (h : Sl w s v ts.length (ts.flatMap f)) {k : Nat} (hk : k < ts.length) : ∃ b o c, v = .slice (some ⟨b, o, none⟩) ts.length c ∧ Cells w b (o + k * s) (f ts[k]) := by
 rcases h.val with ⟨hz, h0⟩ | ⟨b, o, c, rfl, hnc, hc⟩
 ·omega
 exact ⟨b, o, c, rfl, by rw [← fm_at hs ts k hk]; exact hc.sub _ _⟩
theorem Sl.paq {w : World} {v : Value} {ts : List Pa} (h : Sl w 3 v ts.length (pas ts)) {k : Nat} (hk : k < ts.length) : ∃ b o c, v = .slice (some ⟨b, o, none⟩) ts.length c ∧ Cells w b (o + k * 3) (paV ts[k]) := Sl.fm paV_len h hk
theorem Sl.roq {w : World} {v : Value} {ts : List Ro} (h : Sl w 2 v ts.length (ros ts)) {k : Nat} (hk : k < ts.length) : ∃ b o c, v = .slice (some ⟨b, o, none⟩) ts.length c ∧ Cells w b (o + k * 2) (roV ts[k]) := Sl.fm roV_len h hk
theorem tgetD_at {L : List Tp} {k : Nat} (hk : k < L.length) : L.getD k tp0 = L[k] := by simp [List.getD_eq_getElem?_getD, hk]
theorem pasT_at {L : List Tp} {k : Nat} (hk : k < L.length) : pasT L k = L[k].parts := by rw [pasT, tgetD_at hk]
theorem trows_snoc (D : List Tp) (V : Nat → Value) (d : Tp) (v : Value) : trows (D ++ [d]) (fun j => if j = D.length then v else V j) = trows D V ++ tcell d v := by
 rw [trows, List.length_append, List.length_singleton, List.range_succ, List.flatMap_append, List.flatMap_singleton, if_pos rfl]
 congr 1
 ·refine dfm_congr fun j hj => ?_
  have hj := List.mem_range.1 hj
  rw [if_neg (by omega)]
  congr 1
  simp [List.getD_eq_getElem?_getD, List.getElem?_append_left hj]
 congr 1
 simp [List.getD_eq_getElem?_getD]
theorem trows_at (D : List Tp) (V : Nat → Value) {k : Nat} (hk : k < D.length) : ((trows D V).drop (k * 4)).take 4 = tcell (D.getD k tp0) (V k) := by
 have h := fm_at (f := fun j => tcell (D.getD j tp0) (V j)) (s := 4) (fun _ => rfl) (List.range D.length) k (by simpa using hk)
 rw [trows, h, List.getElem_range]
/-- types in a row of our own, each list of parts in a block of its own -/
structure Typs (w : World) (H : Nat) (D : List Tp) (dv : Value) (V : Nat → Value) : Prop where
 row : w.ownsRow H 49 4 dv D.length (trows D V)
 tys : Many w H 66 3 D.length V (fun j => (pasT D j).length) (fun j => pas (pasT D j))
theorem Typs.only {w w' : World} {H : Nat} {D : List Tp} {dv : Value} {V : Nat → Value} {F : Nat → Prop} (h : Typs w H D dv V) (ho : Only F w w') (hn : ∀ k, DF dv V D.length k → ¬ F k) : Typs w' H D dv V :=
 ⟨own_only h.row ho (fun k hk => hn k (.inl hk)), h.tys.only ho (fun j hj k hk => hn k (.inr ⟨j, hj, hk⟩))⟩
theorem Typs.ext {w w' : World} {H : Nat} {D : List Tp} {dv : Value} {V : Nat → Value} (h : Typs w H D dv V) (ho : Ext w w') : Typs w' H D dv V := h.only ho (fun _ _ h => h)
theorem Typs.nil (w : World) (H : Nat) (V : Nat → Value) : Typs w H [] (.slice none 0 0) V := ⟨World.ownsRow_nil _ _ _ _, Many.zero⟩
/-- types that are read -/
structure TypR (w : World) (D : List Tp) (dv : Value) (V : Nat → Value) : Prop where
 row : Sl w 4 dv D.length (trows D V)
 tys : ∀ j, j < D.length → Sl w 3 (V j) (pasT D j).length (pas (pasT D j))
theorem TypR.only {w w' : World} {D : List Tp} {dv : Value} {V : Nat → Value} {F : Nat → Prop} (h : TypR w D dv V) (ho : Only F w w') (hn : ∀ k, DF dv V D.length k → ¬ F k) : TypR w' D dv V :=
 ⟨h.row.only ho (fun k hk => hn k (.inl hk)), fun j hj => (h.tys j hj).only ho (fun k hk => hn k (.inr ⟨j, hj, hk⟩))⟩
theorem TypR.ext {w w' : World} {D : List Tp} {dv : Value} {V : Nat → Value} (h : TypR w D dv V) (ho : Ext w w') : TypR w' D dv V := h.only ho (fun _ _ h => h)
theorem Typs.rd {w : World} {H : Nat} {D : List Tp} {dv : Value} {V : Nat → Value} (h : Typs w H D dv V) : TypR w D dv V := ⟨Sl.own h.row, fun j hj => Sl.own (h.tys.row j hj)⟩
theorem TypR.atk {w : World} {D : List Tp} {dv : Value} {V : Nat → Value} (h : TypR w D dv V) {k : Nat} (hk : k < D.length) : ∃ b o c, dv = .slice (some ⟨b, o, none⟩) D.length c ∧ Cells w b (o + k * 4) (tcell D[k] (V k)) ∧ Sl w 3 (V k) D[k].parts.length (pas D[k].parts) := by
 have h3 := h.tys k hk
 rw [pasT_at hk] at h3
 rcases h.row.val with ⟨hz, h0⟩ | ⟨b, o, c, rfl, hnc, hc⟩
 ·omega
 exact ⟨b, o, c, rfl, by rw [← tgetD_at hk, ← trows_at D V hk]; exact hc.sub _ _, h3⟩
/-- a schema that is read: its types, its roots -/
structure SchR (w : World) (L : List Tp) (R : List Ro) (tv rv : Value) (V : Nat → Value) : Prop where
 ty : TypR w L tv V
 ro : Sl w 2 rv R.length (ros R)
theorem SchR.ext {w w' : World} {L : List Tp} {R : List Ro} {tv rv : Value} {V : Nat → Value} (h : SchR w L R tv rv V) (ho : Ext w w') : SchR w' L R tv rv V := ⟨h.ty.ext ho, h.ro.ext ho⟩
/-- sizes that a machine can hold -/
structure SOk (L : List Tp) (R : List Ro) : Prop where
 len : L.length * 48 ≤ 140737488351232
 pa : ∀ t ∈ L, t.parts.length * 32 ≤ 140737488351232
 ro : R.length * 24 ≤ 140737488351232
 lb : ∀ t ∈ L, ∀ p ∈ t.parts, p.label.length ≤ 9223372036854775807
 nm : ∀ r ∈ R, r.name.length ≤ 9223372036854775807
/-- a schema of ours -/
structure Schs (w : World) (H : Nat) (L : List Tp) (R : List Ro) (tv rv : Value) (V : Nat → Value) : Prop where
 ty : Typs w H L tv V
 ro : w.ownsRow H 51 2 rv R.length (ros R)
theorem Schs.rd {w : World} {H : Nat} {L : List Tp} {R : List Ro} {tv rv : Value} {V : Nat → Value} (h : Schs w H L R tv rv V) : SchR w L R tv rv V := ⟨h.ty.rd, Sl.own h.ro⟩
theorem Schs.ext {w w' : World} {H : Nat} {L : List Tp} {R : List Ro} {tv rv : Value} {V : Nat → Value} (h : Schs w H L R tv rv V) (ho : Ext w w') : Schs w' H L R tv rv V := ⟨h.ty.ext ho, Wr h.ro ho⟩

end Go.Proofs.YtpbflfgigfdohaaDoor

namespace Go.Proofs.YtpbflfgigfdohaaDoor
open Go Go.Vc Go.RowKit Go.Proofs

def numOk (kind n : Int) : Prop := if kind = 1 then n = 1 ∨ n = 2 ∨ n = 4 ∨ n = 8 else if kind = 4 ∨ kind = 5 then 1 ≤ n ∧ n ≤ 1048576 else n = 0
/-- a part: its label or tag, its type; none ahead of it is like it -/
def paOk (t : Tp) (at_ : Int) (k : Nat) : Prop := ∃ hk : k < t.parts.length,
 (if t.kind = 8 then nameB t.parts[k].label = true ∧ t.parts[k].tag = 0 else t.parts[k].label = [] ∧ 0 ≤ t.parts[k].tag ∧ t.parts[k].tag ≤ 255) ∧ 0 ≤ t.parts[k].ty ∧ t.parts[k].ty < at_ ∧
 ∀ j (hj : j < k), ¬ (t.parts[j].label = t.parts[k].label ∧ t.parts[j].tag = t.parts[k].tag)
def partsOk (t : Tp) (at_ : Int) : Prop := 1 ≤ t.parts.length ∧ t.parts.length ≤ 64 ∧ ∀ k, k < t.parts.length → paOk t at_ k
def tpOk (t : Tp) (at_ : Int) : Prop := numOk t.kind t.n ∧
 (if t.kind = 1 ∨ t.kind = 2 ∨ t.kind = 3 then t.elem = 0 ∧ t.parts = []
  else if t.kind = 4 ∨ t.kind = 5 ∨ t.kind = 6 then 0 ≤ t.elem ∧ t.elem < at_ ∧ t.parts = []
  else (t.kind = 7 ∨ t.kind = 8) ∧ t.elem = 0 ∧ partsOk t at_)
open Classical in
noncomputable def tpF (L : List Tp) : Option (Int × Int) := firstN L.length fun i => if tpOk (L.getD i tp0) (i : Int) then none else some (92, (i : Int))
/-- how deep a type is, by the depths of those ahead -/
def dpT1 (t : Tp) (d : List Nat) : Nat := t.parts.foldl (fun m p => max m (d.getD p.ty.toNat 0)) (if t.kind = 4 ∨ t.kind = 5 ∨ t.kind = 6 then d.getD t.elem.toNat 0 else 0) + 1
def depL : List Tp → List Nat → List Nat
 | [], d => d
 | t :: L, d => depL L (d ++ [dpT1 t d])
theorem depL_snoc : ∀ (L : List Tp) (t : Tp) (d : List Nat), depL (L ++ [t]) d = depL L d ++ [dpT1 t (depL L d)]
 | [], t, d => rfl
 | a :: L, t, d => by rw [List.cons_append, depL, depL_snoc L, depL]
theorem depL_len : ∀ (L : List Tp) (d : List Nat), (depL L d).length = d.length + L.length
 | [], d => rfl
 | a :: L, d => by rw [depL, depL_len L, List.length_append]; simp; omega
theorem depL_take {L : List Tp} {k : Nat} (hk : k < L.length) : depL (L.take (k + 1)) [] = depL (L.take k) [] ++ [dpT1 L[k] (depL (L.take k) [])] := by
 rw [List.take_succ_eq_append_getElem hk, depL_snoc]
theorem depL_app : ∀ (L M : List Tp) (d : List Nat), depL (L ++ M) d = depL M (depL L d)
 | [], M, d => rfl
 | a :: L, M, d => by rw [List.cons_append, depL, depL_app L, depL]
theorem depL_pre : ∀ (M : List Tp) (d : List Nat), ∃ r, depL M d = d ++ r
 | [], d => ⟨[], by simp [depL]⟩
 | a :: M, d => by
  obtain ⟨r, hr⟩ := depL_pre M (d ++ [dpT1 a d])
  exact ⟨dpT1 a d :: r, by rw [depL, hr, List.append_assoc]; rfl⟩
/-- the depth of a type among all -/
def dpI (L : List Tp) (i : Nat) : Nat := (depL L []).getD i 0
theorem depL_take_eq (L : List Tp) (k : Nat) (hk : k ≤ L.length) : depL (L.take k) [] = (depL L []).take k := by
 obtain ⟨r, hr⟩ := depL_pre (L.drop k) (depL (L.take k) [])
 rw [← depL_app, List.take_append_drop] at hr
 rw [hr, List.take_left' (by rw [depL_len]; simp; omega)]
theorem dpI_at {L : List Tp} {i : Nat} (hi : i < L.length) : dpI L i = dpT1 L[i] (depL (L.take i) []) := by
 have h1 := depL_take hi
 have h2 := depL_take_eq L (i + 1) (by omega)
 unfold dpI
 have hl : (depL (L.take i) []).length = i := by rw [depL_len]; simp; omega
 have h3 : ((depL L []).take (i + 1))[i]? = some (dpT1 L[i] (depL (L.take i) [])) := by
  rw [← h2, h1, List.getElem?_append_right (by omega), hl]; simp
 rw [List.getElem?_take] at h3
 simp at h3
 rw [List.getD_eq_getElem?_getD, h3]; rfl
def dpF (L : List Tp) : Option (Int × Int) := firstN L.length fun i => if 64 < dpI L i then some (83, (i : Int)) else none
def ro0 : Ro := ⟨[], 0⟩
/-- a root: its name, unlike those ahead; its type; its number -/
def roOk (n : Nat) (R : List Ro) (i : Nat) : Prop := i < 256 ∧ nameB (R.getD i ro0).name = true ∧ 0 ≤ (R.getD i ro0).ty ∧ (R.getD i ro0).ty < (n : Int) ∧ ∀ j, j < i → (R.getD j ro0).name ≠ (R.getD i ro0).name
open Classical in
noncomputable def roF (n : Nat) (R : List Ro) : Option (Int × Int) := firstN R.length fun i => if roOk n R i then none else some (92, (n : Int) + (i : Int))
noncomputable def scF (L : List Tp) (R : List Ro) : Option (Int × Int) := (tpF L).or ((dpF L).or (roF L.length R))
def whR (R : List Ro) (nm : List UInt8) : Option Nat := R.findIdx? (fun r => decide (r.name = nm))

end Go.Proofs.YtpbflfgigfdohaaDoor

namespace Go.Proofs.YtpbflfgigfdohaaDoor
open Go Go.Vc Go.RowKit Go.Proofs

/-- how many nodes are no names -/
def cntN (L : List Ex) : Nat := (L.filter (fun x => decide (x.kind ≠ 9))).length
theorem cntN_app (L M : List Ex) : cntN (L ++ M) = cntN L + cntN M := by simp [cntN]
mutual
theorem mkT_pre (rt : List UInt8 → Int) : ∀ (t : Tr) (L : List Tp), t.leafy → ∃ M, (mkT rt t L).2 = L ++ M ∧ M.length = cntN t.flat
 | .node y ks, L, h => by
  obtain ⟨h9, hl⟩ := h
  unfold mkT
  split
  ·rename_i hk
   have := h9 hk
   subst this
   exact ⟨[], by simp, by simp [Tr.flat, Trs.flat, cntN, hk]⟩
  rename_i hk
  obtain ⟨M, h1, h2⟩ := mkK_pre rt y.kind ks L 0 [] hl
  refine ⟨M ++ [⟨y.kind, y.n, (mkK rt y.kind ks L 0 []).1, (mkK rt y.kind ks L 0 []).2.1⟩], by show (mkK rt y.kind ks L 0 []).2.2 ++ _ = _; rw [h1, List.append_assoc], ?_⟩
  rw [List.length_append, h2]
  show cntN ks.flat + 1 = cntN (y :: ks.flat)
  simp [cntN, hk]
theorem mkK_pre (rt : List UInt8 → Int) (kind : Int) : ∀ (ts : Trs) (L : List Tp) (el : Int) (ps : List Pa), ts.leafy → ∃ M, (mkK rt kind ts L el ps).2.2 = L ++ M ∧ M.length = cntN ts.flat
 | .nil, L, el, ps, _ => ⟨[], by simp [mkK], rfl⟩
 | .cons t ts, L, el, ps, h => by
  obtain ⟨M, h1, h2⟩ := mkT_pre rt t L h.1
  have key : ∀ el ps, ∃ N, (mkK rt kind ts (mkT rt t L).2 el ps).2.2 = L ++ N ∧ N.length = cntN (Trs.cons t ts).flat := fun el ps => by
   obtain ⟨N, h3, h4⟩ := mkK_pre rt kind ts (mkT rt t L).2 el ps h.2
   refine ⟨M ++ N, by rw [h3, h1, List.append_assoc], ?_⟩
   rw [List.length_append, h2, h4]
   show _ = cntN (t.flat ++ ts.flat)
   rw [cntN_app]
  unfold mkK
  split
  ·exact key _ _
  exact key _ _
end
/-- parts, so far -/
def PsOk (kind : Int) (n : Int) (ps : List Pa) : Prop := ∀ k (hk : k < ps.length), (if kind = 8 then nameB ps[k].label = true ∧ ps[k].tag = 0 else ps[k].label = [] ∧ 0 ≤ ps[k].tag ∧ ps[k].tag ≤ 255) ∧ 0 ≤ ps[k].ty ∧ ps[k].ty < n ∧ ∀ j (hj : j < k), ¬ (ps[j].label = ps[k].label ∧ ps[j].tag = ps[k].tag)
theorem PsOk.mono {kind n m : Int} {ps : List Pa} (h : PsOk kind n ps) (hm : n ≤ m) : PsOk kind m ps := fun k hk => by
 obtain ⟨h1, h2, h3, h4⟩ := h k hk
 exact ⟨h1, h2, by omega, h4⟩
theorem PsOk.nil (kind n : Int) : PsOk kind n [] := fun k hk => by simp at hk
theorem PsOk.snoc {kind n : Int} {ps : List Pa} {p : Pa} (h : PsOk kind n ps) (h1 : if kind = 8 then nameB p.label = true ∧ p.tag = 0 else p.label = [] ∧ 0 ≤ p.tag ∧ p.tag ≤ 255) (h2 : 0 ≤ p.ty) (h3 : p.ty < n) (h4 : ∀ q ∈ ps, ¬ (q.label = p.label ∧ q.tag = p.tag)) : PsOk kind n (ps ++ [p]) := fun k hk => by
 have hl : (ps ++ [p]).length = ps.length + 1 := by simp
 rcases Nat.lt_or_ge k ps.length with hk1 | hk1
 ·obtain ⟨g1, g2, g3, g4⟩ := h k hk1
  refine ⟨?_, ?_, ?_, fun j hj => ?_⟩
  ·rw [List.getElem_append_left hk1]; exact g1
  ·rw [List.getElem_append_left hk1]; exact g2
  ·rw [List.getElem_append_left hk1]; exact g3
  rw [List.getElem_append_left hk1, List.getElem_append_left (by omega)]; exact g4 j hj
 have e : k = ps.length := by omega
 subst e
 have ee : (ps ++ [p])[ps.length] = p := by simp
 refine ⟨by rw [ee]; exact h1, by rw [ee]; exact h2, by rw [ee]; exact h3, fun j hj => ?_⟩
 rw [ee, List.getElem_append_left hj]
 exact h4 _ (List.getElem_mem hj)
/-- a list of types that are right, none deeper than 64 -/
structure LOk (L : List Tp) : Prop where
 ok : ∀ i (hi : i < L.length), tpOk L[i] (i : Int)
 dp : ∀ i, i < L.length → dpI L i ≤ 64
theorem dpI_app {L M : List Tp} {i : Nat} (hi : i < L.length) : dpI (L ++ M) i = dpI L i := by
 obtain ⟨r, hr⟩ := depL_pre M (depL L [])
 unfold dpI
 rw [depL_app, hr, List.getD_eq_getElem?_getD, List.getD_eq_getElem?_getD, List.getElem?_append_left (by rw [depL_len]; simpa using hi)]
theorem dpI_last (L : List Tp) (t : Tp) : dpI (L ++ [t]) L.length = dpT1 t (depL L []) := by
 unfold dpI
 rw [depL_snoc, List.getD_eq_getElem?_getD, List.getElem?_append_right (by rw [depL_len]; simp), depL_len]
 simp
theorem LOk.nil : LOk [] := ⟨fun i hi => by simp at hi, fun i hi => by simp at hi⟩
theorem LOk.snoc {L : List Tp} {t : Tp} (h : LOk L) (h1 : tpOk t (L.length : Int)) (h2 : dpT1 t (depL L []) ≤ 64) : LOk (L ++ [t]) := by
 refine ⟨fun i hi => ?_, fun i hi => ?_⟩
 ·rcases Nat.lt_or_ge i L.length with hk | hk
  ·rw [List.getElem_append_left hk]; exact h.ok i hk
  have e : i = L.length := by simp at hi; omega
  subst e
  rw [List.getElem_append_right (Nat.le_refl _)]
  simpa using h1
 rcases Nat.lt_or_ge i L.length with hk | hk
 ·rw [dpI_app hk]; exact h.dp i hk
 have e : i = L.length := by simp at hi; omega
 subst e
 rw [dpI_last]; exact h2
/-- the depth of what the parts hold -/
def dpP (L : List Tp) (ps : List Pa) : Nat := ps.foldl (fun m p => max m (dpI L p.ty.toNat)) 0
theorem foldl_congr {ps : List Pa} {f g : Nat → Pa → Nat} {a : Nat} (h : ∀ p ∈ ps, ∀ m, f m p = g m p) : ps.foldl f a = ps.foldl g a := by
 induction ps generalizing a with
 | nil => rfl
 | cons p l ih => rw [List.foldl_cons, List.foldl_cons, h p (List.mem_cons_self ..), ih (fun q hq => h q (List.mem_cons_of_mem _ hq))]
theorem dpP_app {L M : List Tp} {ps : List Pa} (h : ∀ p ∈ ps, 0 ≤ p.ty ∧ p.ty < (L.length : Int)) : dpP (L ++ M) ps = dpP L ps :=
 foldl_congr fun p hp m => by
  obtain ⟨h1, h2⟩ := h p hp
  rw [dpI_app (by omega)]
theorem dpP_snoc (L : List Tp) (ps : List Pa) (p : Pa) : dpP L (ps ++ [p]) = max (dpP L ps) (dpI L p.ty.toNat) := by simp [dpP]
theorem PsOk.rng {kind n : Int} {ps : List Pa} (h : PsOk kind n ps) : ∀ p ∈ ps, 0 ≤ p.ty ∧ p.ty < n := fun p hp => by
 obtain ⟨k, hk, rfl⟩ := List.getElem_of_mem hp
 obtain ⟨-, h1, h2, -⟩ := h k hk
 exact ⟨h1, h2⟩
theorem depK_ge1 {wh : List UInt8 → Nat} {dp : Nat → Nat} : ∀ (ts : Trs) (m : Nat), m ≤ depK wh dp ts m
 | .nil, m => Nat.le_refl _
 | .cons t ts, m => by unfold depK; exact Nat.le_trans (Nat.le_max_left _ _) (depK_ge1 ts _)
theorem depK_kid {wh : List UInt8 → Nat} {dp : Nat → Nat} {t : Tr} {ts : Trs} {m : Nat} : depT wh dp t ≤ depK wh dp (.cons t ts) m := by unfold depK; exact Nat.le_trans (Nat.le_max_right _ _) (depK_ge1 ts _)
theorem top_right {t : Tr} {a : Int} {d : Nat} (h : t.wf a d) : rightB t.top a = true := by cases t; exact h.2.2.1
/-- of names: their roots are types, asx deep asx they -/
def Nmd (wh : List UInt8 → Nat) (dp : Nat → Nat) (rt : List UInt8 → Int) (L : List Tp) (F : List Ex) : Prop := ∀ x ∈ F, x.kind = 9 → 0 ≤ rt x.name ∧ rt x.name < (L.length : Int) ∧ dpI L (rt x.name).toNat = dp (wh x.name)
theorem Nmd.app {wh : List UInt8 → Nat} {dp : Nat → Nat} {rt : List UInt8 → Int} {L M : List Tp} {F : List Ex} (h : Nmd wh dp rt L F) : Nmd wh dp rt (L ++ M) F := fun x hx h9 => by
 obtain ⟨h1, h2, h3⟩ := h x hx h9
 exact ⟨h1, by rw [List.length_append]; omega, by rw [dpI_app (by omega)]; exact h3⟩
mutual
theorem mkT_ok {wh : List UInt8 → Nat} {dp : Nat → Nat} {rt : List UInt8 → Int} : ∀ (t : Tr) (L : List Tp) (a : Int) (d p : Nat), t.wf a d → dupT t p = [] → (∀ x ∈ t.flat, outB x = false) → Nmd wh dp rt L t.flat → LOk L → depT wh dp t ≤ 64 →
  LOk (mkT rt t L).2 ∧ 0 ≤ (mkT rt t L).1 ∧ (mkT rt t L).1 < ((mkT rt t L).2.length : Int) ∧ dpI (mkT rt t L).2 (mkT rt t L).1.toNat = depT wh dp t
 | .node y ks, L, a, d, p, hw, hdup, hout, hnm, hL, hd => by
  by_cases hk : y.kind = 9
  ·obtain ⟨h1, h2, h3⟩ := hnm y (List.mem_cons_self ..) hk
   unfold mkT depT
   rw [if_pos hk, if_pos hk]
   exact ⟨hL, h1, h2, h3⟩
  obtain ⟨-, hmany, hr, hkids, hks⟩ := hw
  obtain ⟨hok, -, -, -⟩ := rightB_iff hr
  have hdd : depT wh dp (.node y ks) = depK wh dp ks 0 + 1 := by unfold depT; rw [if_neg hk]
  rw [hdd] at hd
  have hoy := hout y (List.mem_cons_self ..)
  have hot : ∀ x ∈ ks.flat, outB x = false := fun x hx => hout x (List.mem_cons_of_mem _ hx)
  have hnt : Nmd wh dp rt L ks.flat := fun x hx => hnm x (List.mem_cons_of_mem _ hx)
  obtain ⟨g1, g2, g3, g4, g5⟩ := mkK_ok (wh := wh) (dp := dp) (rt := rt) y.kind ks L 0 (d + 1) (p + 1) [] [] 0 hks (by rw [dupT] at hdup; exact hdup) hot hnt hL (by omega) (PsOk.nil _ _) (fun _ => rfl) (fun _ => rfl)
  have hm : mkT rt (.node y ks) L = (((mkK rt y.kind ks L 0 []).2.2.length : Int), (mkK rt y.kind ks L 0 []).2.2 ++ [⟨y.kind, y.n, (mkK rt y.kind ks L 0 []).1, (mkK rt y.kind ks L 0 []).2.1⟩]) := by rw [mkT, if_neg hk]
  rw [hm, hdd]
  obtain ⟨K, hK⟩ : ∃ K, K = mkK rt y.kind ks L 0 [] := ⟨_, rfl⟩
  rw [← hK] at g1 g3 g4 g5 ⊢
  have hdep : dpT1 ⟨y.kind, y.n, K.1, K.2.1⟩ (depL K.2.2 []) = depK wh dp ks 0 + 1 ∧ tpOk ⟨y.kind, y.n, K.1, K.2.1⟩ (K.2.2.length : Int) := by
   have hfold : ∀ (ps : List Pa) (m : Nat), ps.foldl (fun m p => max m ((depL K.2.2 []).getD p.ty.toNat 0)) m = ps.foldl (fun m p => max m (dpI K.2.2 p.ty.toNat)) m := fun ps m => rfl
   unfold dpT1
   by_cases h7 : many7 y.kind
   ·obtain ⟨q1, q2, q3⟩ := g4 h7
    have hn4 : ¬ (y.kind = 4 ∨ y.kind = 5 ∨ y.kind = 6) := by unfold many7 at h7; omega
    refine ⟨?_, ?_, ?_⟩
    ·show List.foldl _ (if y.kind = 4 ∨ y.kind = 5 ∨ y.kind = 6 then _ else 0) K.2.1 + 1 = _
     rw [if_neg hn4, hfold]
     show dpP K.2.2 K.2.1 + 1 = _
     rw [q2]
    ·show numOk y.kind y.n
     unfold numOk
     rw [if_neg (by unfold many7 at h7; omega), if_neg (by omega)]
     rcases okB_cases hok with g | g | g | g | g <;> unfold many7 at h7 <;> omega
    show (if y.kind = 1 ∨ y.kind = 2 ∨ y.kind = 3 then _ else _)
    rw [if_neg (by unfold many7 at h7; omega), if_neg (show ¬ (y.kind = 4 ∨ y.kind = 5 ∨ y.kind = 6) from hn4)]
    refine ⟨h7, q3, ?_, ?_, fun k hk2 => ⟨hk2, g3 k hk2⟩⟩
    ·show 1 ≤ K.2.1.length
     have := q1
     rcases okB_cases hok with g | g | g | g | g <;> unfold many7 at h7 <;> simp at this <;> omega
    show K.2.1.length ≤ 64
    have := (rightB_kids hr hmany).2
    simp at q1; omega
   obtain ⟨q1, q2⟩ := g5 h7
   have hp : K.2.1 = [] := q1
   rcases okB_cases hok with g | g | g | g | g
   ·have hnil : ks = .nil := trs_nil (by omega)
    subst hnil
    have hel : K.1 = 0 := by rw [hK]; rfl
    refine ⟨?_, ?_, ?_⟩
    ·show List.foldl _ (if y.kind = 4 ∨ y.kind = 5 ∨ y.kind = 6 then _ else 0) K.2.1 + 1 = _
     rw [if_neg (by omega), hp]; rfl
    ·show numOk y.kind y.n
     unfold numOk
     rw [if_pos g.1]; exact g.2.1
    show (if y.kind = 1 ∨ y.kind = 2 ∨ y.kind = 3 then _ else _)
    rw [if_pos (by omega)]; exact ⟨hel, hp⟩
   ·have hnil : ks = .nil := trs_nil (by omega)
    subst hnil
    have hel : K.1 = 0 := by rw [hK]; rfl
    refine ⟨?_, ?_, ?_⟩
    ·show List.foldl _ (if y.kind = 4 ∨ y.kind = 5 ∨ y.kind = 6 then _ else 0) K.2.1 + 1 = _
     rw [if_neg (by omega), hp]; rfl
    ·show numOk y.kind y.n
     unfold numOk
     rw [if_neg (by omega), if_neg (by omega)]; exact g.2.1
    show (if y.kind = 1 ∨ y.kind = 2 ∨ y.kind = 3 then _ else _)
    rw [if_pos (by omega)]; exact ⟨hel, hp⟩
   ·obtain ⟨t, rfl⟩ := trs_one (show ks.len = 1 by omega)
    obtain ⟨r1, r2, r3⟩ := q2 t rfl
    refine ⟨?_, ?_, ?_⟩
    ·show List.foldl _ (if y.kind = 4 ∨ y.kind = 5 ∨ y.kind = 6 then (depL K.2.2 []).getD K.1.toNat 0 else 0) K.2.1 + 1 = _
     rw [if_pos (by omega), hp]
     show dpI K.2.2 K.1.toNat + 1 = _
     rw [r3]; unfold depK depK; simp
    ·show numOk y.kind y.n
     unfold numOk
     rw [if_neg (by omega), if_pos (by omega)]
     unfold outB at hoy
     simp at hoy
     omega
    show (if y.kind = 1 ∨ y.kind = 2 ∨ y.kind = 3 then _ else _)
    rw [if_neg (by omega), if_pos (show y.kind = 4 ∨ y.kind = 5 ∨ y.kind = 6 by omega)]; exact ⟨r1, r2, hp⟩
   ·obtain ⟨t, rfl⟩ := trs_one (show ks.len = 1 by omega)
    obtain ⟨r1, r2, r3⟩ := q2 t rfl
    refine ⟨?_, ?_, ?_⟩
    ·show List.foldl _ (if y.kind = 4 ∨ y.kind = 5 ∨ y.kind = 6 then (depL K.2.2 []).getD K.1.toNat 0 else 0) K.2.1 + 1 = _
     rw [if_pos (by omega), hp]
     show dpI K.2.2 K.1.toNat + 1 = _
     rw [r3]; unfold depK depK; simp
    ·show numOk y.kind y.n
     unfold numOk
     rw [if_neg (by omega), if_neg (by omega)]; exact g.2.1
    show (if y.kind = 1 ∨ y.kind = 2 ∨ y.kind = 3 then _ else _)
    rw [if_neg (by omega), if_pos (show y.kind = 4 ∨ y.kind = 5 ∨ y.kind = 6 by omega)]; exact ⟨r1, r2, hp⟩
   exact absurd g.1 h7
  refine ⟨g1.snoc hdep.2 (by rw [hdep.1]; exact hd), by show (0 : Int) ≤ (K.2.2.length : Int); omega, by show (K.2.2.length : Int) < ((K.2.2 ++ _).length : Int); rw [List.length_append]; simp; omega, ?_⟩
  show dpI (K.2.2 ++ _) ((K.2.2.length : Int)).toNat = _
  rw [Int.toNat_natCast, dpI_last, hdep.1]
theorem mkK_ok {wh : List UInt8 → Nat} {dp : Nat → Nat} {rt : List UInt8 → Int} (kind : Int) : ∀ (ts : Trs) (L : List Tp) (el : Int) (d p : Nat) (seen : List Ex) (ps : List Pa) (m : Nat), ts.wf kind d → dupK kind ts p seen = [] → (∀ x ∈ ts.flat, outB x = false) → Nmd wh dp rt L ts.flat → LOk L → depK wh dp ts m ≤ 64 → PsOk kind (L.length : Int) ps →
  (many7 kind → ps.map (fun q => (q.label, q.tag)) = seen.map (fun x => (x.label, x.tag))) → (many7 kind → dpP L ps = m) →
  LOk (mkK rt kind ts L el ps).2.2 ∧ True ∧ PsOk kind ((mkK rt kind ts L el ps).2.2.length : Int) (mkK rt kind ts L el ps).2.1 ∧
   (many7 kind → (mkK rt kind ts L el ps).2.1.length = ps.length + ts.len ∧ dpP (mkK rt kind ts L el ps).2.2 (mkK rt kind ts L el ps).2.1 = depK wh dp ts m ∧ (mkK rt kind ts L el ps).1 = el) ∧
   (¬ many7 kind → (mkK rt kind ts L el ps).2.1 = ps ∧ ∀ t, ts = .cons t .nil → 0 ≤ (mkK rt kind ts L el ps).1 ∧ (mkK rt kind ts L el ps).1 < ((mkK rt kind ts L el ps).2.2.length : Int) ∧ dpI (mkK rt kind ts L el ps).2.2 (mkK rt kind ts L el ps).1.toNat = depT wh dp t)
 | .nil, L, el, d, p, seen, ps, m, hw, hdup, hout, hnm, hL, hd, hps, hsn, hm => ⟨hL, trivial, hps, fun h => ⟨by simp [mkK, Trs.len], hm h, rfl⟩, fun h => ⟨rfl, fun t ht => by cases ht⟩⟩
 | .cons t ts, L, el, d, p, seen, ps, m, hw, hdup, hout, hnm, hL, hd, hps, hsn, hm => by
  rw [dupK, List.append_eq_nil_iff, List.append_eq_nil_iff] at hdup
  obtain ⟨hd1, hd2, hd3⟩ := hdup
  have hnd : dupB kind seen t.top = false := by
   cases hb : dupB kind seen t.top with
   | false => rfl
   | true => rw [hb, if_pos rfl] at hd1; cases hd1
  have hkid : depT wh dp t ≤ 64 := Nat.le_trans depK_kid hd
  obtain ⟨g1, g2, g3, g4⟩ := mkT_ok (wh := wh) (dp := dp) (rt := rt) t L kind d p hw.1 hd2 (fun x hx => hout x (List.mem_append_left _ hx)) (fun x hx => hnm x (List.mem_append_left _ hx)) hL hkid
  obtain ⟨M, hM, -⟩ := mkT_pre rt t L (wf_leafy t _ _ hw.1)
  obtain ⟨r, hr⟩ : ∃ r, r = mkT rt t L := ⟨_, rfl⟩
  rw [← hr] at g1 g2 g3 g4 hM
  have hlen : (L.length : Int) ≤ (r.2.length : Int) := by rw [hM, List.length_append]; omega
  have hnm2 : Nmd wh dp rt r.2 ts.flat := by rw [hM]; exact Nmd.app (fun x hx => hnm x (List.mem_append_right _ hx))
  have hd' : depK wh dp ts (max m (depT wh dp t)) ≤ 64 := hd
  by_cases h7 : many7 kind
  ·have htr := top_right hw.1
   obtain ⟨-, -, hlb, htg⟩ := rightB_iff htr
   have hob : outB t.top = false := hout _ (List.mem_append_left _ (by cases t; exact List.mem_cons_self ..))
   have hp1 : if kind = 8 then nameB t.top.label = true ∧ t.top.tag = 0 else t.top.label = [] ∧ 0 ≤ t.top.tag ∧ t.top.tag ≤ 255 := by
    unfold labB at hlb
    unfold tagB at htg
    unfold outB at hob
    simp at htg hob
    unfold many7 at h7
    split
    ·rename_i h8
     rw [if_pos h8] at hlb
     exact ⟨hlb, by omega⟩
    rename_i h8
    rw [if_neg h8] at hlb
    exact ⟨by simpa using hlb, by omega, by omega⟩
   have hp4 : ∀ q ∈ ps, ¬ (q.label = t.top.label ∧ q.tag = t.top.tag) := fun q hq ⟨e1, e2⟩ => by
    have h1 : (q.label, q.tag) ∈ ps.map (fun q => (q.label, q.tag)) := List.mem_map.2 ⟨q, hq, rfl⟩
    rw [hsn h7] at h1
    obtain ⟨s, hs, he⟩ := List.mem_map.1 h1
    simp only [Prod.mk.injEq] at he
    unfold dupB at hnd
    unfold many7 at h7
    split at hnd
    ·have := List.any_eq_false.1 hnd s hs
     simp at this
     exact this (he.1.trans e1)
    rw [if_pos (by omega)] at hnd
    have := List.any_eq_false.1 hnd s hs
    simp at this
    exact this (he.2.trans e2)
   have hps2 : PsOk kind (r.2.length : Int) (ps ++ [⟨t.top.label, t.top.tag, r.1⟩]) := (hps.mono hlen).snoc hp1 g2 g3 hp4
   have hm2 : dpP r.2 (ps ++ [⟨t.top.label, t.top.tag, r.1⟩]) = max m (depT wh dp t) := by
    rw [dpP_snoc, g4, hM, dpP_app hps.rng, hm h7]
   obtain ⟨k1, k2, k3, k4, k5⟩ := mkK_ok (wh := wh) (dp := dp) (rt := rt) kind ts r.2 el d _ (seen ++ [t.top]) (ps ++ [⟨t.top.label, t.top.tag, r.1⟩]) _ hw.2 hd3 (fun x hx => hout x (List.mem_append_right _ hx)) hnm2 g1 hd' hps2 (fun h => by rw [List.map_append, List.map_append, hsn h]; rfl) (fun _ => hm2)
   have he : mkK rt kind (.cons t ts) L el ps = mkK rt kind ts r.2 el (ps ++ [⟨t.top.label, t.top.tag, r.1⟩]) := by rw [mkK, if_pos h7, hr]
   rw [he]
   refine ⟨k1, trivial, k3, fun h => ?_, fun h => absurd h7 h⟩
   obtain ⟨q1, q2, q3⟩ := k4 h
   exact ⟨by rw [q1]; simp [Trs.len]; omega, q2, q3⟩
  obtain ⟨k1, k2, k3, k4, k5⟩ := mkK_ok (wh := wh) (dp := dp) (rt := rt) kind ts r.2 r.1 d _ (seen ++ [t.top]) ps _ hw.2 hd3 (fun x hx => hout x (List.mem_append_right _ hx)) hnm2 g1 hd' (hps.mono hlen) (fun h => absurd h h7) (fun h => absurd h h7)
  have he : mkK rt kind (.cons t ts) L el ps = mkK rt kind ts r.2 r.1 ps := by rw [mkK, if_neg h7, hr]
  rw [he]
  refine ⟨k1, trivial, k3, fun h => absurd h h7, fun h => ⟨(k5 h).1, fun t' ht => ?_⟩⟩
  cases ht
  exact ⟨g2, g3, g4⟩
end

end Go.Proofs.YtpbflfgigfdohaaDoor

namespace Go.Proofs.YtpbflfgigfdohaaDoor
open Go Go.Vc Go.RowKit Go.Proofs

/-- used by a type -/
def Usd (L : List Tp) (j : Nat) : Prop := ∃ i, ∃ hi : i < L.length, ((L[i].kind = 4 ∨ L[i].kind = 5 ∨ L[i].kind = 6) ∧ L[i].elem = (j : Int)) ∨ ∃ p ∈ L[i].parts, p.ty = (j : Int)
theorem Usd.app {L M : List Tp} {j : Nat} (h : Usd L j) : Usd (L ++ M) j := by
 obtain ⟨i, hi, h1⟩ := h
 exact ⟨i, by rw [List.length_append]; omega, by rw [List.getElem_append_left hi]; exact h1⟩
mutual
theorem mkT_used (rt : List UInt8 → Int) : ∀ (t : Tr) (L : List Tp) (a : Int) (d : Nat), t.wf a d → ∀ j, L.length ≤ j → j < (mkT rt t L).2.length → (j : Int) = (mkT rt t L).1 ∨ Usd (mkT rt t L).2 j
 | .node y ks, L, a, d, hw, j, hj1, hj2 => by
  by_cases hk : y.kind = 9
  ·have hm : mkT rt (.node y ks) L = (rt y.name, L) := by rw [mkT, if_pos hk]
   rw [hm] at hj2
   exact absurd hj2 (by show ¬ j < L.length; omega)
  have hm : mkT rt (.node y ks) L = (((mkK rt y.kind ks L 0 []).2.2.length : Int), (mkK rt y.kind ks L 0 []).2.2 ++ [⟨y.kind, y.n, (mkK rt y.kind ks L 0 []).1, (mkK rt y.kind ks L 0 []).2.1⟩]) := by rw [mkT, if_neg hk]
  rw [hm] at hj2 ⊢
  obtain ⟨-, -, hr, hkids, hks⟩ := hw
  obtain ⟨hok, -, -, -⟩ := rightB_iff hr
  have hone : ¬ many7 y.kind → ks.len ≤ 1 ∧ (ks.len = 1 → y.kind = 4 ∨ y.kind = 5 ∨ y.kind = 6) := fun h7 => by
   unfold many7 at h7
   rcases okB_cases hok with g | g | g | g | g <;> omega
  have hu := mkK_used rt y.kind ks L 0 [] (d + 1) hks (fun h => (hone h).1) j hj1
  obtain ⟨K, hK⟩ : ∃ K, K = mkK rt y.kind ks L 0 [] := ⟨_, rfl⟩
  rw [← hK] at hu hj2 ⊢
  have hl : (K.2.2 ++ [(⟨y.kind, y.n, K.1, K.2.1⟩ : Tp)]).length = K.2.2.length + 1 := by simp
  have hlast : (K.2.2 ++ [(⟨y.kind, y.n, K.1, K.2.1⟩ : Tp)])[K.2.2.length]'(by omega) = ⟨y.kind, y.n, K.1, K.2.1⟩ := by simp
  rcases Nat.lt_or_ge j K.2.2.length with h | h
  ·right
   rcases hu h with h1 | h1 | h1
   ·refine ⟨K.2.2.length, by show _ < (K.2.2 ++ _).length; omega, .inr ?_⟩
    show ∃ p ∈ ((K.2.2 ++ [(⟨y.kind, y.n, K.1, K.2.1⟩ : Tp)])[K.2.2.length]'(by omega)).parts, _
    rw [hlast]; exact h1.2
   ·refine ⟨K.2.2.length, by show _ < (K.2.2 ++ _).length; omega, .inl ?_⟩
    show (((K.2.2 ++ [(⟨y.kind, y.n, K.1, K.2.1⟩ : Tp)])[K.2.2.length]'(by omega)).kind = 4 ∨ _) ∧ _
    rw [hlast]
    exact ⟨(hone h1.1).2 h1.2.1, h1.2.2.symm⟩
   exact h1.app
  left
  show (j : Int) = (K.2.2.length : Int)
  have : j < (K.2.2 ++ [(⟨y.kind, y.n, K.1, K.2.1⟩ : Tp)]).length := hj2
  omega
theorem mkK_used (rt : List UInt8 → Int) (kind : Int) : ∀ (ts : Trs) (L : List Tp) (el : Int) (ps : List Pa) (d : Nat), ts.wf kind d → (¬ many7 kind → ts.len ≤ 1) → ∀ j, L.length ≤ j → j < (mkK rt kind ts L el ps).2.2.length →
  (many7 kind ∧ ∃ p ∈ (mkK rt kind ts L el ps).2.1, p.ty = (j : Int)) ∨ (¬ many7 kind ∧ ts.len = 1 ∧ (j : Int) = (mkK rt kind ts L el ps).1) ∨ Usd (mkK rt kind ts L el ps).2.2 j
 | .nil, L, el, ps, d, hw, hone, j, hj1, hj2 => by
  have : j < L.length := hj2
  omega
 | .cons t ts, L, el, ps, d, hw, hone, j, hj1, hj2 => by
  have ht := mkT_used rt t L kind d hw.1 j hj1
  obtain ⟨M, hM, -⟩ := mkT_pre rt t L (wf_leafy t _ _ hw.1)
  by_cases h7 : many7 kind
  ·have he : mkK rt kind (.cons t ts) L el ps = mkK rt kind ts (mkT rt t L).2 el (ps ++ [⟨t.top.label, t.top.tag, (mkT rt t L).1⟩]) := by rw [mkK, if_pos h7]
   rw [he] at hj2 ⊢
   rcases Nat.lt_or_ge j (mkT rt t L).2.length with h | h
   ·obtain ⟨N, hN, -⟩ := mkK_pre rt kind ts (mkT rt t L).2 el (ps ++ [⟨t.top.label, t.top.tag, (mkT rt t L).1⟩]) (wfs_leafy ts _ _ hw.2)
    rcases ht h with h1 | h1
    ·left
     refine ⟨h7, ⟨t.top.label, t.top.tag, (mkT rt t L).1⟩, ?_, h1.symm⟩
     obtain ⟨q, hq⟩ := mkK_ps rt kind ts (mkT rt t L).2 el (ps ++ [⟨t.top.label, t.top.tag, (mkT rt t L).1⟩])
     rw [hq]; simp
    right; right
    rw [hN]; exact h1.app
   rcases mkK_used rt kind ts (mkT rt t L).2 el (ps ++ [⟨t.top.label, t.top.tag, (mkT rt t L).1⟩]) d hw.2 (fun h => absurd h7 h) j h hj2 with h1 | h1 | h1
   ·exact .inl h1
   ·exact absurd h7 h1.1
   exact .inr (.inr h1)
  have he : mkK rt kind (.cons t ts) L el ps = mkK rt kind ts (mkT rt t L).2 (mkT rt t L).1 ps := by rw [mkK, if_neg h7]
  have hnil : ts = .nil := by
   cases ts with
   | nil => rfl
   | cons a b => have := hone h7; simp [Trs.len] at this
  subst hnil
  rw [he] at hj2 ⊢
  rcases ht hj2 with h1 | h1
  ·exact .inr (.inl ⟨h7, rfl, h1⟩)
  exact .inr (.inr h1)
theorem mkK_ps (rt : List UInt8 → Int) (kind : Int) : ∀ (ts : Trs) (L : List Tp) (el : Int) (ps : List Pa), ∃ q, (mkK rt kind ts L el ps).2.1 = ps ++ q
 | .nil, L, el, ps => ⟨[], by simp [mkK]⟩
 | .cons t ts, L, el, ps => by
  rw [mkK]
  split
  ·obtain ⟨q, hq⟩ := mkK_ps rt kind ts (mkT rt t L).2 el (ps ++ [⟨t.top.label, t.top.tag, (mkT rt t L).1⟩])
   exact ⟨⟨t.top.label, t.top.tag, (mkT rt t L).1⟩ :: q, by rw [hq, List.append_assoc]; rfl⟩
  exact mkK_ps rt kind ts _ _ ps
end

end Go.Proofs.YtpbflfgigfdohaaDoor

namespace Go.Proofs.YtpbflfgigfdohaaDoor
open Go Go.Vc Go.RowKit Go.Proofs

mutual
theorem tr_uniq : ∀ (t1 t2 : Tr) (r1 r2 : List Ex) (a1 a2 : Int) (d1 d2 : Nat), t1.wf a1 d1 → t2.wf a2 d2 → t1.flat ++ r1 = t2.flat ++ r2 → t1 = t2 ∧ r1 = r2
 | .node y ks, .node z ls, r1, r2, a1, a2, d1, d2, h1, h2, h => by
  simp only [Tr.flat, List.cons_append, List.cons.injEq] at h
  obtain ⟨rfl, h⟩ := h
  obtain ⟨-, -, -, hk1, hw1⟩ := h1
  obtain ⟨-, -, -, hk2, hw2⟩ := h2
  obtain ⟨rfl, rfl⟩ := trs_uniq ks ls r1 r2 _ _ _ _ hw1 hw2 (by omega) h
  exact ⟨rfl, rfl⟩
theorem trs_uniq : ∀ (s1 s2 : Trs) (r1 r2 : List Ex) (a1 a2 : Int) (d1 d2 : Nat), s1.wf a1 d1 → s2.wf a2 d2 → s1.len = s2.len → s1.flat ++ r1 = s2.flat ++ r2 → s1 = s2 ∧ r1 = r2
 | .nil, .nil, r1, r2, _, _, _, _, _, _, _, h => ⟨rfl, h⟩
 | .nil, .cons t ts, _, _, _, _, _, _, _, _, hl, _ => by simp [Trs.len] at hl
 | .cons t ts, .nil, _, _, _, _, _, _, _, _, hl, _ => by simp [Trs.len] at hl
 | .cons t ts, .cons u us, r1, r2, a1, a2, d1, d2, h1, h2, hl, h => by
  simp only [Trs.flat, List.append_assoc] at h
  obtain ⟨he, h'⟩ := tr_uniq t u _ _ _ _ _ _ h1.1 h2.1 h
  subst he
  obtain ⟨rfl, rfl⟩ := trs_uniq ts us r1 r2 _ _ _ _ h1.2 h2.2 (by simp [Trs.len] at hl; omega) h'
  exact ⟨rfl, rfl⟩
end
theorem Trd.uniq {D : List Df} {T U : Nat → Tr} (h : Trd D T) (k : Trd D U) : ∀ i, i < D.length → T i = U i := fun i hi =>
 (tr_uniq (T i) (U i) [] [] 0 0 0 0 (h.wf i hi) (k.wf i hi) (by rw [h.fl i hi, k.fl i hi])).1
theorem firstN_congr {α : Type} {n : Nat} {f g : Nat → Option α} (h : ∀ i, i < n → f i = g i) : firstN n f = firstN n g := by
 unfold firstN
 induction n with
 | zero => rfl
 | succ n ih =>
  rw [List.range_succ, List.findSome?_append, List.findSome?_append, ih (fun i hi => h i (by omega))]
  simp [h n (Nat.lt_succ_self n)]
theorem resF_congr {D : List Df} {T U : Nat → Tr} (h : ∀ i, i < D.length → T i = U i) : resF D T = resF D U := firstN_congr fun i hi => by unfold defF; rw [h i hi]
theorem depO_congr {wh : List UInt8 → Nat} {T U : Nat → Tr} : ∀ (l : List Nat) (f : Nat → Nat), (∀ i ∈ l, T i = U i) → depO wh T l f = depO wh U l f
 | [], f, _ => rfl
 | i :: l, f, h => by
  unfold depO
  rw [h i (List.mem_cons_self ..)]
  exact depO_congr l _ (fun j hj => h j (List.mem_cons_of_mem _ hj))
theorem ord_lt {n : Nat} {U : Nat → List Nat} : ∀ (f : Nat) (out : List Nat), (∀ i ∈ out, i < n) → ∀ i ∈ orderF n U f out, i < n
 | 0, out, h, i, hi => h i hi
 | f + 1, out, h, i, hi => by
  unfold orderF at hi
  split at hi
  ·exact h i hi
  rename_i j hj
  refine ord_lt f _ (fun k hk => ?_) i hi
  rcases List.mem_append.1 hk with hk | hk
  ·exact h k hk
  rw [List.mem_singleton.1 hk]; exact (nextO_some hj).1
theorem depN_congr {D : List Df} {T U : Nat → Tr} (h : ∀ i, i < D.length → T i = U i) : depN D T = depN D U := depO_congr _ _ fun i hi => h i (ord_lt _ _ (fun _ h => by cases h) i hi)
theorem deepF_congr {D : List Df} {T U : Nat → Tr} (h : ∀ i, i < D.length → T i = U i) : deepF D T = deepF D U := by unfold deepF; rw [depN_congr h]
/-- the fault, by any trees of it -/
theorem fA_of {D : List Df} {T : Nat → Tr} (hck : (chkS D).2.2 = 0) (hT : Trd D T) : fA D = (resF D T).or ((ringF D).or (deepF D T)) := by
 unfold fA
 rw [resA_ok hck, resF_congr ((trd_of hck).uniq hT), deepF_congr ((trd_of hck).uniq hT)]
/-- a rank that falls along uses: no ring -/
theorem rank_no {U : Nat → List Nat} (r : Nat → Nat) (h : ∀ i, ∀ j ∈ U i, r j < r i) : ∀ i, ¬ Relation.TransGen (Us U) i i := by
 have key : ∀ i k, Relation.TransGen (Us U) i k → r k < r i := by
  intro i k hk
  induction hk with
  | single h1 => exact h _ _ h1
  | tail _ h1 ih => exact Nat.lt_trans (h _ _ h1) ih
 exact fun i hi => Nat.lt_irrefl _ (key i i hi)
end Go.Proofs.YtpbflfgigfdohaaDoor

namespace Go.Vc
open Go Go.RowKit
theorem fold_set : ∀ (xs : List Value) (k off : Nat) (cs : Array Value), off + k + xs.length ≤ cs.size →
  ((xs.zipIdx k).foldl (fun cs (x : Value × Nat) => cs.setIfInBounds (off + x.2) x.1) cs) = (cs.toList.take (off + k) ++ xs ++ cs.toList.drop (off + k + xs.length)).toArray
 | [], k, off, cs, h => by simp
 | x :: xs, k, off, cs, h => by
  simp only [List.length_cons] at h
  rw [List.zipIdx_cons, List.foldl_cons, fold_set xs (k + 1) off _ (by simp; omega)]
  congr 1
  simp only [Array.toList_setIfInBounds]
  rw [List.drop_set_of_lt (by omega), show off + (k + 1) = (off + k) + 1 by omega, List.take_succ_eq_append_getElem (by simp; omega), List.take_set_of_le (by omega)]
  rw [List.append_assoc, List.append_assoc, List.append_assoc]
  simp only [List.getElem_set_self, List.singleton_append, List.cons_append, List.nil_append, List.length_cons]
  congr 4
  omega
theorem fill_rows {s : Nat} : ∀ (vs : List Value) (k : Nat) (cells : Array Value), (∀ v ∈ vs, v.cells.size = s) → (k + vs.length) * s = cells.size →
  Instr.fill (fun i => some (i * s, s)) cells ((vs.zipIdx k).map fun x => (x.2, x.1)) = some ((cells.toList.take (k * s) ++ vs.flatMap (fun v => v.cells.toList)).toArray)
 | [], k, cells, _, h => by
  simp at h
  have : cells.toList.take (k * s) = cells.toList := List.take_of_length_le (by simp [h])
  simp [Instr.fill, this]
 | v :: vs, k, cells, h1, h => by
  have hv := h1 v (List.mem_cons_self ..)
  have hsz : k * s + s ≤ cells.size := by
   rw [← h, List.length_cons, show k + (vs.length + 1) = (k + 1) + vs.length by omega, Nat.add_mul (k + 1), Nat.succ_mul]
   omega
  have hf : v.cells.zipIdx.foldl (fun cs (x : Value × Nat) => cs.setIfInBounds (k * s + x.2) x.1) cells = (cells.toList.take (k * s) ++ v.cells.toList ++ cells.toList.drop (k * s + s)).toArray := by
   have h2 := fold_set v.cells.toList 0 (k * s) cells (by simp; omega)
   rw [← Array.foldl_toList, Array.toList_zipIdx, h2]
   simp [hv]
  rw [List.zipIdx_cons, List.map_cons, Instr.fill]
  show (if (decide (v.cells.size ≠ s) || decide (k * s + v.cells.size > cells.size)) = true then none else Instr.fill (fun i => some (i * s, s)) (v.cells.zipIdx.foldl (fun cs (x : Value × Nat) => cs.setIfInBounds (k * s + x.2) x.1) cells) (List.map (fun x => (x.snd, x.fst)) (vs.zipIdx (k + 1)))) = _
  rw [if_neg (by simp [hv]; omega), hf, fill_rows vs (k + 1) _ (fun v hv => h1 v (List.mem_cons_of_mem _ hv)) (by
   simp [hv]
   simp only [List.length_cons] at h
   rw [← h, show k + (vs.length + 1) = (k + 1) + vs.length by omega, Nat.add_mul (k + 1), Nat.succ_mul, Nat.min_eq_left (by omega)]
   omega)]
  congr 2
  simp only [List.flatMap_cons]
  rw [← List.append_assoc]
  congr 1
  rw [List.take_append_of_le_length (by simp [hv]; rw [Nat.succ_mul]; omega), List.take_of_length_le (by simp [hv]; rw [Nat.succ_mul]; omega)]
section
variable {P : Program} {e : Env} {w : World} {K : Value → World → Prop} {ty : TypeId}
theorem o_bsA {t el : TypeId} {len s bs s' bs' : Nat} {z z' : Value} {d' : TypeDesc} {xs : List Operand} {vs : List Value} {cs : List Value} {parts : Array (Nat × Operand)} (ht : Ty P t (.slice el) s bs z) (hel : Ty P el d' s' bs' z') (hp : parts = ((xs.zipIdx 0).map fun x => (x.2, x.1)).toArray) (hx : xs.map (ev e) = vs) (hv : vs.all (fun v => v.cells.size == s') = true) (hl : vs.length = len) (h0 : 0 < len * s') (hs : len * s' ≤ 16777216) (hc : vs.flatMap (fun v => v.cells.toList) = cs)
  (k : K (.slice (some ⟨w.heap.size, 0, none⟩) len len) (w.alloc (.cells cs.toArray el))) : OP P e (.buildSlice t len parts) ty w K := by
 subst hp
 refine o_bs ht hel (by simp; omega) (cells := cs.toArray) ?_ (by simp; omega) k
 have hm : ((((xs.zipIdx 0).map fun x => (x.2, x.1)).toArray.map fun (x : Nat × Operand) => (x.1, ev e x.2))).toList = (vs.zipIdx 0).map fun x => (x.2, x.1) := by
  subst hx
  simp only [List.map_toArray, List.map_map]
  have gen : ∀ (l : List Operand) (k : Nat), (l.zipIdx k).map ((fun (x : Nat × Operand) => (x.1, ev e x.2)) ∘ fun x => (x.2, x.1)) = ((l.map (ev e)).zipIdx k).map fun x => (x.2, x.1) := by
   intro l
   induction l with
   | nil => intro k; rfl
   | cons a l ih => intro k; simp only [List.zipIdx_cons, List.map_cons, ih (k + 1)]; rfl
  exact gen xs 0
 rw [hm, fill_rows vs 0 _ (fun v hv' => by simpa using List.all_eq_true.1 hv v hv') (by simp [hl]), hc]
 simp
end
end Go.Vc

namespace Go.Proofs.YtpbflfgigfdohaaDoor
open Go Go.Vc Go.RowKit Go.Proofs

theorem order_call (D : List Df) (dv : Value) (V : Nat → Value) (w0 : World) (hD : DefR w0 D dv V) (hlim : DOk D) {er at_ : Int} (hf : flt D = (er, at_)) : Ca Tryd.prog 13 #[.agg #[dv]] w0 (fun v w' => ∃ ov, v = .tuple #[ov, .agg #[.int .i64 er, .int .i64 at_]] ∧ w'.ownsRow w0.heap.size 3 1 ov (ordR D).length ((ordR D).map iv) ∧ Ext w0 w') := by
 have h := names_order_spec D dv V w0 hD hlim
 rw [hf] at h
 exact h
theorem find_call (D : List Df) (dv : Value) (V : Nat → Value) (nm : List UInt8) (w0 : World) (hD : DefR w0 D dv V) (hlen : D.length * 48 ≤ 140737488351232) {k : Nat} (hk : whereN D nm = some k) : Ca Tryd.prog 35 #[.agg #[dv], st nm] w0 (fun v w' => v = .tuple #[.int .i64 (k : Int), .int .i64 0] ∧ Ext w0 w') := by
 have h := find_spec D dv V nm w0 hD hlen
 rw [hk] at h
 exact h
theorem Sl.ofRow {w : World} {s n : Nat} {cs : List Value} {el : TypeId} (hl : cs.length = n * s) : Sl (w.alloc (.cells cs.toArray el)) s (.slice (some ⟨w.heap.size, 0, none⟩) n n) n cs :=
 Sl.blk (heap_alloc_new w _) 0 cs hl (Nat.le_refl _) (fun i v h => by simpa using h)


end Go.Proofs.YtpbflfgigfdohaaDoor

namespace Go.Proofs.YtpbflfgigfdohaaDoor
open Go Go.Vc Go.RowKit Go.Proofs

theorem firstN_some {α : Type} {n : Nat} {f : Nat → Option α} {v : α} (h : firstN n f = some v) : ∃ i, i < n ∧ f i = some v := by
 unfold firstN at h
 obtain ⟨i, hi, hv⟩ := List.exists_of_findSome?_eq_some h
 exact ⟨i, List.mem_range.1 hi, hv⟩
theorem nodeF_nz {D : List Df} {dup : List Nat} {L : List Ex} {j : Nat} {v : Int × Int} (h : nodeF D dup L j = some v) : v.1 = 80 ∨ v.1 = 81 := by
 unfold nodeF at h
 split at h
 ·cases h; exact .inl rfl
 split at h
 ·cases h; exact .inr rfl
 cases h
theorem resF_nz {D : List Df} {T : Nat → Tr} {v : Int × Int} (h : resF D T = some v) : v.1 = 80 ∨ v.1 = 81 := by
 obtain ⟨i, hi, hd⟩ := firstN_some h
 unfold defF at hd
 split at hd
 ·obtain ⟨j, hj, hn⟩ := firstN_some hd
  exact nodeF_nz hn
 cases hd; exact .inl rfl
theorem resA_nz {D : List Df} {v : Int × Int} (h : resA D = some v) : v.1 = 62 ∨ v.1 = 80 ∨ v.1 = 81 := by
 unfold resA at h
 split at h
 ·exact .inr (resF_nz h)
 cases h; exact .inl rfl
theorem ringF_nz {D : List Df} {v : Int × Int} (h : ringF D = some v) : v.1 = 82 := by
 obtain ⟨i, hi, hd⟩ := firstN_some h
 split at hd
 ·cases hd; rfl
 cases hd
theorem deepF_nz {D : List Df} {T : Nat → Tr} {v : Int × Int} (h : deepF D T = some v) : v.1 = 83 := by
 obtain ⟨i, hi, hd⟩ := firstN_some h
 split at hd
 ·cases hd; rfl
 cases hd
theorem fA_cases {D : List Df} {v : Int × Int} (h : fA D = some v) : resA D = some v ∨ (resA D = none ∧ ringF D = some v) ∨ (resA D = none ∧ ringF D = none ∧ deepF D (TD D) = some v) := by
 unfold fA at h
 cases h1 : resA D with
 | some u => rw [h1] at h; exact .inl h
 | none =>
  rw [h1, Option.none_or] at h
  cases h2 : ringF D with
  | some u => rw [h2] at h; exact .inr (.inl ⟨rfl, h⟩)
  | none => rw [h2, Option.none_or] at h; exact .inr (.inr ⟨rfl, rfl, h⟩)
theorem fA_nz {D : List Df} {v : Int × Int} (h : fA D = some v) : v.1 = 62 ∨ v.1 = 80 ∨ v.1 = 81 ∨ v.1 = 82 ∨ v.1 = 83 := by
 rcases fA_cases h with h | ⟨-, h⟩ | ⟨-, -, h⟩
 ·have := resA_nz h; omega
 ·have := ringF_nz h; omega
 have := deepF_nz h; omega
theorem flt_bad {D : List Df} {er at_ : Int} (h : flt D = (er, at_)) (he : ¬ er = 0) : ¬ fA D = none := fun hn => by rw [flt_none hn] at h; cases h; exact he rfl
theorem flt_good {D : List Df} {er at_ : Int} (h : flt D = (er, at_)) (he : er = 0) : fA D = none := by
 cases hf : fA D with
 | none => rfl
 | some v =>
  rw [flt_some hf] at h
  have := fA_nz hf
  rw [h] at this
  simp at this
  omega
theorem nodup_len : ∀ (n : Nat) (l : List Nat), l.Nodup → (∀ x ∈ l, x < n) → l.length ≤ n
 | 0, l, _, h => by
  cases l with
  | nil => exact Nat.le_refl _
  | cons a l => exact absurd (h a (List.mem_cons_self ..)) (by omega)
 | n + 1, l, hn, h => by
  have h1 := nodup_len n (l.erase n) (hn.erase n) (fun x hx => by
   have h2 := h x (List.mem_of_mem_erase hx)
   have h3 : x ≠ n := fun e => by
    subst e
    exact (hn.mem_erase_iff.1 hx).1 rfl
   omega)
  by_cases hm : n ∈ l
  ·rw [List.length_erase_of_mem hm] at h1
   have := List.length_pos_of_mem hm
   omega
  rw [List.erase_of_not_mem hm] at h1
  omega
theorem Told.all {n : Nat} {U : Nat → List Nat} {l : List Nat} (h : Told n U l) (hl : l.length = n) : ∀ i, i < n → i ∈ l := by
 intro i hi
 refine Classical.byContradiction fun hm => ?_
 have := nodup_len n (i :: l) (List.nodup_cons.2 ⟨hm, h.nd⟩) (fun x hx => by
  rcases List.mem_cons.1 hx with rfl | hx
  ·exact hi
  exact h.lt x hx)
 rw [List.length_cons] at this
 omega
theorem uses_mem {D : List Df} {i : Nat} (hi : i < D.length) {x : Ex} (hx : x ∈ D[i].ty) (h9 : x.kind = 9) : whD D x.name ∈ usesD D i := by
 unfold usesD
 rw [tyD_at hi]
 exact List.mem_map.2 ⟨x, List.mem_filter.2 ⟨hx, decide_eq_true h9⟩, rfl⟩
/-- of a source that is all right -/
structure Good (D : List Df) : Prop where
 ck : (chkS D).2.2 = 0
 res : resA D = none
 rn : ringF D = none
 dn : deepF D (TD D) = none
theorem good_of {D : List Df} (h : fA D = none) : Good D := by
 obtain ⟨h1, h2, h3⟩ := fA_back h
 refine ⟨?_, h1, h2, h3⟩
 refine Classical.byContradiction fun hc => ?_
 rw [resA_src hc] at h1
 cases h1
theorem Good.trd {D : List Df} (h : Good D) : Trd D (TD D) := trd_of h.ck
theorem Good.kn {D : List Df} (h : Good D) : kn9 D := kn9_of h.res h.ck
theorem Good.ac {D : List Df} (h : Good D) : ∀ i, i < D.length → ¬ Relation.TransGen (Us (usesD D)) i i := ringF_none h.rn
theorem Good.ord {D : List Df} (h : Good D) : Told D.length (usesD D) (ordN D) ∧ (ordN D).length = D.length := ord_told h.kn h.ac
theorem dep_fix {D : List Df} {T : Nat → Tr} (hT : Trd D T) (hto : Told D.length (usesD D) (ordN D)) (hl : (ordN D).length = D.length) : ∀ i, i < D.length → depN D T i = depT (whD D) (depN D T) (T i) := by
 intro i hi
 refine depO_fix (out := []) (n := D.length) (U := usesD D) (fun i hi x hx h9 => ?_) (ordN D) (fun _ => 0) (by simpa using hto) (fun i hi => by cases hi) i (by simpa using hto.all hl i hi)
 rw [hT.fl i hi, tyD_at hi] at hx
 exact uses_mem hi hx h9
theorem Good.deep {D : List Df} (h : Good D) : ∀ i, i < D.length → depN D (TD D) i ≤ 64 := by
 intro i hi
 have := firstN_none h.dn i hi
 split at this
 ·cases this
 omega
end Go.Proofs.YtpbflfgigfdohaaDoor

namespace Go.Proofs.YtpbflfgigfdohaaDoor
open Go Go.Vc Go.RowKit Go.Proofs

inductive F2 {α β : Type} (S : α → β → Prop) : List α → List β → Prop
 | nil : F2 S [] []
 | cons {x : α} {y : β} {l : List α} {m : List β} : S x y → F2 S l m → F2 S (x :: l) (y :: m)
theorem F2.len {α β : Type} {S : α → β → Prop} {l : List α} {m : List β} (h : F2 S l m) : l.length = m.length := by
 induction h with
 | nil => rfl
 | cons _ _ ih => rw [List.length_cons, List.length_cons, ih]
theorem F2.at {α β : Type} {S : α → β → Prop} {l : List α} {m : List β} (h : F2 S l m) : ∀ (i : Nat) (h1 : i < l.length) (h2 : i < m.length), S l[i] m[i] := by
 induction h with
 | nil => intro i h1; simp at h1
 | cons hs _ ih =>
  intro i h1 h2
  cases i with
  | zero => exact hs
  | succ i => exact ih i (by simpa using h1) (by simpa using h2)
theorem F2.of {α β : Type} {S : α → β → Prop} : ∀ {l : List α} {m : List β}, l.length = m.length → (∀ (i : Nat) (h1 : i < l.length) (h2 : i < m.length), S l[i] m[i]) → F2 S l m
 | [], [], _, _ => .nil
 | [], y :: m, hl, _ => by simp at hl
 | x :: l, [], hl, _ => by simp at hl
 | x :: l, y :: m, hl, h => .cons (h 0 (by simp) (by simp)) (F2.of (by simpa using hl) (fun i h1 h2 => h (i + 1) (by simpa using h1) (by simpa using h2)))
theorem F2.snoc {α β : Type} {S : α → β → Prop} {l : List α} {m : List β} (h : F2 S l m) {x : α} {y : β} (hs : S x y) : F2 S (l ++ [x]) (m ++ [y]) := by
 induction h with
 | nil => exact .cons hs .nil
 | cons h1 _ ih => exact .cons h1 ih
theorem chkA_iff : ∀ (D : List Df) (i : Nat), (chkA i D).2.2 = 0 ↔ ∀ d ∈ D, nameB d.name = true ∧ (chkT d.ty).2 = 0
 | [], i => by rw [chkA_nil]; simp
 | d :: D, i => by
  rw [chkA_cons]
  by_cases h1 : nameB d.name = false
  ·rw [if_pos h1]; simp [h1]
  rw [if_neg h1]
  have h1' : nameB d.name = true := by simpa using h1
  by_cases h2 : (chkT d.ty).2 = 0
  ·rw [if_pos h2, chkA_iff D (i + 1)]; simp [h1', h2]
  rw [if_neg h2]; simp [h2]
theorem chkS_iff (D : List Df) : (chkS D).2.2 = 0 ↔ D.length ≤ 256 ∧ ∀ d ∈ D, nameB d.name = true ∧ (chkT d.ty).2 = 0 := by
 unfold chkS
 by_cases h : 256 < D.length
 ·rw [if_pos h]; simp; omega
 rw [if_neg h, chkA_iff]; simp; omega
mutual
def TSim (S : Ex → Ex → Prop) : Tr → Tr → Prop
 | .node y ks, .node z ls => S y z ∧ TsSim S ks ls
def TsSim (S : Ex → Ex → Prop) : Trs → Trs → Prop
 | .nil, .nil => True
 | .cons t ts, .cons u us => TSim S t u ∧ TsSim S ts us
 | _, _ => False
end
mutual
theorem tsim_len {S : Ex → Ex → Prop} : ∀ (t u : Tr), TSim S t u → t.flat.length = u.flat.length
 | .node y ks, .node z ls, h => by
  unfold TSim at h
  simp only [Tr.flat, List.length_cons, tssim_len ks ls h.2]
theorem tssim_len {S : Ex → Ex → Prop} : ∀ (t u : Trs), TsSim S t u → t.flat.length = u.flat.length
 | .nil, .nil, _ => rfl
 | .nil, .cons t ts, h => by unfold TsSim at h; exact h.elim
 | .cons t ts, .nil, h => by unfold TsSim at h; exact h.elim
 | .cons t ts, .cons u us, h => by
  unfold TsSim at h
  simp only [Trs.flat, List.length_append, tsim_len t u h.1, tssim_len ts us h.2]
end
theorem tsim_top {S : Ex → Ex → Prop} : ∀ {t u : Tr}, TSim S t u → S t.top u.top
 | .node y ks, .node z ls, h => by unfold TSim at h; exact h.1
/-- alike nodes have like labels just where the others have -/
def LabS (S : Ex → Ex → Prop) : Prop := ∀ x x' y y', S x x' → S y y' → (x.label = y.label ↔ x'.label = y'.label)
end Go.Proofs.YtpbflfgigfdohaaDoor

namespace Go.Proofs.YtpbflfgigfdohaaDoor
open Go Go.Vc Go.RowKit Go.Proofs

/-- p tells each number below n once -/
structure Pm (n : Nat) (p : List Nat) : Prop where
 nd : p.Nodup
 lt : ∀ i ∈ p, i < n
 all : ∀ i, i < n → i ∈ p
 len : p.length = n
section
variable {D : List Df} {p : List Nat} (hp : Pm D.length p)
include hp
end
/-- names stand once -/
def Once (D : List Df) : Prop := ∀ i, i < D.length → ∀ j, j < D.length → (D.getD i df0).name = (D.getD j df0).name → i = j
theorem once_iff (D : List Df) : (∀ i, i < D.length → whereN D (D.getD i df0).name = some i) ↔ Once D := by
 constructor
 ·intro h i hi j hj he
  have h1 := h i hi
  rw [he, h j hj] at h1
  exact (Option.some.inj h1).symm
 intro h i hi
 cases hw : whereN D (D.getD i df0).name with
 | none => exact absurd rfl (by have := whereN_none hw _ (List.getElem_mem hi); rwa [getD_at hi] at this)
 | some k =>
  obtain ⟨hk, he, -⟩ := whereN_some hw
  rw [h k hk i hi (by rw [getD_at hk]; exact he)]
theorem resF_iff {D : List Df} {T : Nat → Tr} : resF D T = none ↔ Once D ∧ ∀ i, i < D.length → ∀ j, j < (tyD D i).length → ¬ j ∈ dupT (T i) 0 ∧ ¬ (((tyD D i).getD j ex0).kind = 9 ∧ whereN D ((tyD D i).getD j ex0).name = none) := by
 constructor
 ·intro h
  have h1 := firstN_none h
  refine ⟨(once_iff D).1 fun i hi => ?_, fun i hi j hj => ?_⟩
  ·have h2 := h1 i hi
   unfold defF at h2
   split at h2
   ·assumption
   cases h2
  have h2 := h1 i hi
  unfold defF at h2
  split at h2
  ·have h3 := firstN_none h2 j hj
   unfold nodeF at h3
   split at h3
   ·cases h3
   rename_i hn
   refine ⟨hn, ?_⟩
   split at h3
   ·cases h3
   assumption
  cases h2
 rintro ⟨h1, h2⟩
 refine firstN_miss fun i hi => ?_
 unfold defF
 rw [if_pos ((once_iff D).2 h1 i hi)]
 refine firstN_miss fun j hj => ?_
 obtain ⟨h3, h4⟩ := h2 i hi j hj
 unfold nodeF
 rw [if_neg h3, if_neg h4]
section
variable {D : List Df} {p : List Nat} (hp : Pm D.length p)
include hp
end

end Go.Proofs.YtpbflfgigfdohaaDoor

namespace Go.Proofs.YtpbflfgigfdohaaDoor
open Go Go.Vc Go.RowKit Go.Proofs


/-- a kid: its parent's place, its own, its parent's kind, the heads of the kids ahead, its head -/
structure KE where
 i : Nat
 p : Nat
 kind : Int
 seen : List Ex
 x : Ex
mutual
def kidT : Tr → Nat → List KE
 | .node y ks, a => kidK a y.kind ks (a + 1) []
def kidK (i : Nat) (kind : Int) : Trs → Nat → List Ex → List KE
 | .nil, _, _ => []
 | .cons t ts, next, seen => ⟨i, next, kind, seen, t.top⟩ :: (kidT t next ++ kidK i kind ts (next + t.flat.length) (seen ++ [t.top]))
end
mutual
theorem dup_kid : ∀ (t : Tr) (a p : Nat), p ∈ dupT t a ↔ ∃ e ∈ kidT t a, e.p = p ∧ dupB e.kind e.seen e.x = true
 | .node y ks, a, p => by
  rw [dupT, kidT]
  exact dupK_kid a y.kind ks (a + 1) [] p
theorem dupK_kid (i : Nat) (kind : Int) : ∀ (ts : Trs) (a : Nat) (seen : List Ex) (p : Nat), p ∈ dupK kind ts a seen ↔ ∃ e ∈ kidK i kind ts a seen, e.p = p ∧ dupB e.kind e.seen e.x = true
 | .nil, a, seen, p => by simp [dupK, kidK]
 | .cons t ts, a, seen, p => by
  rw [dupK, kidK, List.mem_append, List.mem_append, dup_kid t a p, dupK_kid i kind ts _ _ p]
  constructor
  ·rintro (h | ⟨e, he, h⟩ | ⟨e, he, h⟩)
   ·split at h
    ·rename_i hd
     rw [List.mem_singleton.1 h]
     exact ⟨_, List.mem_cons_self .., rfl, hd⟩
    cases h
   ·exact ⟨e, List.mem_cons_of_mem _ (List.mem_append_left _ he), h⟩
   exact ⟨e, List.mem_cons_of_mem _ (List.mem_append_right _ he), h⟩
  rintro ⟨e, he, hp, hd⟩
  rcases List.mem_cons.1 he with rfl | he
  ·left
   rw [if_pos hd, ← hp]
   exact List.mem_singleton.2 rfl
  rcases List.mem_append.1 he with he | he
  ·exact .inr (.inl ⟨e, he, hp, hd⟩)
  exact .inr (.inr ⟨e, he, hp, hd⟩)
end
mutual
theorem kid_range : ∀ (t : Tr) (a : Nat), (kidT t a).map (fun e => e.p) = List.range' (a + 1) (t.flat.length - 1)
 | .node y ks, a => by
  rw [kidT, kidK_range a y.kind ks (a + 1) []]
  rfl
theorem kidK_range (i : Nat) (kind : Int) : ∀ (ts : Trs) (a : Nat) (seen : List Ex), (kidK i kind ts a seen).map (fun e => e.p) = List.range' a ts.flat.length
 | .nil, a, seen => rfl
 | .cons t ts, a, seen => by
  rw [kidK, List.map_cons, List.map_append, kid_range t a, kidK_range i kind ts _ _]
  have hp := tr_pos t
  rw [show (Trs.cons t ts).flat.length = 1 + ((t.flat.length - 1) + ts.flat.length) by simp [Trs.flat]; omega]
  rw [← List.range'_append_1, ← List.range'_append_1, show a + 1 + (t.flat.length - 1) = a + t.flat.length by omega]
  rfl
end
end Go.Proofs.YtpbflfgigfdohaaDoor

namespace Go.Proofs.YtpbflfgigfdohaaDoor
open Go Go.Vc Go.RowKit Go.Proofs

theorem dup_nil {D : List Df} (hG : Good D) {i : Nat} (hi : i < D.length) : dupT (TD D i) 0 = [] := by
 have h1 := resF_iff.1 (by rw [← resA_ok hG.ck]; exact hG.res : resF D (TD D) = none)
 refine List.eq_nil_iff_forall_not_mem.2 fun p hp => ?_
 obtain ⟨e, he, hep, -⟩ := (dup_kid (TD D i) 0 p).1 hp
 have h3 : e.p ∈ (kidT (TD D i) 0).map (fun e => e.p) := List.mem_map.2 ⟨e, he, rfl⟩
 rw [kid_range, List.mem_range'_1] at h3
 have hfl := hG.trd.fl i hi
 rw [hfl] at h3
 exact (h1.2 i hi p (by omega)).1 hp
theorem bnd_none {D : List Df} (h : bndF D = none) {i : Nat} (hi : i < D.length) : ∀ x ∈ tyD D i, outB x = false := by
 intro x hx
 have h1 := firstN_none (firstN_none h i hi)
 obtain ⟨j, hj, rfl⟩ := List.getElem_of_mem hx
 have h2 := h1 j hj
 unfold bndN at h2
 rw [List.getD_eq_getElem?_getD, List.getElem?_eq_getElem hj] at h2
 simp only [Option.getD_some] at h2
 cases ho : outB (tyD D i)[j] with
 | false => rfl
 | true => rw [ho] at h2; simp at h2
noncomputable def mkS (D : List Df) (k : Nat) : (Nat → Int) × List Tp := mkO (whD D) (TD D) ((ordN D).take k) (fun _ => 0) []
theorem mkS_succ {D : List Df} {k : Nat} (hk : k < (ordN D).length) : mkS D (k + 1) = (upI (mkS D k).1 (ordN D)[k] (mkT (fun nm => (mkS D k).1 (whD D nm)) (TD D (ordN D)[k]) (mkS D k).2).1, (mkT (fun nm => (mkS D k).1 (whD D nm)) (TD D (ordN D)[k]) (mkS D k).2).2) := mkO_take hk
/-- what has been built of the first k -/
structure MkOk (D : List Df) (k : Nat) : Prop where
 ok : LOk (mkS D k).2
 rt : ∀ i ∈ (ordN D).take k, 0 ≤ (mkS D k).1 i ∧ (mkS D k).1 i < ((mkS D k).2.length : Int) ∧ dpI (mkS D k).2 ((mkS D k).1 i).toNat = depN D (TD D) i
 ln : (mkS D k).2.length = (((ordN D).take k).map fun i => cntN (tyD D i)).sum
 us : ∀ j, j < (mkS D k).2.length → (∃ i ∈ (ordN D).take k, (mkS D k).1 i = (j : Int)) ∨ Usd (mkS D k).2 j
theorem mk_ok {D : List Df} (hG : Good D) (hb : bndF D = none) : ∀ k, k ≤ (ordN D).length → MkOk D k
 | 0, _ => ⟨LOk.nil, fun i hi => by simp at hi, rfl, fun j hj => by simp [mkS, mkO] at hj⟩
 | k + 1, hk => by
  have IH := mk_ok hG hb k (by omega)
  obtain ⟨hto, htl⟩ := hG.ord
  have hk1 : k < (ordN D).length := by omega
  obtain ⟨i, hie⟩ : ∃ i, i = (ordN D)[k] := ⟨_, rfl⟩
  have hi : i < D.length := by rw [hie]; exact hto.lt _ (List.getElem_mem hk1)
  have hwf := hG.trd.wf i hi
  have hfl := hG.trd.fl i hi
  have hfix := dep_fix hG.trd hto htl i hi
  have hnm : Nmd (whD D) (depN D (TD D)) (fun nm => (mkS D k).1 (whD D nm)) (mkS D k).2 (TD D i).flat := fun x hx h9 => by
   rw [hfl, tyD_at hi] at hx
   have h1 := uses_mem hi hx h9
   rw [hie] at h1
   exact IH.rt _ (hto.bh k hk1 _ h1)
  obtain ⟨g1, g2, g3, g4⟩ := mkT_ok (TD D i) (mkS D k).2 0 0 0 hwf (dup_nil hG hi) (fun x hx => bnd_none hb hi x (by rw [hfl] at hx; exact hx)) hnm IH.ok (by rw [← hfix]; exact hG.deep i hi)
  obtain ⟨M, hM, hMl⟩ := mkT_pre (fun nm => (mkS D k).1 (whD D nm)) (TD D i) (mkS D k).2 (wf_leafy _ _ _ hwf)
  have hus := mkT_used (fun nm => (mkS D k).1 (whD D nm)) (TD D i) (mkS D k).2 0 0 hwf
  have hS := mkS_succ hk1
  rw [← hie] at hS
  have htk : (ordN D).take (k + 1) = (ordN D).take k ++ [i] := by rw [List.take_succ_eq_append_getElem hk1, hie]
  have hni : i ∉ (ordN D).take k := fun h => by
   have h1 : ((ordN D).take (k + 1)).Nodup := hto.nd.sublist (List.take_sublist _ _)
   rw [htk, List.nodup_append] at h1
   exact h1.2.2 i h i (by simp) rfl
  obtain ⟨r, hr⟩ : ∃ r, r = mkT (fun nm => (mkS D k).1 (whD D nm)) (TD D i) (mkS D k).2 := ⟨_, rfl⟩
  rw [← hr] at g1 g2 g3 g4 hM hS hus
  refine ⟨by rw [hS]; exact g1, ?_, ?_, ?_⟩
  ·rw [hS, htk]
   intro i' hi'
   show 0 ≤ upI (mkS D k).1 i r.1 i' ∧ upI (mkS D k).1 i r.1 i' < (r.2.length : Int) ∧ dpI r.2 (upI (mkS D k).1 i r.1 i').toNat = _
   rcases List.mem_append.1 hi' with h | h
   ·have hne : i' ≠ i := fun e => hni (e ▸ h)
    have hu : upI (mkS D k).1 i r.1 i' = (mkS D k).1 i' := if_neg hne
    obtain ⟨q1, q2, q3⟩ := IH.rt i' h
    rw [hu]
    exact ⟨q1, by rw [hM, List.length_append]; omega, by rw [hM, dpI_app (by omega)]; exact q3⟩
   have he : i' = i := by simpa using h
   subst he
   have hu : upI (mkS D k).1 i' r.1 i' = r.1 := if_pos rfl
   rw [hu]
   exact ⟨g2, g3, by rw [g4]; exact hfix.symm⟩
  ·rw [hS, htk, List.map_append, List.sum_append, ← IH.ln]
   show r.2.length = _
   rw [hM, List.length_append, hMl, hfl]
   simp
  rw [hS, htk]
  intro j hj
  show (∃ i' ∈ _, upI (mkS D k).1 i r.1 i' = (j : Int)) ∨ Usd r.2 j
  rcases Nat.lt_or_ge j (mkS D k).2.length with h | h
  ·rcases IH.us j h with ⟨i', h1, h2⟩ | h1
   ·refine .inl ⟨i', List.mem_append_left _ h1, ?_⟩
    have hne : i' ≠ i := fun e => hni (e ▸ h1)
    have hu : upI (mkS D k).1 i r.1 i' = (mkS D k).1 i' := if_neg hne
    exact hu.trans h2
   right; rw [hM]; exact h1.app
  rcases hus j h hj with h1 | h1
  ·exact .inl ⟨i, by simp, by rw [show upI (mkS D k).1 i r.1 i = r.1 from if_pos rfl]; exact h1.symm⟩
  exact .inr h1
theorem mkS_all (D : List Df) : mkS D (ordN D).length = mkO (whD D) (TD D) (ordN D) (fun _ => 0) [] := by rw [mkS, List.take_length]
theorem rooN_at {D : List Df} {f : Nat → Int} {i : Nat} (hi : i < D.length) : (rooN D f).getD i ro0 = ⟨(D.getD i df0).name, f i⟩ := by
 unfold rooN
 rw [List.getD_eq_getElem?_getD, List.getElem?_map, List.getElem?_range hi]
 rfl
theorem rooN_len (D : List Df) (f : Nat → Int) : (rooN D f).length = D.length := by unfold rooN; rw [List.length_map, List.length_range]
end Go.Proofs.YtpbflfgigfdohaaDoor

namespace Go.Proofs.YtpbflfgigfdohaaDoor
open Go Go.Vc Go.RowKit Go.Proofs

theorem sum_all (f : Nat → Nat) : ∀ (n : Nat) (l : List Nat), l.Nodup → (∀ i ∈ l, i < n) → l.length = n → (l.map f).sum = ((List.range n).map f).sum
 | 0, l, _, _, hl => by
  have : l = [] := List.eq_nil_of_length_eq_zero hl
  subst this; rfl
 | n + 1, l, hnd, hlt, hl => by
  have hm : n ∈ l := by
   refine Classical.byContradiction fun hn => ?_
   have := nodup_len n l hnd (fun x hx => by have := hlt x hx; have hne : x ≠ n := fun e => hn (e ▸ hx); omega)
   omega
  obtain ⟨a, b, rfl⟩ := List.append_of_mem hm
  rw [List.nodup_append, List.nodup_cons] at hnd
  obtain ⟨h1, ⟨h2, h3⟩, h4⟩ := hnd
  have hab : (a ++ b).Nodup := List.nodup_append.2 ⟨h1, h3, fun x hx y hy => h4 x hx y (List.mem_cons_of_mem _ hy)⟩
  have IH := sum_all f n (a ++ b) hab (fun x hx => by
   have h5 := hlt x (by rcases List.mem_append.1 hx with h | h; exact List.mem_append_left _ h; exact List.mem_append_right _ (List.mem_cons_of_mem _ h))
   have hne : x ≠ n := fun e => by
    subst e
    rcases List.mem_append.1 hx with h | h
    ·exact h4 x h x (List.mem_cons_self ..) rfl
    exact h2 h
   omega) (by simp at hl ⊢; omega)
  have hr : ((List.range (n + 1)).map f).sum = ((List.range n).map f).sum + f n := by rw [List.range_succ, List.map_append, List.sum_append]; simp
  rw [hr, ← IH]
  simp
  omega
theorem bld_len {D : List Df} (hG : Good D) (hb : bndF D = none) : (schT D).length = ((List.range D.length).map fun i => cntN (tyD D i)).sum := by
 have hM := mk_ok hG hb _ (Nat.le_refl _)
 obtain ⟨hto, htl⟩ := hG.ord
 have hT : schT D = (mkS D (ordN D).length).2 := by rw [mkS_all]; rfl
 rw [hT, hM.ln, List.take_length]
 exact sum_all _ D.length _ hto.nd hto.lt htl
theorem bld_ok {D : List Df} (hG : Good D) (hb : bndF D = none) : LOk (schT D) := by
 have hT : schT D = (mkS D (ordN D).length).2 := by rw [mkS_all]; rfl
 rw [hT]
 exact (mk_ok hG hb _ (Nat.le_refl _)).ok
theorem schR_len (D : List Df) : (schR D).length = D.length := rooN_len D _
theorem schR_at {D : List Df} (hG : Good D) (hb : bndF D = none) {i : Nat} (hi : i < D.length) : ((schR D).getD i ro0).name = (D.getD i df0).name ∧ 0 ≤ ((schR D).getD i ro0).ty ∧ ((schR D).getD i ro0).ty < ((schT D).length : Int) := by
 have hM := mk_ok hG hb _ (Nat.le_refl _)
 obtain ⟨hto, htl⟩ := hG.ord
 have hT : schT D = (mkS D (ordN D).length).2 := by rw [mkS_all]; rfl
 have hR : schR D = rooN D (mkS D (ordN D).length).1 := by rw [mkS_all]; rfl
 have hin : i ∈ (ordN D).take (ordN D).length := by rw [List.take_length]; exact hto.all htl i hi
 obtain ⟨g1, g2, -⟩ := hM.rt i hin
 rw [hR, hT, rooN_at hi]
 exact ⟨rfl, g1, g2⟩
end Go.Proofs.YtpbflfgigfdohaaDoor

namespace Go.Proofs.YtpbflfgigfdohaaDoor
open Go Go.Vc Go.RowKit Go.Proofs

def inE (A B : List (List UInt8)) (x : Ex) : Prop := (x.name = [] ∨ x.name ∈ A) ∧ (x.label = [] ∨ x.label ∈ B)
def inD (A B : List (List UInt8)) (d : Df) : Prop := d.name ∈ A ∧ ∀ x ∈ d.ty, inE A B x
section
variable {D : List Df} {A B : List (List UInt8)} (hck : (chkS D).2.2 = 0) (hin : ∀ d ∈ D, inD A B d)
include hck hin
end

end Go.Proofs.YtpbflfgigfdohaaDoor

namespace Go.Proofs.YtpbflfgigfdohaaDoor
open Go Go.Vc Go.RowKit Go.Proofs

theorem depO_sim {wh wh' : List UInt8 → Nat} {T T' : Nat → Tr} : ∀ (l : List Nat) (f : Nat → Nat), (∀ i ∈ l, ∀ f : Nat → Nat, depT wh' f (T' i) = depT wh f (T i)) → depO wh' T' l f = depO wh T l f
 | [], f, _ => rfl
 | i :: l, f, h => by
  unfold depO
  rw [h i (List.mem_cons_self ..) f]
  exact depO_sim l _ (fun j hj => h j (List.mem_cons_of_mem _ hj))
section
variable {D : List Df} {A B : List (List UInt8)} (hck : (chkS D).2.2 = 0) (hin : ∀ d ∈ D, inD A B d)
include hck hin
end
section
variable {D : List Df} {A B : List (List UInt8)} (hck : (chkS D).2.2 = 0) (hin : ∀ d ∈ D, inD A B d) (hA : A.length < 10 ^ 30) (hB : B.length < 10 ^ 30)
include hck hin hA hB
end
end Go.Proofs.YtpbflfgigfdohaaDoor

namespace Go.Proofs.YtpbflfgigfdohaaDoor
open Go Go.Vc Go.RowKit Go.Proofs
structure Sxb (x x' : Ex) : Prop where
 kind : x'.kind = x.kind
 tag : x'.tag = x.tag
 kids : x'.kids = x.kids
 rt : ∀ above, rightB x above = true → rightB x' above = true
theorem chkE_impB {S : Ex → Ex → Prop} (hS : ∀ x x', S x x' → Sxb x x') {L L' : List Ex} (h : F2 S L L') : ∀ (K : List Opn) (i : Nat), (chkE K i L).2 = 0 → (chkE K i L').2 = 0 := by
 induction h with
 | nil => exact fun K i h => h
 | @cons x x' l m hs _ ih =>
  intro K i h0
  rw [chkE_cons] at h0 ⊢
  have hx := hS _ _ hs
  split at h0
  ·cases h0
  rename_i o K' he
  split at h0
  ·cases h0
  rename_i h16
  rw [if_neg h16]
  split at h0
  ·cases h0
  rename_i hm
  have hm' : ¬ manyB x' = true := by unfold manyB at hm ⊢; rw [hx.kind, hx.kids]; exact hm
  rw [if_neg hm']
  split at h0
  ·cases h0
  rename_i hr
  have hr2 : rightB x o.kind = true := by simpa using hr
  rw [if_neg (by rw [hx.rt _ hr2]; decide), hx.kind, hx.kids]
  exact ih _ _ h0
structure SimB (S : Ex → Ex → Prop) (D D' : List Df) : Prop where
 len : D'.length = D.length
 nm : ∀ i, i < D.length → nameB (D.getD i df0).name = true → nameB (D'.getD i df0).name = true
 ty : ∀ i, i < D.length → F2 S (tyD D i) (tyD D' i)
theorem SimB.chk {S : Ex → Ex → Prop} (hS : ∀ x x', S x x' → Sxb x x') {D D' : List Df} (h : SimB S D D') (hc : (chkS D).2.2 = 0) : (chkS D').2.2 = 0 := by
 rw [chkS_iff] at hc ⊢
 refine ⟨by rw [h.len]; exact hc.1, fun d' hd' => ?_⟩
 obtain ⟨i, hi, rfl⟩ := List.getElem_of_mem hd'
 have hi2 : i < D.length := by rw [← h.len]; exact hi
 obtain ⟨g1, g2⟩ := hc.2 _ (List.getElem_mem hi2)
 have h1 := h.nm i hi2
 have h2 := h.ty i hi2
 rw [getD_at hi2, getD_at hi] at h1
 rw [tyD_at hi2, tyD_at hi] at h2
 exact ⟨h1 g1, chkE_impB hS h2 _ _ g2⟩
mutual
theorem tsim_ofB {S : Ex → Ex → Prop} (hS : ∀ x x', S x x' → Sxb x x') : ∀ (t u : Tr) (r s : List Ex) (a b : Int) (d e : Nat), t.wf a d → u.wf b e → F2 S (t.flat ++ r) (u.flat ++ s) → TSim S t u ∧ F2 S r s
 | .node y ks, .node z ls, r, s, a, b, d, e, h1, h2, h => by
  simp only [Tr.flat, List.cons_append] at h
  cases h with
  | cons hs h =>
   obtain ⟨-, -, -, hk1, hw1⟩ := h1
   obtain ⟨-, -, -, hk2, hw2⟩ := h2
   have hkk := (hS _ _ hs).kids
   obtain ⟨g1, g2⟩ := tssim_ofB hS ks ls r s _ _ _ _ hw1 hw2 (by omega) h
   exact ⟨by unfold TSim; exact ⟨hs, g1⟩, g2⟩
theorem tssim_ofB {S : Ex → Ex → Prop} (hS : ∀ x x', S x x' → Sxb x x') : ∀ (t u : Trs) (r s : List Ex) (a b : Int) (d e : Nat), t.wf a d → u.wf b e → t.len = u.len → F2 S (t.flat ++ r) (u.flat ++ s) → TsSim S t u ∧ F2 S r s
 | .nil, .nil, r, s, _, _, _, _, _, _, _, h => ⟨by unfold TsSim; trivial, h⟩
 | .nil, .cons t ts, _, _, _, _, _, _, _, _, hl, _ => by simp [Trs.len] at hl
 | .cons t ts, .nil, _, _, _, _, _, _, _, _, hl, _ => by simp [Trs.len] at hl
 | .cons t ts, .cons u us, r, s, a, b, d, e, h1, h2, hl, h => by
  simp only [Trs.flat, List.append_assoc] at h
  obtain ⟨g1, g2⟩ := tsim_ofB hS t u _ _ _ _ _ _ h1.1 h2.1 h
  obtain ⟨g3, g4⟩ := tssim_ofB hS ts us r s _ _ _ _ h1.2 h2.2 (by simp [Trs.len] at hl; omega) g2
  exact ⟨by unfold TsSim; exact ⟨g1, g3⟩, g4⟩
end
theorem dupB_simB {S : Ex → Ex → Prop} (hS : ∀ x x', S x x' → Sxb x x') (hl : LabS S) {kind : Int} {seen seen' : List Ex} (h : F2 S seen seen') {x x' : Ex} (hx : S x x') : dupB kind seen x = dupB kind seen' x' := by
 unfold dupB
 have h8 : seen.any (fun y => decide (y.label = x.label)) = seen'.any (fun y => decide (y.label = x'.label)) := by
  induction h with
  | nil => rfl
  | cons hs _ ih =>
   rw [List.any_cons, List.any_cons, ih]
   congr 1
   exact decide_eq_decide.2 (hl _ _ _ _ hs hx)
 have h7 : seen.any (fun y => decide (y.tag = x.tag)) = seen'.any (fun y => decide (y.tag = x'.tag)) := by
  clear h8
  induction h with
  | nil => rfl
  | cons hs _ ih =>
   rw [List.any_cons, List.any_cons, ih]
   congr 1
   rw [(hS _ _ hs).tag, (hS _ _ hx).tag]
 rw [h8, h7]
mutual
theorem dupT_simB {S : Ex → Ex → Prop} (hS : ∀ x x', S x x' → Sxb x x') (hl : LabS S) : ∀ (t u : Tr) (a : Nat), TSim S t u → dupT t a = dupT u a
 | .node y ks, .node z ls, a, h => by
  unfold TSim at h
  unfold dupT
  rw [(hS _ _ h.1).kind]
  exact dupK_simB hS hl y.kind ks ls (a + 1) [] [] h.2 .nil
theorem dupK_simB {S : Ex → Ex → Prop} (hS : ∀ x x', S x x' → Sxb x x') (hl : LabS S) (kind : Int) : ∀ (t u : Trs) (a : Nat) (seen seen' : List Ex), TsSim S t u → F2 S seen seen' → dupK kind t a seen = dupK kind u a seen'
 | .nil, .nil, _, _, _, _, _ => rfl
 | .nil, .cons t ts, _, _, _, h, _ => by unfold TsSim at h; exact h.elim
 | .cons t ts, .nil, _, _, _, h, _ => by unfold TsSim at h; exact h.elim
 | .cons t ts, .cons u us, a, seen, seen', h, hs => by
  unfold TsSim at h
  unfold dupK
  have ht := tsim_top h.1
  rw [dupB_simB hS hl hs ht, dupT_simB hS hl t u a h.1, tsim_len t u h.1, dupK_simB hS hl kind ts us _ _ _ h.2 (hs.snoc ht)]
end
theorem SimB.tsim {S : Ex → Ex → Prop} (hS : ∀ x x', S x x' → Sxb x x') {D D' : List Df} (h : SimB S D D') {T T' : Nat → Tr} (hT : Trd D T) (hT' : Trd D' T') {i : Nat} (hi : i < D.length) : TSim S (T i) (T' i) := by
 have hi' : i < D'.length := by rw [h.len]; exact hi
 refine (tsim_ofB hS (T i) (T' i) [] [] 0 0 0 0 (hT.wf i hi) (hT'.wf i hi') ?_).1
 rw [List.append_nil, List.append_nil, hT.fl i hi, hT'.fl i hi']
 exact h.ty i hi
mutual
theorem depT_simB {S : Ex → Ex → Prop} (hS : ∀ x x', S x x' → Sxb x x') {wh wh' : List UInt8 → Nat} {dp dq : Nat → Nat} : ∀ (t u : Tr), TSim S t u → (∀ x ∈ t.flat, ∀ x', S x x' → x.kind = 9 → dq (wh' x'.name) = dp (wh x.name)) → depT wh' dq u = depT wh dp t
 | .node y ks, .node z ls, h, hn => by
  unfold TSim at h
  unfold depT
  rw [(hS _ _ h.1).kind]
  by_cases h9 : y.kind = 9
  ·rw [if_pos h9, if_pos h9]
   exact hn y (List.mem_cons_self ..) z h.1 h9
  rw [if_neg h9, if_neg h9, depK_simB hS ks ls 0 h.2 (fun x hx => hn x (List.mem_cons_of_mem _ hx))]
theorem depK_simB {S : Ex → Ex → Prop} (hS : ∀ x x', S x x' → Sxb x x') {wh wh' : List UInt8 → Nat} {dp dq : Nat → Nat} : ∀ (t u : Trs) (m : Nat), TsSim S t u → (∀ x ∈ t.flat, ∀ x', S x x' → x.kind = 9 → dq (wh' x'.name) = dp (wh x.name)) → depK wh' dq u m = depK wh dp t m
 | .nil, .nil, _, _, _ => rfl
 | .nil, .cons t ts, _, h, _ => by unfold TsSim at h; exact h.elim
 | .cons t ts, .nil, _, h, _ => by unfold TsSim at h; exact h.elim
 | .cons t ts, .cons u us, m, h, hn => by
  unfold TsSim at h
  unfold depK
  rw [depT_simB hS t u h.1 (fun x hx => hn x (List.mem_append_left _ hx)), depK_simB hS ts us _ h.2 (fun x hx => hn x (List.mem_append_right _ hx))]
end

theorem bareE_if2 {a b : Ex} : bareE a = bareE b ↔ a.kind = b.kind ∧ a.n = b.n ∧ a.name = b.name ∧ a.label = b.label ∧ a.tag = b.tag ∧ a.kids = b.kids := by simp [bareE]
theorem bareD_if2 {a b : Df} : bareD a = bareD b ↔ a.name = b.name ∧ a.ty.map bareE = b.ty.map bareE := by simp [bareD]
/-- alike but for places -/
def SB (x x' : Ex) : Prop := bareE x = bareE x'
theorem right_bare {x x' : Ex} (h : SB x x') (a : Int) : rightB x' a = rightB x a := by
 obtain ⟨h1, h2, h3, h4, h5, h6⟩ := bareE_if2.1 h
 unfold rightB okB namB labB tagB
 rw [h1, h2, h3, h4, h5, h6]
theorem SB.sxb : ∀ x x', SB x x' → Sxb x x' := fun x x' h => by
 obtain ⟨h1, h2, h3, h4, h5, h6⟩ := bareE_if2.1 h
 exact ⟨h1.symm, h5.symm, h6.symm, fun a ha => by rw [right_bare h]; exact ha⟩
theorem SB.lab : LabS SB := fun x x' y y' h k => by
 obtain ⟨-, -, -, h4, -, -⟩ := bareE_if2.1 h
 obtain ⟨-, -, -, k4, -, -⟩ := bareE_if2.1 k
 rw [h4, k4]
/-- two sources alike but for places -/
def Like0 (D D' : List Df) : Prop := D.map bareD = D'.map bareD
section
variable {D D' : List Df} (h : Like0 D D')
include h
theorem l0_len : D'.length = D.length := by
 have := congrArg List.length h
 simpa using this.symm
theorem l0_at (i : Nat) : bareD (D.getD i df0) = bareD (D'.getD i df0) := by
 have h1 : (D.map bareD).getD i (bareD df0) = (D'.map bareD).getD i (bareD df0) := by rw [show D.map bareD = D'.map bareD from h]
 simp only [List.getD_eq_getElem?_getD, List.getElem?_map, Option.getD_map] at h1 ⊢
 exact h1
theorem l0_nm (i : Nat) : (D'.getD i df0).name = (D.getD i df0).name := ((bareD_if2.1 (l0_at h i)).1).symm
theorem l0_ty (i : Nat) : (tyD D' i).map bareE = (tyD D i).map bareE := ((bareD_if2.1 (l0_at h i)).2).symm
theorem l0_F2 (i : Nat) : F2 SB (tyD D i) (tyD D' i) := by
 have hm := l0_ty h i
 have hl : (tyD D i).length = (tyD D' i).length := by have := congrArg List.length hm; simpa using this.symm
 refine F2.of hl (fun j h1 h2 => ?_)
 have h3 : ((tyD D' i).map bareE)[j]? = ((tyD D i).map bareE)[j]? := by rw [hm]
 rw [List.getElem?_map, List.getElem?_map, List.getElem?_eq_getElem h1, List.getElem?_eq_getElem h2] at h3
 have h4 : bareE (tyD D' i)[j] = bareE (tyD D i)[j] := by simpa using h3
 exact h4.symm
theorem l0_where : whereN D' = whereN D := by
 funext s
 have e : ∀ E : List Df, whereN E s = (E.map (fun d => d.name)).findIdx? (fun n => decide (n = s)) := fun E => by unfold whereN; rw [List.findIdx?_map]; rfl
 have hn : D'.map (fun d => d.name) = D.map (fun d => d.name) := by
  have e2 : ∀ E : List Df, E.map (fun d => d.name) = (E.map bareD).map (fun d => d.name) := fun E => by rw [List.map_map]; rfl
  rw [e2 D', e2 D, show D.map bareD = D'.map bareD from h]
 rw [e, e, hn]
theorem l0_uses : usesD D' = usesD D := by
 funext i
 have e : ∀ E : List Df, usesD E i = ((((tyD E i).map bareE).filter (fun x => decide (x.kind = 9))).map (fun x => (whereN E x.name).getD 0)) := fun E => by
  unfold usesD
  rw [List.filter_map, List.map_map]
  rfl
 rw [e, e, l0_ty h, l0_where h]
theorem l0_ord : ordN D' = ordN D := by unfold ordN; rw [l0_len h, l0_uses h]
theorem l0_sim : SimB SB D D' := ⟨l0_len h, fun i _ hn => by rw [l0_nm h]; exact hn, fun i _ => l0_F2 h i⟩
end
theorem Like0.symm {D D' : List Df} (h : Like0 D D') : Like0 D' D := Eq.symm h
theorem l0_ck {D D' : List Df} (h : Like0 D D') : (chkS D').2.2 = 0 ↔ (chkS D).2.2 = 0 := ⟨fun hc => (l0_sim h.symm).chk SB.sxb hc, fun hc => (l0_sim h).chk SB.sxb hc⟩
theorem l0_tsim {D D' : List Df} (h : Like0 D D') (hc : (chkS D).2.2 = 0) {i : Nat} (hi : i < D.length) : TSim SB (TD D i) (TD D' i) := (l0_sim h).tsim SB.sxb (trd_of hc) (trd_of ((l0_ck h).2 hc)) hi
theorem l0_res {D D' : List Df} (h : Like0 D D') (hc : (chkS D).2.2 = 0) (hr : resF D (TD D) = none) : resF D' (TD D') = none := by
 rw [resF_iff] at hr ⊢
 have hl := l0_len h
 refine ⟨fun i hi j hj he => hr.1 i (by omega) j (by omega) (by rw [l0_nm h, l0_nm h] at he; exact he), fun i hi j hj => ?_⟩
 have hi2 : i < D.length := by omega
 have hj2 : j < (tyD D i).length := by rw [(l0_F2 h i).len]; exact hj
 obtain ⟨g1, g2⟩ := hr.2 i hi2 j hj2
 rw [← dupT_simB SB.sxb SB.lab _ _ 0 (l0_tsim h hc hi2)]
 refine ⟨g1, ?_⟩
 have hb := bareE_if2.1 ((l0_F2 h i).at j hj2 hj)
 rw [List.getD_eq_getElem?_getD, List.getElem?_eq_getElem hj2] at g2
 rw [List.getD_eq_getElem?_getD, List.getElem?_eq_getElem hj, l0_where h]
 simp only [Option.getD_some] at g2 ⊢
 rw [← hb.1, ← hb.2.2.1]
 exact g2
theorem l0_dep {D D' : List Df} (h : Like0 D D') (hc : (chkS D).2.2 = 0) : depN D' (TD D') = depN D (TD D) := by
 unfold depN
 rw [l0_ord h]
 refine depO_sim _ _ (fun i hi f => ?_)
 have hi : i < D.length := ord_lt _ _ (fun _ h => by cases h) i hi
 refine depT_simB SB.sxb _ _ (l0_tsim h hc hi) (fun x hx x' hs h9 => ?_)
 unfold whD
 rw [l0_where h, (bareE_if2.1 hs).2.2.1]
theorem l0_good {D D' : List Df} (h : Like0 D D') (hG : Good D) : Good D' := by
 have hc := (l0_ck h).2 hG.ck
 refine ⟨hc, by rw [resA_ok hc]; exact l0_res h hG.ck (by rw [← resA_ok hG.ck]; exact hG.res), ?_, ?_⟩
 ·have h1 := firstN_none hG.rn
  refine firstN_miss fun i hi => ?_
  have h2 := h1 i (by rw [← l0_len h]; exact hi)
  rw [l0_uses h]
  split at h2
  ·cases h2
  rename_i hn; exact if_neg hn
 have h1 := firstN_none hG.dn
 refine firstN_miss fun i hi => ?_
 have h2 := h1 i (by rw [← l0_len h]; exact hi)
 rw [l0_dep h hG.ck]
 split at h2
 ·cases h2
 rename_i hn; exact if_neg hn
theorem l0_bnd {D D' : List Df} (h : Like0 D D') (hb : bndF D = none) : bndF D' = none := by
 refine firstN_miss fun i hi => firstN_miss fun j hj => ?_
 have hj2 : j < (tyD D i).length := by rw [(l0_F2 h i).len]; exact hj
 have h1 := firstN_none (firstN_none hb i (by rw [← l0_len h]; exact hi)) j hj2
 unfold bndN at h1 ⊢
 have hbe := bareE_if2.1 ((l0_F2 h i).at j hj2 hj)
 rw [List.getD_eq_getElem?_getD, List.getElem?_eq_getElem hj2] at h1
 rw [List.getD_eq_getElem?_getD, List.getElem?_eq_getElem hj]
 simp only [Option.getD_some] at h1 ⊢
 have ho : outB (tyD D' i)[j] = outB (tyD D i)[j] := by unfold outB; rw [← hbe.1, ← hbe.2.1, ← hbe.2.2.2.2.1]
 rw [ho]
 split at h1
 ·cases h1
 rename_i hn; exact if_neg hn
mutual
theorem mkT_sim {rt rt' : List UInt8 → Int} (hrt : rt' = rt) : ∀ (t u : Tr) (L : List Tp), TSim SB t u → mkT rt' u L = mkT rt t L
 | .node y ks, .node z ls, L, h => by
  obtain ⟨h1, h2, h3, -, -, -⟩ := bareE_if2.1 h.1
  rw [mkT, mkT, ← h1, ← h2, ← h3, mkK_sim hrt y.kind ks ls L 0 [] h.2, hrt]
theorem mkK_sim {rt rt' : List UInt8 → Int} (hrt : rt' = rt) (kind : Int) : ∀ (t u : Trs) (L : List Tp) (el : Int) (ps : List Pa), TsSim SB t u → mkK rt' kind u L el ps = mkK rt kind t L el ps
 | .nil, .nil, L, el, ps, _ => rfl
 | .nil, .cons _ _, _, _, _, h => h.elim
 | .cons _ _, .nil, _, _, _, h => h.elim
 | .cons t ts, .cons u us, L, el, ps, h => by
  obtain ⟨-, -, -, h4, h5, -⟩ := bareE_if2.1 (tsim_top h.1)
  rw [mkK, mkK, mkT_sim hrt t u L h.1, ← h4, ← h5]
  split
  ·exact mkK_sim hrt kind ts us _ _ _ h.2
  exact mkK_sim hrt kind ts us _ _ _ h.2
end
theorem mkO_sim {wh : List UInt8 → Nat} {T T' : Nat → Tr} : ∀ (l : List Nat) (f : Nat → Int) (L : List Tp), (∀ i ∈ l, TSim SB (T i) (T' i)) → mkO wh T' l f L = mkO wh T l f L
 | [], f, L, _ => rfl
 | i :: l, f, L, h => by
  rw [mkO, mkO, mkT_sim rfl _ _ L (h i (List.mem_cons_self ..))]
  exact mkO_sim l _ _ (fun j hj => h j (List.mem_cons_of_mem _ hj))
theorem l0_mk {D D' : List Df} (h : Like0 D D') (hc : (chkS D).2.2 = 0) : mkO (whD D') (TD D') (ordN D') (fun _ => 0) [] = mkO (whD D) (TD D) (ordN D) (fun _ => 0) [] := by
 have hw : whD D' = whD D := by unfold whD; rw [l0_where h]
 rw [l0_ord h, hw]
 exact mkO_sim _ _ _ (fun i hi => l0_tsim h hc (ord_lt _ _ (fun _ h => by cases h) i hi))
theorem l0_sch {D D' : List Df} (h : Like0 D D') (hc : (chkS D).2.2 = 0) : schT D' = schT D ∧ schR D' = schR D := by
 refine ⟨by unfold schT; rw [l0_mk h hc], ?_⟩
 unfold schR rooN
 rw [l0_mk h hc, l0_len h]
 exact List.map_congr_left fun i _ => by rw [l0_nm h]
theorem bldF_none {D : List Df} : bldF D = none ↔ (chkS D).2.2 = 0 ∧ fA D = none ∧ bndF D = none := by
 unfold bldF
 by_cases hc : (chkS D).2.2 = 0
 ·rw [if_pos hc]
  cases h : fA D with
  | none => simp [hc]
  | some v => simp
 rw [if_neg hc]; simp [hc]
theorem good_fA {D : List Df} (h : Good D) : fA D = none := by unfold fA; rw [h.res, h.rn, h.dn]; rfl
theorem l0_bld {D D' : List Df} (h : Like0 D D') (hn : bldF D = none) : bldF D' = none ∧ bldT D' = bldT D ∧ bldR D' = bldR D := by
 obtain ⟨h1, h2, h3⟩ := bldF_none.1 hn
 have hG := l0_good h (good_of h2)
 have hn' : bldF D' = none := bldF_none.2 ⟨hG.ck, good_fA hG, l0_bnd h h3⟩
 obtain ⟨h4, h5⟩ := l0_sch h h1
 exact ⟨hn', by unfold bldT; rw [if_pos hn', if_pos hn, h4], by unfold bldR; rw [if_pos hn', if_pos hn, h5]⟩

end Go.Proofs.YtpbflfgigfdohaaDoor

namespace Go.Proofs.YtpbflfgigfdohaaDoor
open Go Go.Vc Go.RowKit Go.Proofs

theorem leaf_no {y : Ex} {ks : Trs} {a : Int} {d : Nat} (h : (Tr.node y ks).wf a d) (hk : y.kind = 1 ∨ y.kind = 2 ∨ y.kind = 3 ∨ y.kind = 9) : ks = .nil := by
 obtain ⟨-, -, hr, hk2, -⟩ := h
 obtain ⟨hok, -, -, -⟩ := rightB_iff hr
 have hk0 : y.kids = 0 := by rcases okB_cases hok with g | g | g | g | g <;> omega
 exact trs_nil (by omega)
end Go.Proofs.YtpbflfgigfdohaaDoor

namespace Go.Proofs.YtpbflfgigfdohaaDoor
open Go Go.Vc Go.RowKit Go.Proofs

theorem blk_lt3 {w : World} {c : Nat} {cs : Array Value} {T : TypeId} {fr : Nat × Nat} (h : w.heap[c]? = some (.cells cs T fr)) : c < w.heap.size := (Array.getElem?_eq_some_iff.1 h).1
theorem blk_ne3 {w : World} {c d : Nat} {cs ds : Array Value} {T U : TypeId} {fr gr : Nat × Nat} (h : w.heap[c]? = some (.cells cs T fr)) (k : w.heap[d]? = some (.cells ds U gr)) (hne : ¬ T = U) : ¬ c = d := fun e => by
 rw [e, k] at h
 simp only [Option.some.injEq, Obj.cells.injEq] at h
 exact hne h.2.1.symm
theorem Many.snocD {w : World} {H0 : Nat} {el : TypeId} {s N m : Nat} {V : Nat → Value} {n : Nat → Nat} {X : Nat → List Value} {v : Value} {xs : List Value} (h : Many w H0 el s N V n X) (hr : w.ownsRow H0 el s v m xs) (hd : ∀ j, j < N → Dj v (V j)) (hn : n N = m) (hX : X N = xs) : Many w H0 el s (N + 1) (fun j => if j = N then v else V j) n X := by
 refine ⟨fun j hj => ?_, fun i j hi hj hij k hk => ?_⟩
 ·by_cases e : j = N
  ·simp only [if_pos e]; rw [e, hn, hX]; exact hr
  simp only [if_neg e]; exact h.row j (by omega)
 by_cases e : i = N
 ·have e2 : j ≠ N := by omega
  simp only [if_pos e, if_neg e2] at hk ⊢
  exact hd j (by omega) k hk
 by_cases e2 : j = N
 ·simp only [if_neg e, if_pos e2] at hk ⊢
  exact fun hk2 => hd i (by omega) k hk2 hk
 simp only [if_neg e, if_neg e2] at hk ⊢
 exact h.off i j (by omega) (by omega) hij k hk
theorem Typs.snocD {w : World} {H : Nat} {D : List Tp} {d : Tp} {V : Nat → Value} {dv v : Value} (hr : w.ownsRow H 49 4 dv (D.length + 1) (trows D V ++ tcell d v)) (ht : Many w H 66 3 D.length V (fun j => (pasT D j).length) (fun j => pas (pasT D j)))
  (hf : w.ownsRow H 66 3 v d.parts.length (pas d.parts)) (hd : ∀ j, j < D.length → Dj v (V j)) : Typs w H (D ++ [d]) dv (fun j => if j = D.length then v else V j) := by
 have e1 : ∀ j, j < D.length → pasT (D ++ [d]) j = pasT D j := fun j hj => by simp [pasT, List.getD_eq_getElem?_getD, List.getElem?_append_left hj]
 have e2 : pasT (D ++ [d]) D.length = d.parts := by simp [pasT, List.getD_eq_getElem?_getD]
 refine ⟨by rw [List.length_append, List.length_singleton, trows_snoc]; exact hr, ?_⟩
 rw [List.length_append, List.length_singleton]
 exact Many.snocD (ht.congr (fun _ _ => rfl) (fun j hj => by rw [e1 j hj]) (fun j hj => by rw [e1 j hj])) hf hd (by rw [e2]) (by rw [e2])
def zvs (n : Nat) (f : Nat → Int) : List Value := (List.range n).map (fun i => Value.int .i64 (f i))
theorem zvs_at {n k : Nat} {f : Nat → Int} (hk : k < n) : (zvs n f)[k]? = some (.int .i64 (f k)) := by
 unfold zvs
 rw [List.getElem?_map, List.getElem?_range hk]
 rfl
/-- what a builder holds; wB: the world that Build began in -/
structure BS (wB w : World) (pb : Nat) (dv rv : Value) (n : Nat) (f : Nat → Int) (L : List Tp) (tv : Value) (U : Nat → Value) (lv : Value) (left : List Ex) : Prop where
 cell : w.heap[pb]? = some (.cells #[dv, tv, rv, lv] 63 (0, 0))
 ty : Typs w wB.heap.size L tv U
 ro : w.ownsRow wB.heap.size 3 1 rv n (zvs n f)
 lf : Sl wB 7 lv left.length (exs left)
 ex : Ext wB w
 pH : wB.heap.size ≤ pb
theorem BS.ext {wB w w' : World} {pb n : Nat} {dv rv : Value} {f : Nat → Int} {L : List Tp} {tv : Value} {U : Nat → Value} {lv : Value} {left : List Ex} (h : BS wB w pb dv rv n f L tv U lv left) (ho : Ext w w') : BS wB w' pb dv rv n f L tv U lv left :=
 ⟨ho.blk h.cell (fun h => h), h.ty.ext ho, Wr h.ro ho, h.lf, h.ex.tr ho, h.pH⟩
/-- what is none of the builder's is written -/
theorem BS.only {wB w w' : World} {pb n : Nat} {dv rv : Value} {f : Nat → Int} {L : List Tp} {tv : Value} {U : Nat → Value} {lv : Value} {left : List Ex} {F : Nat → Prop} (h : BS wB w pb dv rv n f L tv U lv left) (ho : Only F w w') (h1 : ¬ F pb) (h2 : ∀ k, tv.ownBlock = some k → ¬ F k) (h3 : ∀ j, j < L.length → ∀ k, (U j).ownBlock = some k → ¬ F k) (h4 : ∀ k, rv.ownBlock = some k → ¬ F k) (hz : ∀ k, F k → wB.heap.size ≤ k) : BS wB w' pb dv rv n f L tv U lv left :=
 ⟨ho.blk h.cell h1, h.ty.only ho (fun k hk => by
   rcases hk with hk | ⟨j, hj, hk⟩
   ·exact h2 k hk
   exact h3 j hj k hk), own_only h.ro ho h4, h.lf, h.ex.trans' ho (fun _ h => h) (fun k hk e => by have := hz k e; omega), h.pH⟩
theorem BS.off {wB w : World} {pb n c : Nat} {dv rv : Value} {f : Nat → Int} {L : List Tp} {tv : Value} {U : Nat → Value} {lv : Value} {left : List Ex} {cs : Array Value} {T : TypeId} {fr : Nat × Nat} (h : BS wB w pb dv rv n f L tv U lv left) (hc : w.heap[c]? = some (.cells cs T fr)) (h1 : ¬ 63 = T) (h3 : 66 ≠ T) (h4 : 3 ≠ T) : ¬ pb = c ∧ (∀ j, j < L.length → ∀ k, (U j).ownBlock = some k → ¬ k = c) ∧ (∀ k, rv.ownBlock = some k → ¬ k = c) :=
 ⟨fun e => by
  have h5 := h.cell
  rw [e, hc] at h5
  simp only [Option.some.injEq, Obj.cells.injEq] at h5
  exact h1 h5.2.1.symm, fun j hj k hk e => by subst e; exact own_off (h.ty.tys.row j hj) hc h3 hk, fun k hk e => by subst e; exact own_off h.ro hc h4 hk⟩
/-- what is left is another list -/
theorem BS.left {wB w w' : World} {pb n : Nat} {dv rv : Value} {f : Nat → Int} {L : List Tp} {tv : Value} {U : Nat → Value} {lv lv1 : Value} {left left1 : List Ex} (h : BS wB w pb dv rv n f L tv U lv left) (hB : w'.heap[pb]? = some (.cells #[dv, tv, rv, lv1] 63 (0, 0))) (ho : Only (fun k => k = pb) w w') (hl : Sl wB 7 lv1 left1.length (exs left1)) : BS wB w' pb dv rv n f L tv U lv1 left1 :=
 ⟨hB, h.ty.only ho (fun k hk e => by
   subst e
   rcases hk with hk | ⟨j, hj, hk⟩
   ·exact own_off h.ty.row h.cell (by decide) hk
   exact own_off (h.ty.tys.row j hj) h.cell (by decide) hk), own_only h.ro ho (fun k hk e => by subst e; exact own_off h.ro h.cell (by decide) hk), hl, h.ex.trans' ho (fun _ h => h) (fun k hk e => by have := h.pH; omega), h.pH⟩
theorem sl_cap {w : World} {s n c : Nat} {a : Option Addr} {xs : List Value} (h : Sl w s (.slice a n c) n xs) : n ≤ c := by
 rcases h.val with ⟨rfl, _⟩ | ⟨b, off, c', hv, hnc, _⟩
 ·omega
 simp only [Value.slice.injEq] at hv; omega
/-- the blocks of parts: old ones, or new -/
def NewU (w0 : World) (L L' : List Tp) (U U' : Nat → Value) : Prop := ∀ j, j < L'.length → ∀ k, (U' j).ownBlock = some k → (∃ i, i < L.length ∧ (U i).ownBlock = some k) ∨ w0.heap.size ≤ k
def NewV (w0 : World) (tv tv' : Value) : Prop := ∀ k, tv'.ownBlock = some k → tv.ownBlock = some k ∨ w0.heap.size ≤ k
/-- what a call changes -/
def PT (pb : Nat) (tv : Value) : Nat → Prop := fun k => k = pb ∨ tv.ownBlock = some k
theorem NewU.refl (w0 : World) (L : List Tp) (U : Nat → Value) : NewU w0 L L U U := fun j hj k hk => .inl ⟨j, hj, hk⟩
theorem NewV.refl (w0 : World) (tv : Value) : NewV w0 tv tv := fun k hk => .inl hk
theorem NewU.trans {w0 w1 : World} {L L1 L2 : List Tp} {U U1 U2 : Nat → Value} (h : NewU w0 L L1 U U1) (h2 : NewU w1 L1 L2 U1 U2) (hs : w0.heap.size ≤ w1.heap.size) : NewU w0 L L2 U U2 := fun j hj k hk => by
 rcases h2 j hj k hk with ⟨i, hi, h3⟩ | h3
 ·exact h i hi k h3
 exact .inr (by omega)
theorem NewV.trans {w0 w1 : World} {tv t1 t2 : Value} (h : NewV w0 tv t1) (h2 : NewV w1 t1 t2) (hs : w0.heap.size ≤ w1.heap.size) : NewV w0 tv t2 := fun k hk => by
 rcases h2 k hk with h3 | h3
 ·exact h k h3
 exact .inr (by omega)
theorem PT.trans {w0 w1 w2 : World} {pb : Nat} {tv t1 : Value} (h1 : Only (PT pb tv) w0 w1) (hv : NewV w0 tv t1) (h2 : Only (PT pb t1) w1 w2) : Only (PT pb tv) w0 w2 :=
 h1.trans' h2 (fun _ h => h) (fun k hk h => by
  rcases h with h | h
  ·exact .inl h
  rcases hv k h with h | h
  ·exact .inr h
  omega)
/-- what an expression's call does -/
def SEx (wB : World) (pb : Nat) (D : List Df) (dv rv : Value) (f : Nat → Int) (N : Nat) (t : Tr) : Prop := ∀ (rest : List Ex) (L : List Tp) (tv : Value) (U : Nat → Value) (lv : Value) (a : Int) (d : Nat) (w0 : World), t.wf a d → BS wB w0 pb dv rv D.length f L tv U lv (t.flat ++ rest) → (∀ x ∈ t.flat, x.kind = 9 → ∃ i, whereN D x.name = some i) → (∀ x ∈ t.flat, x.name.length ≤ 9223372036854775807 ∧ x.label.length ≤ 9223372036854775807) → L.length + t.flat.length ≤ N → (t.flat ++ rest).length * 72 ≤ 140737488351232 →
 Ca Tryd.prog 15 #[.pointer (some ⟨pb, 0, none⟩)] w0 (fun u w' => ∃ tv' U' lv', u = .int .i64 (mkT (fun nm => f (whD D nm)) t L).1 ∧ BS wB w' pb dv rv D.length f (mkT (fun nm => f (whD D nm)) t L).2 tv' U' lv' rest ∧ Only (PT pb tv) w0 w' ∧ NewV w0 tv tv' ∧ NewU w0 L (mkT (fun nm => f (whD D nm)) t L).2 U U')
theorem mkK_cons7 {rt : List UInt8 → Int} {kind : Int} {t : Tr} {ts : Trs} {L : List Tp} {el : Int} {ps : List Pa} (h : kind = 8 ∨ kind = 7) : mkK rt kind (.cons t ts) L el ps = mkK rt kind ts (mkT rt t L).2 el (ps ++ [⟨t.top.label, t.top.tag, (mkT rt t L).1⟩]) := by rw [mkK, if_pos (by unfold many7; omega)]
theorem mkK_consE {rt : List UInt8 → Int} {kind : Int} {t : Tr} {ts : Trs} {L : List Tp} {el : Int} {ps : List Pa} (h : ¬ (kind = 8 ∨ kind = 7)) : mkK rt kind (.cons t ts) L el ps = mkK rt kind ts (mkT rt t L).2 (mkT rt t L).1 ps := by rw [mkK, if_neg (by unfold many7; omega)]
theorem flat_top (t : Tr) : ∃ r, t.flat = t.top :: r := by cases t; exact ⟨_, rfl⟩
theorem pre1 {w : World} {b : Nat} {x y z u : Value} {T : TypeId} {fr : Nat × Nat} (h : w.heap[b]? = some (.cells #[x, y, z, u] T fr)) : Cells w b 0 [x] := fun i v hv => by
 cases i with
 | zero => simp at hv; subst hv; exact Wh h rfl
 | succ i => simp at hv
theorem tcell_all {t : Tp} {v : Value} (h : v.oneCell' = true) : ∀ a ∈ tcell t v, a.oneCell' = true := by
 intro a ha
 simp only [tcell, List.mem_cons, List.mem_nil_iff, or_false] at ha
 rcases ha with rfl | rfl | rfl | rfl
 ·rfl
 ·rfl
 ·rfl
 exact h
theorem sl_tail {w : World} {a : Option Addr} {c : Nat} {y : Ex} {r : List Ex} (h : Sl w 7 (.slice a (y :: r).length c) (y :: r).length (exs (y :: r))) : Sl w 7 (sliced a 1 (y :: r).length c 7) r.length (exs r) := by
 have h1 := h.sliced 1 (y :: r).length (by simp) (Nat.le_refl _)
 have e1 : (y :: r).length - 1 = r.length := by simp
 have e2 : ((exs (y :: r)).drop (1 * 7)).take (((y :: r).length - 1) * 7) = exs r := by
  rw [e1, show exs (y :: r) = exV y ++ exs r from rfl, Nat.one_mul, List.drop_left' (show (exV y).length = 7 from rfl)]
  exact List.take_of_length_le (by rw [exs_len]; omega)
 rw [e2, e1] at h1
 exact h1

set_option maxHeartbeats 8000000 in
theorem bexpr_step (wB : World) (pb : Nat) (D : List Df) (dv rv : Value) (V : Nat → Value) (f : Nat → Int) (N : Nat) (hDB : DefR wB D dv V) (hlen : D.length * 48 ≤ 140737488351232) (hN : N ≤ 2932031007402) (y : Ex) (ks : Trs) (IH : ∀ t : Tr, t.flat.length < (Tr.node y ks).flat.length → SEx wB pb D dv rv f N t) (rest : List Ex) (L : List Tp) (tv : Value) (U : Nat → Value) (lv : Value) (a : Int) (d : Nat) (w0 : World) (hw : (Tr.node y ks).wf a d) (hS : BS wB w0 pb dv rv D.length f L tv U lv ((Tr.node y ks).flat ++ rest)) (hkn : ∀ x ∈ (Tr.node y ks).flat, x.kind = 9 → ∃ i, whereN D x.name = some i) (hnl : ∀ x ∈ (Tr.node y ks).flat, x.name.length ≤ 9223372036854775807 ∧ x.label.length ≤ 9223372036854775807) (hLN : L.length + (Tr.node y ks).flat.length ≤ N) (hsz : ((Tr.node y ks).flat ++ rest).length * 72 ≤ 140737488351232) : Ca Tryd.prog 15 #[.pointer (some ⟨pb, 0, none⟩)] w0 (fun u w' => ∃ tv' U' lv', u = .int .i64 (mkT (fun nm => f (whD D nm)) (Tr.node y ks) L).1 ∧ BS wB w' pb dv rv D.length f (mkT (fun nm => f (whD D nm)) (Tr.node y ks) L).2 tv' U' lv' rest ∧ Only (PT pb tv) w0 w' ∧ NewV w0 tv tv' ∧ NewU w0 L (mkT (fun nm => f (whD D nm)) (Tr.node y ks) L).2 U U') := by
 have hfl : (Tr.node y ks).flat.length = ks.flat.length + 1 := rfl
 have hkk : y.kids = (ks.len : Int) := hw.2.2.2.1.symm
 have hlk := trs_len_le ks
 obtain ⟨hyn, hyl⟩ := hnl y (List.mem_cons_self ..)
 obtain ⟨r1, hr1⟩ : ∃ r, r = ks.flat ++ rest := ⟨_, rfl⟩
 replace hS : BS wB w0 pb dv rv D.length f L tv U lv (y :: r1) := by rw [hr1]; exact hS
 have hr1l : (y :: r1).length * 72 ≤ 140737488351232 := by rw [hr1]; exact hsz
 obtain ⟨ub, uo, uc, rfl, huc⟩ := Sl.exq hS.lf (k := 0) (by simp)
 have hnc := sl_cap hS.lf
 have htv0 : ∀ k, tv.ownBlock = some k → k < w0.heap.size := fun k hk => (hS.ty.row.lt k hk).2
 have hB0 : wB.heap.size ≤ w0.heap.size := hS.ex.size
 refine Ca.of Tryd.func15 Tryd.ntmps15 rfl rfl (We (Wb (Wa rfl (Wg vI (Wc (We (Wb (Wa rfl (Wf (by first | exact (show _ = Value.pointer _ from rfl) | exact rfl) (Wa rfl (o_nil rfl (Wa rfl (Wl 3 TI63 rfl TI36 rfl rfl (Wa rfl (Wk TI36 rfl rfl (Wh hS.cell rfl) (Wa rfl (Wt (i := 0) TI36 TI40 (show _ = Value.slice (some ⟨ub, uo, none⟩) (y :: r1).length uc from rfl) rfl (by simp) (Wa rfl (o_ldA TI40 rfl rfl (Cells.only huc hS.ex (fun h => h)) rfl (Wa rfl (o_alB TI40 ?_)))))))))))))))))))))
 intro wa hCa hxa hsa
 refine WL.u (o_stA TI40 rfl (show _ = Value.agg (exV y).toArray from rfl) rfl rfl hCa rfl ?_)
 intro wb3 hC3 hob hsb
 have hxb := Ext.own hxa (Nat.le_refl _) hob
 obtain ⟨b3, hb3⟩ : ∃ b, b = w0.heap.size := ⟨_, rfl⟩
 rw [← hb3] at hC3 ⊢
 clear hCa hxa hsa hob hsb
 replace hS := hS.ext hxb
 have hC3q := hC3
 have ho : Only (PT pb tv) w0 _ := hxb.mono (fun _ _ h => h.elim)
 have hz3 : w0.heap.size ≤ b3 := by omega
 clear hxb
 refine Wc (We (Wb (Wa rfl (Wf (by first | exact (show _ = Value.pointer _ from rfl) | exact rfl) (Wa rfl (Wf (by first | exact (show _ = Value.pointer _ from rfl) | exact rfl) (Wa rfl (o_nil rfl (Wa rfl (Wl 3 TI63 rfl TI36 rfl rfl (Wa rfl (Wk TI36 rfl rfl (Wh hS.cell rfl) (Wa rfl (o_slv TI36 TI40 rfl (Lo.s (l := 1) rfl) Hi.n (by simp) hnc ?_))))))))))))))
 obtain ⟨lv1, hlv1⟩ : ∃ v, v = sliced (some ⟨ub, uo, none⟩) 1 (y :: r1).length uc 7 := ⟨_, rfl⟩
 rw [← hlv1]
 have hlf1 : Sl wB 7 lv1 r1.length (exs r1) := by rw [hlv1]; exact sl_tail hS.lf
 refine Wa rfl (o_nil rfl (Wa rfl (Wl 3 TI63 rfl TI36 rfl rfl (WL.u (o_stB TI36 rfl (show _ = lv1 from rfl) (sl_one1 hlf1) hS.cell (show 3 < 4 by decide) ?_)))))
 intro w22 hB22 ho22 hs22
 replace hC3 := ho22.blk hC3 (fun e => (hS.off hC3 (by decide) (by decide) (by decide)).1 e.symm)
 replace hS : BS wB w22 pb dv rv D.length f L tv U lv1 r1 := hS.left hB22 ho22 hlf1
 replace ho := ho.trans (ho22.mono (fun k _ e => .inl e))
 refine Wc (We (We (Wb (Wa rfl (Wl 0 TI40 rfl TI3 rfl rfl (Wa rfl (Wk TI3 rfl rfl (Wh hC3 rfl) (Wa rfl (o_eq rfl rfl (Wc (Wn rfl (fun c25 => ?_) (fun c25 => ?_))))))))))))
 ·try simp only [cs8] at c25
  have hk9 : y.kind = 9 := by simpa using c25
  have hnil := leaf_no hw (by omega)
  subst hnil
  obtain ⟨wi, hwi⟩ := hkn y (List.mem_cons_self ..) hk9
  obtain ⟨hwl, -⟩ := whereN_some hwi
  obtain ⟨rb, rc, hrv, hrb⟩ := own_some hS.ro (by omega)
  refine We ?_
  obtain ⟨wd, hwd⟩ : ∃ wd, wd = w22.drew := ⟨_, rfl⟩
  have hxd : Ext w22 wd := hwd ▸ Only.drew w22
  replace hS := hS.ext hxd
  replace ho := ho.ext hxd
  replace hC3 := hxd.blk hC3 (fun h => h)
  refine W.draw (Ext) [(0, fun v _ => v = _), (3, fun v _ => v = _)] rfl (by kernel_rfl) (Only.refl No) (fun _ _ _ h k => h.trans k) ⟨Mono.eq, Mono.eq, trivial⟩ ⟨rfl, rfl, trivial⟩ (WD.p rfl (fun e w hR hh => by obtain ⟨h0, -⟩ := hh; exact SG.n (Wf h0 ⟨rfl, Only.refl No _⟩)) (WD.p rfl (fun e w hR hh => by obtain ⟨h27, -⟩ := hh; exact SG.n (o_nil h27 ⟨rfl, Only.refl No _⟩)) (WD.p rfl (fun e w hR hh => by obtain ⟨h28, -⟩ := hh; exact SG.n (Wl 0 TI63 rfl TI24 rfl h28 ⟨rfl, Only.refl No _⟩)) (WD.p rfl (fun e w hR hh => by obtain ⟨h29, -⟩ := hh; rw [← hwd] at hR; exact SG.n (o_ldA TI24 rfl h29 (pre1 (hS.ext hR).cell) rfl ⟨rfl, Only.refl No _⟩)) (WD.p rfl (fun e w hR hh => by obtain ⟨h3, -⟩ := hh; exact SG.n (Wl 2 TI40 rfl TI9 rfl h3 ⟨rfl, Only.refl No _⟩)) (WD.p rfl (fun e w hR hh => by obtain ⟨h31, -⟩ := hh; rw [← hwd] at hR; exact SG.n (Wk TI9 rfl h31 (Wh (hR.blk hC3 (fun h => h)) rfl) ⟨rfl, Only.refl No _⟩)) (WD.p rfl (fun e w hR hh => by obtain ⟨h32, h30, -⟩ := hh; rw [← hwd] at hR; exact SG.n (o_call Tryd.call35 (lc h30 (lc h32 ln)) ((find_call D dv V y.name _ (hDB.ext (hS.ext hR).ex) hlen hwi).mono (fun v w' ⟨h1, h2⟩ => ⟨h1, h2⟩)))) (WD.p rfl (fun e w hR hh => by obtain ⟨h33, -⟩ := hh; exact SG.n (Wf h33 ⟨rfl, Only.refl No _⟩)) (WD.p rfl (fun e w hR hh => by obtain ⟨h26, -⟩ := hh; exact SG.n (o_ext h26 rfl ⟨rfl, Only.refl No _⟩)) (WD.p rfl (fun e w hR hh => by obtain ⟨h26, -⟩ := hh; exact SG.n (o_ext h26 rfl ⟨rfl, Only.refl No _⟩)) (WD.p rfl (fun e w hR hh => by obtain ⟨h34, -⟩ := hh; exact SG.n (Wg h34 ⟨rfl, Only.refl No _⟩)) (WD.p rfl (fun e w hR hh => by obtain ⟨h35, -⟩ := hh; exact SG.n (Wg h35 ⟨rfl, Only.refl No _⟩)) ?_))))))))))))
  rintro e w hR ⟨h5, h4, h35, h34, h26, h33, h32, h31, h30, h29, h28, h27, h0, h3, -⟩
  rw [← hwd] at hR
  replace hS := hS.ext hR
  replace ho := ho.ext hR
  have hcr := hS.cell
  rw [hrv] at hcr
  refine We (Wb (Wa rfl (Wf h0 (Wa rfl (o_nil rfl (Wa rfl (Wl 2 TI63 rfl TI57 rfl rfl (Wa rfl (Wk TI57 rfl rfl (Wh hcr rfl) (Wa rfl (Wf h4 (Wa rfl (Wt (i := wi) TI57 TI3 (show _ = Value.slice (some ⟨rb, 0, none⟩) D.length rc from rfl) (show _ = Value.int .i64 (wi : Int) from rfl) (by omega) (Wa rfl (Wk TI3 rfl rfl (show World.cell? _ ⟨rb, 0 + wi * 1, none⟩ = some (.int .i64 (f wi)) from by rw [Nat.zero_add, Nat.mul_one]; exact own_cell (hrv ▸ hS.ro) (zvs_at hwl)) (Wa rfl (Wg vI (Wc (Wm (Wu rfl vI ?_))))))))))))))))))))
  have hm : mkT (fun nm => f (whD D nm)) (Tr.node y .nil) L = (f wi, L) := by rw [mkT, if_pos hk9]; show (f (whD D y.name), L) = _; rw [whD, hwi]; rfl
  rw [hm]
  exact ⟨tv, U, lv1, rfl, by rw [hr1] at hS; exact hS, ho, NewV.refl _ _, NewU.refl _ _ _⟩
 try simp only [cs8] at c25
 have hk9 : ¬ y.kind = 9 := by simpa using c25
 refine Wp (We (Wb (Wa rfl (Wl 0 TI40 rfl TI3 rfl rfl (Wa rfl (Wk TI3 rfl rfl (Wh hC3 rfl) (Wa rfl (Wl 1 TI40 rfl TI3 rfl rfl (Wa rfl (Wk TI3 rfl rfl (Wh hC3 rfl) (Wa rfl (o_bldC (cs := [_, _, (.int .i64 0), (.slice none 0 0)]) TI49 (Sizes.cons TI3 (Sizes.cons TI3 (Sizes.cons TI3 (Sizes.cons TI47 Sizes.nil)))) rfl (lcp vI (lcp vI lnp)) rfl rfl (Wa rfl (o_alB TI49 ?_))))))))))))))
 intro wa hCa hxa hsa
 refine WL.u (o_stA TI49 rfl (show _ = Value.agg (tcell ⟨y.kind, y.n, 0, []⟩ (.slice none 0 0)).toArray from rfl) rfl rfl hCa rfl ?_)
 intro wb6 hC6 hob hsb
 have hxb := Ext.own hxa (Nat.le_refl _) hob
 obtain ⟨b6, hb6⟩ : ∃ b, b = w22.heap.size := ⟨_, rfl⟩
 rw [← hb6] at hC6 ⊢
 clear hCa hxa hsa hob hsb
 have hq22 := ho.size
 replace hS := hS.ext hxb
 replace ho := ho.ext hxb
 replace hC3 := hxb.blk hC3 (fun h => h)
 have hz6 : w0.heap.size ≤ b6 := by rw [hb6]; exact hq22
 clear hxb
 refine Wc (We (We (Wb (Wa rfl (Wl 5 TI40 rfl TI3 rfl rfl (Wa rfl (Wk TI3 rfl rfl (Wh hC3 rfl) (Wa rfl (Wf vI (Wc (W.block (W.loop (fun e w => ∃ (k : Nat) (el : Int) (ps : List Pa) (pv : Value) (L1 : List Tp) (tv1 : Value) (U1 : Nat → Value) (lv2 : Value) (ts : Trs), ks.len = k + ts.len ∧ e 0 = .pointer (some ⟨pb, 0, none⟩) ∧ e 3 = .pointer (some ⟨b3, 0, none⟩) ∧ e 6 = .pointer (some ⟨b6, 0, none⟩) ∧ e 49 = .int .i64 (ks.len : Int) ∧ e 50 = .int .i64 (k : Int) ∧ BS wB w pb dv rv D.length f L1 tv1 U1 lv2 (ts.flat ++ rest) ∧ w.heap[b3]? = some (.cells (exV y).toArray 40 (0, 0)) ∧ w.heap[b6]? = some (.cells #[.int .i64 y.kind, .int .i64 y.n, .int .i64 el, pv] 49 (0, 0)) ∧ w.ownsRow w0.heap.size 66 3 pv ps.length (pas ps) ∧ (∀ j, j < L1.length → Dj pv (U1 j)) ∧ mkK (fun nm => f (whD D nm)) y.kind ts L1 el ps = mkK (fun nm => f (whD D nm)) y.kind ks L 0 [] ∧ ts.wf y.kind (d + 1) ∧ ps.length ≤ k ∧ L1.length + ts.flat.length + 1 ≤ N ∧ (∀ x ∈ ts.flat, x ∈ (Tr.node y ks).flat) ∧ ts.flat.length ≤ ks.flat.length ∧ (ts.flat ++ rest).length ≤ r1.length ∧ ¬ tv1.ownBlock = some b6 ∧ Only (PT pb tv) w0 w ∧ NewV w0 tv tv1 ∧ NewU w0 L L1 U U1 ∧ b6 < w.heap.size) (fun e w => ks.len - (intOf (e 50)).toNat) ?_ ?_))))))))))))
 ·exact ⟨0, 0, [], .slice none 0 0, L, tv, U, lv1, ks, by omega, rfl, rfl, rfl, congrArg (Value.int .i64) hkk, rfl, by rw [hr1] at hS; exact hS, hC3, hC6, World.ownsRow_nil _ _ _ _, fun j hj => Dj.none, rfl, hw.2.2.2.2, Nat.zero_le _, by omega, fun x hx => List.mem_cons_of_mem _ hx, Nat.le_refl _, by rw [hr1]; exact Nat.le_refl _, fun e => by have := htv0 _ e; omega, ho, NewV.refl _ _, NewU.refl _ _ _, blk_lt3 hC6⟩
 rintro e w ⟨k, el, ps, pv, L1, tv1, U1, lv2, ts, hks, h0, h3, h6, h49, h50, hS, hC3, hC6, hpv, hdj, hmk, hwt, hpk, hLN1, hmem, htl, hrl, hn6, ho, hnv, hnu, hs6⟩
 have hm50 := h50
 have hB0w := hS.ex.size
 have hos := ho.size
 refine We (Wb (Wa rfl (o_lt h50 h49 (Wc (We (Wn rfl (fun c51 => ?_) (fun c51 => ?_)))))))
 ·try simp only [cs8] at c51
  have hk1 : k < ks.len := by omega
  obtain ⟨t, ts2, rfl⟩ := Trs.split hks hk1
  simp only [Trs.len] at hks
  have hfl2 : (Trs.cons t ts2).flat.length = t.flat.length + ts2.flat.length := by simp [Trs.flat]
  have htp := tr_pos t
  rw [hfl2] at hLN1 htl
  replace hS : BS wB w pb dv rv D.length f L1 tv1 U1 lv2 (t.flat ++ (ts2.flat ++ rest)) := by
   have e : (Trs.cons t ts2).flat ++ rest = t.flat ++ (ts2.flat ++ rest) := by simp [Trs.flat]
   rw [← e]; exact hS
  obtain ⟨tr, htr⟩ := flat_top t
  have hrl1 : (t.flat ++ (ts2.flat ++ rest)).length ≤ r1.length := by simp [Trs.flat] at hrl ⊢; omega
  have htopm : t.top ∈ (Trs.cons t ts2).flat := List.mem_append_left _ (by rw [htr]; exact List.mem_cons_self ..)
  obtain ⟨htn, htlb⟩ := hnl _ (hmem _ htopm)
  have hlf0 : Sl wB 7 lv2 (t.top :: (tr ++ (ts2.flat ++ rest))).length (exs (t.top :: (tr ++ (ts2.flat ++ rest)))) := by
   have h := hS.lf
   rw [htr] at h
   exact h
  obtain ⟨vb, vo, vc, hlv2, hvc⟩ := Sl.exq hlf0 (k := 0) (by simp)
  have hcl := hS.cell
  rw [hlv2] at hcl
  refine Wp (We (W.block (We (Wb (Wa rfl (Wf h0 (Wa rfl (o_nil rfl (Wa rfl (Wl 3 TI63 rfl TI36 rfl rfl (Wa rfl (Wk TI36 rfl rfl (Wh hcl rfl) (Wa rfl (Wt (i := 0) TI36 TI40 (show _ = Value.slice (some ⟨vb, vo, none⟩) (t.top :: (tr ++ (ts2.flat ++ rest))).length vc from rfl) rfl (by simp) (Wa rfl (o_ldA TI40 rfl rfl (Cells.only hvc hS.ex (fun h => h)) rfl (Wa rfl (o_alB TI40 ?_))))))))))))))))))
  intro wa hCa hxa hsa
  refine WL.u (o_stA TI40 rfl (show _ = Value.agg (exV t.top).toArray from rfl) rfl rfl hCa rfl ?_)
  intro wb7 hC7 hob hsb
  have hxb := Ext.own hxa (Nat.le_refl _) hob
  obtain ⟨b7, hb7⟩ : ∃ b, b = w.heap.size := ⟨_, rfl⟩
  rw [← hb7] at hC7 ⊢
  clear hCa hxa hsa hob hsb
  replace hS := hS.ext hxb
  replace ho := ho.ext hxb
  replace hC3 := hxb.blk hC3 (fun h => h)
  replace hC6 := hxb.blk hC6 (fun h => h)
  replace hpv := Wr hpv hxb
  clear hxb
  refine Wc (We (Wb (Wa rfl (Wf h0 (Wa rfl (o_call Tryd.call15 (lc rfl ln) ((IH t (by rw [hfl]; omega) (ts2.flat ++ rest) L1 tv1 U1 lv2 _ _ _ hwt.1 hS (fun x hx => hkn x (hmem x (List.mem_append_left _ hx))) (fun x hx => hnl x (hmem x (List.mem_append_left _ hx))) (by omega) (by simp only [List.length_cons] at hr1l; omega)).mono ?_)))))))
  have hs6b := blk_lt3 hC6
  have hos := ho.size
  rintro v59 w59 ⟨tv2, U2, lv3, rfl, hS2, ho59, hv59, hu59⟩
  obtain ⟨M59, hM59, hMl⟩ := mkT_pre (fun nm => f (whD D nm)) t L1 (wf_leafy t _ _ hwt.1)
  have hcn : cntN t.flat ≤ t.flat.length := List.length_filter_le _ _
  obtain ⟨r, hr⟩ : ∃ r, r = mkT (fun nm => f (whD D nm)) t L1 := ⟨_, rfl⟩
  rw [← hr] at hS2 hu59 hM59 ⊢
  have hrlen : r.2.length ≤ L1.length + t.flat.length := by rw [hM59, List.length_append]; omega
  have n3 := (hS.off hC3 (by decide) (by decide) (by decide)).1
  have n6 := (hS.off hC6 (by decide) (by decide) (by decide)).1
  have n7 := (hS.off hC7 (by decide) (by decide) (by decide)).1
  replace hC3 := ho59.blk hC3 (fun h => by rcases h with h | h; exact n3 h.symm; exact own_off hS.ty.row hC3 (by decide) h)
  replace hC6 := ho59.blk hC6 (fun h => by rcases h with h | h; exact n6 h.symm; exact hn6 h)
  replace hC7 := ho59.blk hC7 (fun h => by rcases h with h | h; exact n7 h.symm; exact own_off hS.ty.row hC7 (by decide) h)
  have hpvl := hpv.lt
  have hpv2 := own_only hpv ho59 (fun k hk h => by
   rcases h with h | h
   ·subst h; exact own_off hpv hS.cell (by decide) hk
   exact own_row_off hS.ty.row hpv (by decide) k hk h)
  have hdj2 : ∀ j, j < r.2.length → Dj pv (U2 j) := fun j hj k hk hk2 => by
   rcases hu59 j hj k hk2 with ⟨i, hi, h⟩ | h
   ·exact hdj i hi k hk h
   have := (hpvl k hk).2; omega
  have hn62 : ¬ tv2.ownBlock = some b6 := fun e => by
   rcases hv59 b6 e with h | h
   ·exact hn6 h
   omega
  replace ho := PT.trans ho hnv ho59
  replace hnv := hnv.trans hv59 hos
  replace hnu := hnu.trans hu59 hos
  replace hpv := hpv2
  replace hdj := hdj2
  replace hn6 := hn62
  replace hS := hS2
  clear hpv2 hdj2 hn62 hS2 ho59 hpvl
  refine Wa rfl (Wg vI (Wc (We ?_)))
  by_cases h8 : y.kind = 8
  rotate_left
  by_cases h7 : y.kind = 7
  ·skip
   have hkd : y.kind = 8 ∨ y.kind = 7 := .inr h7
   refine Wb (Wa rfl (Wl 0 TI40 rfl TI3 rfl h3 (Wa rfl (Wk TI3 rfl rfl (Wh hC3 rfl) (Wa rfl (o_eq rfl rfl (Wa rfl (Wf vB (Wj rfl (by simp [h8]) rfl (Wl 0 TI40 rfl TI3 rfl h3 (Wj rfl (by simp [h8]) rfl (Wk TI3 rfl rfl (Wh hC3 rfl) (Wj rfl (by simp [h8]) rfl (o_eq rfl rfl (Wa rfl (o_pickO rfl rfl (Wc (W.condT' rfl (by simp [h7]) (Wb (Wa rfl (Wl 3 TI49 rfl TI47 rfl h6 (Wa rfl (Wk TI47 rfl rfl (Wh hC6 rfl) (Wa rfl (Wl 3 TI40 rfl TI9 rfl rfl (Wa rfl (Wk TI9 rfl rfl (Wh hC7 rfl) (Wa rfl (Wl 4 TI40 rfl TI3 rfl rfl (Wa rfl (Wk TI3 rfl rfl (Wh hC7 rfl) (Wa rfl (Wf vI (Wa rfl (o_bldC (cs := [_, _, _]) TI66 (Sizes.cons TI9 (Sizes.cons TI3 (Sizes.cons TI3 Sizes.nil))) rfl (lcp (show _ = Value.string _ from rfl) (lcp vI (lcp vI lnp))) rfl rfl (WL.apO (w0.heap.size) rfl rfl TI47 TI66 (show _ = Value.agg (paV ⟨t.top.label, t.top.tag, r.1⟩).toArray from rfl) rfl hpv (by decide) (by decide) rfl (fun a ha => List.all_eq_true.1 (show List.all _ (fun a => a.oneCell') = true from rfl) a ha) rfl (by rw [maxLen_eq]; omega) (by omega) (by have := ho.size; omega) ?_))))))))))))))))))))))))))))))))))))
   intro pv2 w77 hpv2 ho77 hb77 _
   obtain ⟨ps2, hps2⟩ : ∃ l, l = ps ++ [(⟨t.top.label, t.top.tag, r.1⟩ : Pa)] := ⟨_, rfl⟩
   replace hpv2 : w77.ownsRow w0.heap.size 66 3 pv2 ps2.length (pas ps2) := by rw [hps2, pas_snoc, List.length_append, List.length_singleton]; exact hpv2
   have hpl : ∀ k, pv.ownBlock = some k → w0.heap.size ≤ k := fun k hk => (hpv.lt k hk).1
   have hdj' : ∀ j, j < r.2.length → Dj pv2 (U2 j) := fun j hj => Dj.step (hdj j hj) hb77 (fun k hk => by have := (hS.ty.tys.lt hj hk).2; omega)
   replace hS := hS.only ho77 (fun e => own_off hpv hS.cell (by decide) e) (own_row_off hpv hS.ty.row (by decide)) (fun j hj k hk e => hdj j hj k e hk) (own_row_off hpv hS.ro (by decide)) (fun k e => by have := hpl k e; omega)
   replace hC3 := ho77.blk hC3 (fun e => own_off hpv hC3 (by decide) e)
   replace hC6 := ho77.blk hC6 (fun e => own_off hpv hC6 (by decide) e)
   replace ho := ho.trans' ho77 (fun _ h => h) (fun k hk e => by have := hpl k e; omega)
   clear hpv
   refine Wa rfl (Wl 3 TI49 rfl TI47 rfl h6 (WL.u (o_stB TI47 rfl (show _ = pv2 from rfl) (own_one hpv2) hC6 (show 3 < 4 by decide) ?_)))
   intro w78 hC6n ho78 hs78
   replace hC6n : w78.heap[b6]? = some (.cells #[.int .i64 y.kind, .int .i64 y.n, .int .i64 el, pv2] 49 (0, 0)) := hC6n
   have hof := hS.off hC6 (by decide) (by decide) (by decide)
   replace hS := hS.only ho78 hof.1 (fun k hk e => hn6 (e ▸ hk)) hof.2.1 hof.2.2 (fun k e => by omega)
   replace hC3 := ho78.blk hC3 (blk_ne3 hC3 hC6 (by decide))
   have hpv := own_only hpv2 ho78 (fun k hk e => by subst e; exact own_off hpv2 hC6 (by decide) hk)
   replace hdj := hdj'
   replace ho := ho.trans' ho78 (fun _ h => h) (fun k hk e => by omega)
   replace hC6 := hC6n
   have hpk2 : ps2.length ≤ k + 1 := by rw [hps2]; simp; omega
   have hmk2 : mkK (fun nm => f (whD D nm)) y.kind ts2 r.2 el ps2 = mkK (fun nm => f (whD D nm)) y.kind (.cons t ts2) L1 el ps := by rw [mkK_cons7 hkd, hps2, hr]
   refine Wc (Wb (Wa rfl (o_addi h50 rfl (by omega) (Wa rfl (Wf vI (Wc (⟨⟨k + 1, _, _, _, r.2, tv2, U2, lv3, ts2, by omega, h0, h3, h6, h49, rfl, hS, hC3, hC6, hpv, hdj, hmk2.trans hmk, hwt.2, hpk2, by omega, fun x hx => hmem x (List.mem_append_right _ hx), by omega, by simp at hrl ⊢; omega, hn6, ho, hnv, hnu, blk_lt3 hC6⟩, ?_⟩)))))))
   show ks.len - ((k : Int) + 1).toNat < _
   rw [hm50]; simp [intOf]; omega
  ·skip
   have hkd : ¬ (y.kind = 8 ∨ y.kind = 7) := by omega
   refine Wb (Wa rfl (Wl 0 TI40 rfl TI3 rfl h3 (Wa rfl (Wk TI3 rfl rfl (Wh hC3 rfl) (Wa rfl (o_eq rfl rfl (Wa rfl (Wf vB (Wj rfl (by simp [h8]) rfl (Wl 0 TI40 rfl TI3 rfl h3 (Wj rfl (by simp [h8]) rfl (Wk TI3 rfl rfl (Wh hC3 rfl) (Wj rfl (by simp [h8]) rfl (o_eq rfl rfl (Wa rfl (o_pickO rfl rfl (Wc (W.condF' rfl (by simp [h7, h8]) (Wb (Wa rfl (Wf vI (Wa rfl (Wl 2 TI49 rfl TI3 rfl h6 (WL.u (o_stB TI3 rfl (show _ = Value.int .i64 r.1 from rfl) rfl hC6 (show 2 < 4 by decide) ?_)))))))))))))))))))))))))
   intro w80 hC6n ho80 hs80
   replace hC6n : w80.heap[b6]? = some (.cells #[.int .i64 y.kind, .int .i64 y.n, .int .i64 r.1, pv] 49 (0, 0)) := hC6n
   have hof := hS.off hC6 (by decide) (by decide) (by decide)
   replace hS := hS.only ho80 hof.1 (fun k hk e => hn6 (e ▸ hk)) hof.2.1 hof.2.2 (fun k e => by omega)
   replace hC3 := ho80.blk hC3 (blk_ne3 hC3 hC6 (by decide))
   replace hpv := own_only hpv ho80 (fun k hk e => by subst e; exact own_off hpv hC6 (by decide) hk)
   replace ho := ho.trans' ho80 (fun _ h => h) (fun k hk e => by omega)
   replace hC6 := hC6n
   have hpk2 : ps.length ≤ k + 1 := by omega
   have hmk2 : mkK (fun nm => f (whD D nm)) y.kind ts2 r.2 r.1 ps = mkK (fun nm => f (whD D nm)) y.kind (.cons t ts2) L1 el ps := by rw [mkK_consE hkd, hr]
   refine Wc (Wb (Wa rfl (o_addi h50 rfl (by omega) (Wa rfl (Wf vI (Wc (⟨⟨k + 1, _, _, _, r.2, tv2, U2, lv3, ts2, by omega, h0, h3, h6, h49, rfl, hS, hC3, hC6, hpv, hdj, hmk2.trans hmk, hwt.2, hpk2, by omega, fun x hx => hmem x (List.mem_append_right _ hx), by omega, by simp at hrl ⊢; omega, hn6, ho, hnv, hnu, blk_lt3 hC6⟩, ?_⟩)))))))
   show ks.len - ((k : Int) + 1).toNat < _
   rw [hm50]; simp [intOf]; omega
  skip
  have hkd : y.kind = 8 ∨ y.kind = 7 := .inl h8
  refine Wb (Wa rfl (Wl 0 TI40 rfl TI3 rfl h3 (Wa rfl (Wk TI3 rfl rfl (Wh hC3 rfl) (Wa rfl (o_eq rfl rfl (Wa rfl (Wf vB (Wi rfl (by simp [h8]) rfl (Wi rfl (by simp [h8]) rfl (Wi rfl (by simp [h8]) rfl (Wa rfl (o_pickT rfl (by simp [h8]) (Wc (W.condT' rfl (rfl) (Wb (Wa rfl (Wl 3 TI49 rfl TI47 rfl h6 (Wa rfl (Wk TI47 rfl rfl (Wh hC6 rfl) (Wa rfl (Wl 3 TI40 rfl TI9 rfl rfl (Wa rfl (Wk TI9 rfl rfl (Wh hC7 rfl) (Wa rfl (Wl 4 TI40 rfl TI3 rfl rfl (Wa rfl (Wk TI3 rfl rfl (Wh hC7 rfl) (Wa rfl (Wf vI (Wa rfl (o_bldC (cs := [_, _, _]) TI66 (Sizes.cons TI9 (Sizes.cons TI3 (Sizes.cons TI3 Sizes.nil))) rfl (lcp (show _ = Value.string _ from rfl) (lcp vI (lcp vI lnp))) rfl rfl (WL.apO (w0.heap.size) rfl rfl TI47 TI66 (show _ = Value.agg (paV ⟨t.top.label, t.top.tag, r.1⟩).toArray from rfl) rfl hpv (by decide) (by decide) rfl (fun a ha => List.all_eq_true.1 (show List.all _ (fun a => a.oneCell') = true from rfl) a ha) rfl (by rw [maxLen_eq]; omega) (by omega) (by have := ho.size; omega) ?_)))))))))))))))))))))))))))))))))
  intro pv2 w77 hpv2 ho77 hb77 _
  obtain ⟨ps2, hps2⟩ : ∃ l, l = ps ++ [(⟨t.top.label, t.top.tag, r.1⟩ : Pa)] := ⟨_, rfl⟩
  replace hpv2 : w77.ownsRow w0.heap.size 66 3 pv2 ps2.length (pas ps2) := by rw [hps2, pas_snoc, List.length_append, List.length_singleton]; exact hpv2
  have hpl : ∀ k, pv.ownBlock = some k → w0.heap.size ≤ k := fun k hk => (hpv.lt k hk).1
  have hdj' : ∀ j, j < r.2.length → Dj pv2 (U2 j) := fun j hj => Dj.step (hdj j hj) hb77 (fun k hk => by have := (hS.ty.tys.lt hj hk).2; omega)
  replace hS := hS.only ho77 (fun e => own_off hpv hS.cell (by decide) e) (own_row_off hpv hS.ty.row (by decide)) (fun j hj k hk e => hdj j hj k e hk) (own_row_off hpv hS.ro (by decide)) (fun k e => by have := hpl k e; omega)
  replace hC3 := ho77.blk hC3 (fun e => own_off hpv hC3 (by decide) e)
  replace hC6 := ho77.blk hC6 (fun e => own_off hpv hC6 (by decide) e)
  replace ho := ho.trans' ho77 (fun _ h => h) (fun k hk e => by have := hpl k e; omega)
  clear hpv
  refine Wa rfl (Wl 3 TI49 rfl TI47 rfl h6 (WL.u (o_stB TI47 rfl (show _ = pv2 from rfl) (own_one hpv2) hC6 (show 3 < 4 by decide) ?_)))
  intro w78 hC6n ho78 hs78
  replace hC6n : w78.heap[b6]? = some (.cells #[.int .i64 y.kind, .int .i64 y.n, .int .i64 el, pv2] 49 (0, 0)) := hC6n
  have hof := hS.off hC6 (by decide) (by decide) (by decide)
  replace hS := hS.only ho78 hof.1 (fun k hk e => hn6 (e ▸ hk)) hof.2.1 hof.2.2 (fun k e => by omega)
  replace hC3 := ho78.blk hC3 (blk_ne3 hC3 hC6 (by decide))
  have hpv := own_only hpv2 ho78 (fun k hk e => by subst e; exact own_off hpv2 hC6 (by decide) hk)
  replace hdj := hdj'
  replace ho := ho.trans' ho78 (fun _ h => h) (fun k hk e => by omega)
  replace hC6 := hC6n
  have hpk2 : ps2.length ≤ k + 1 := by rw [hps2]; simp; omega
  have hmk2 : mkK (fun nm => f (whD D nm)) y.kind ts2 r.2 el ps2 = mkK (fun nm => f (whD D nm)) y.kind (.cons t ts2) L1 el ps := by rw [mkK_cons7 hkd, hps2, hr]
  refine Wc (Wb (Wa rfl (o_addi h50 rfl (by omega) (Wa rfl (Wf vI (Wc (⟨⟨k + 1, _, _, _, r.2, tv2, U2, lv3, ts2, by omega, h0, h3, h6, h49, rfl, hS, hC3, hC6, hpv, hdj, hmk2.trans hmk, hwt.2, hpk2, by omega, fun x hx => hmem x (List.mem_append_right _ hx), by omega, by simp at hrl ⊢; omega, hn6, ho, hnv, hnu, blk_lt3 hC6⟩, ?_⟩)))))))
  show ks.len - ((k : Int) + 1).toNat < _
  rw [hm50]; simp [intOf]; omega
 try simp only [cs8] at c51
 have hk1 : k = ks.len := by omega
 have hnil := Trs.none hks hk1
 subst hnil
 replace hmk : (el, ps, L1) = mkK (fun nm => f (whD D nm)) y.kind ks L 0 [] := hmk
 have hLc : L1.length + 1 ≤ N := by simp [Trs.flat] at hLN1; omega
 refine W.exit (We ?_)
 obtain ⟨TT, hTT⟩ : ∃ q : Tp, q = ⟨y.kind, y.n, el, ps⟩ := ⟨_, rfl⟩
 obtain ⟨wd, hwd⟩ : ∃ wd, wd = w.drew := ⟨_, rfl⟩
 have hxd : Ext w wd := hwd ▸ Only.drew w
 replace hS := hS.ext hxd
 replace ho := ho.ext hxd
 replace hpv := Wr hpv hxd
 replace hC6 : wd.heap[b6]? = some (.cells (tcell TT pv).toArray 49 (0, 0)) := by rw [hTT]; exact hxd.blk hC6 (fun h => h)
 have hlt : ∀ k, tv1.ownBlock = some k → k < wd.heap.size := fun k hk => (hS.ty.row.lt k hk).2
 have hge : ∀ k, tv1.ownBlock = some k → wB.heap.size ≤ k := fun k hk => (hS.ty.row.lt k hk).1
 have hls : ¬ tv1.ownBlock = some pb := fun e => own_off hS.ty.row hS.cell (by decide) e
 have hwB := hS.ex.size
 refine W.drawF 8 [7] [fun k => tv1.ownBlock = some k] [(0, fun v _ => v = _), (6, fun v _ => v = _)] rfl (by kernel_rfl) (by kernel_rfl) ⟨Mono.eq, Mono.eq, trivial⟩ ⟨h0, h6, trivial⟩ (WDS.p rfl (by decide) (fun e w hR hh => by obtain ⟨h0, -⟩ := hh; exact SG.n (Wf h0 ⟨rfl, Only.refl No _⟩)) (WDS.p rfl (by decide) (fun e w hR hh => by obtain ⟨h0, -⟩ := hh; exact SG.n (Wf h0 ⟨rfl, Only.refl No _⟩)) (WDS.p rfl (by decide) (fun e w hR hh => by obtain ⟨h83, -⟩ := hh; exact SG.n (o_nil h83 ⟨rfl, Only.refl No _⟩)) (WDS.p rfl (by decide) (fun e w hR hh => by obtain ⟨h84, -⟩ := hh; exact SG.n (Wl 1 TI63 rfl TI26 rfl h84 ⟨rfl, Only.refl No _⟩)) (WDS.p rfl (by decide) (fun e w hR hh => by obtain ⟨h85, -⟩ := hh; rw [← hwd] at hR; have hc := hR.blk hS.cell (fun hF => by rcases hF with hF | hF <;> first | exact hls hF | exact hF); exact SG.n (Wk TI26 rfl h85 (Wh hc rfl) ⟨rfl, Only.refl No _⟩)) (WDS.p rfl (by decide) (fun e w hR hh => by obtain ⟨h6, -⟩ := hh; rw [← hwd] at hR; exact SG.n (o_ldA TI49 rfl h6 (show Cells w b6 0 (tcell TT pv) from Cells.of (hR.blk hC6 (fun hF => by rcases hF with hF | hF <;> first | exact hF | exact hn6 hF)) 0 _ (by simp)) rfl ⟨rfl, Only.refl No _⟩)) (WDS.q 0 (fun v w => w.ownsRow wd.heap.size 49 4 v 1 (tcell TT pv)) (fun v w w2 hR hh => own_only hh hR (fun k hk hF => by rcases hF with hF | hF <;> first | exact hF | (have := hlt k hF; have := (hh.lt k hk).1; omega))) (by kernel_rfl) rfl (by decide) (fun e w hR hh => by obtain ⟨h87, -⟩ := hh; rw [← hwd] at hR; exact SG.n (o_bs1 TI26 TI49 (show _ = Value.agg (tcell TT pv).toArray from h87) (by decide) (by decide) rfl ⟨own_mono (own_new1 rfl) hR.size, Only.alloc w _⟩)) (WDS.mf 0 1 (fun v w => w.ownsRow wB.heap.size 49 4 v (L1.length + 1) (trows L1 U1 ++ tcell TT pv) ∧ ∀ k, v.ownBlock = some k → tv1.ownBlock = some k ∨ wd.heap.size ≤ k) (fun v w w2 hR hh => ⟨Wr hh.1 hR, hh.2⟩) (by kernel_rfl) rfl rfl rfl (fun e w hR hW hh => by obtain ⟨h88, h86, -⟩ := hh; rw [← hwd] at hR hW; have hW2 : Ext wd w := hW.mono (fun _ _ h => h); have hw2 := hR.size; exact SGX.n (OP.x (o_apO wB.heap.size TI26 TI49 h86 rfl (Wr hS.ty.row hW2) (Sl.own h88) rfl (by decide) (tcell_all (own_one hpv)) (by rw [maxLen_eq]; omega) (by omega) (by omega) (fun v' w' h1 h2 h3 _ => ⟨⟨h1, fun k hk => by rcases h3 with h3 | h3; exact .inl (h3.symm.trans hk); exact .inr (by have h5 := h3.symm.trans hk; rw [Option.some.injEq] at h5; have := hR.size; omega)⟩, h2⟩)))) ?_))))))))
 rintro e w hR ⟨h89, h88, h87, h86, h85, h84, h83, h82, h0, h6, -⟩
 rw [← hwd] at hR
 obtain ⟨v89, hv89⟩ : ∃ v, v = e 89 := ⟨_, rfl⟩
 rw [← hv89] at h89
 obtain ⟨h89, h89b⟩ := h89
 have hc5 := hR.blk hS.cell (fun hF => by rcases hF with hF | hF <;> first | exact hls hF | exact hF)
 have hty5 : Typs w wB.heap.size (L1 ++ [TT]) v89 (fun j => if j = L1.length then pv else U1 j) := Typs.snocD h89 (hS.ty.tys.only hR (fun j hj k hk hF => by rcases hF with hF | hF <;> first | exact hF | exact own_row_off hS.ty.row (hS.ty.tys.row j hj) (by decide) k hk hF))
  (by rw [hTT]; exact own_mono (own_only hpv hR (fun k hk hF => by rcases hF with hF | hF <;> first | exact hF | exact own_row_off hS.ty.row hpv (by decide) k hk hF)) hB0) hdj
 have hro5 := own_only hS.ro hR (fun k hk hF => by rcases hF with hF | hF <;> first | exact hF | exact own_row_off hS.ty.row hS.ro (by decide) k hk hF)
 have hex5 := hS.ex.trans' hR (fun _ h => h) (fun k hk hF => by rcases hF with hF | hF; have := hge k hF; omega; exact hF.elim)
 have ho5 := ho.trans' hR (fun _ h => h) (fun k hk hF => by
  rcases hF with hF | hF
  ·rcases hnv k hF with h | h
   ·exact .inr h
   omega
  exact hF.elim)
 refine Wa rfl (o_nil h82 (Wa rfl (Wl 1 TI63 rfl TI26 rfl rfl (WL.u (o_stB TI26 rfl (show _ = v89 from hv89.symm) (own_one h89) hc5 (show 1 < 4 by decide) ?_)))))
 intro w91 hB91 ho91 hs91
 replace hB91 : w91.heap[pb]? = some (.cells #[dv, v89, rv, lv2] 63 (0, 0)) := hB91
 have hty6 := hty5.only ho91 (fun k hk e => by
  subst e
  rcases hk with hk | ⟨j, hj, hk⟩
  ·exact own_off hty5.row hc5 (by decide) hk
  exact own_off (hty5.tys.row j hj) hc5 (by decide) hk)
 have hS6 : BS wB w91 pb dv rv D.length f (L1 ++ [TT]) v89 (fun j => if j = L1.length then pv else U1 j) lv2 rest := ⟨hB91, hty6, own_only hro5 ho91 (fun k hk e => by subst e; exact own_off hro5 hc5 (by decide) hk), hS.lf, hex5.trans' ho91 (fun _ h => h) (fun k hk e => by have := hS.pH; omega), hS.pH⟩
 have ho6 := ho5.trans (ho91.mono (fun k _ e => .inl e))
 have hnv6 : NewV w0 tv v89 := fun k hk => by
  rcases h89b k hk with h | h
  ·exact hnv k h
  right; have := ho.size; omega
 have hnu6 : NewU w0 L (L1 ++ [TT]) U (fun j => if j = L1.length then pv else U1 j) := fun j hj k hk => by
  by_cases e : j = L1.length
  ·have hk' : (if j = L1.length then pv else U1 j).ownBlock = some k := hk
   rw [if_pos e] at hk'
   exact .inr (hpv.lt k hk').1
  have hk' : (if j = L1.length then pv else U1 j).ownBlock = some k := hk
  rw [if_neg e] at hk'
  exact hnu j (by simp at hj; omega) k hk'
 refine Wc (We (Wb (Wa rfl (Wf h0 (Wa rfl (o_nil rfl (Wa rfl (Wl 1 TI63 rfl TI26 rfl rfl (Wa rfl (Wk TI26 rfl rfl (Wh hB91 rfl) (Wa rfl (Ws TI26 rfl (Sl.own hty6.row) (Wa rfl (o_subi (a := (((L1 ++ [TT]).length : Nat) : Int)) (b := 1) rfl rfl (by simp; omega) (Wa rfl (Wg vI (Wc (Wm (Wu rfl vI ?_)))))))))))))))))))
 have hm : mkT (fun nm => f (whD D nm)) (Tr.node y ks) L = ((L1.length : Int), L1 ++ [TT]) := by rw [mkT, if_neg hk9, ← hmk, hTT]
 rw [hm]
 exact ⟨v89, _, lv2, congrArg (Value.int .i64) (by simp), hS6, ho6, hnv6, hnu6⟩
end Go.Proofs.YtpbflfgigfdohaaDoor

namespace Go.Proofs.YtpbflfgigfdohaaDoor
open Go Go.Vc Go.RowKit Go.Proofs

theorem bexpr_all (wB : World) (pb : Nat) (D : List Df) (dv rv : Value) (V : Nat → Value) (f : Nat → Int) (N : Nat) (hDB : DefR wB D dv V) (hlen : D.length * 48 ≤ 140737488351232) (hN : N ≤ 2932031007402) : ∀ (m : Nat) (t : Tr), t.flat.length ≤ m → SEx wB pb D dv rv f N t
 | 0, .node y ks, h => by simp [Tr.flat] at h
 | m + 1, .node y ks, h => fun rest L tv U lv a d w0 h1 h2 h3 h4 h5 h6 => bexpr_step wB pb D dv rv V f N hDB hlen hN y ks (fun t ht => bexpr_all wB pb D dv rv V f N hDB hlen hN m t (by omega)) rest L tv U lv a d w0 h1 h2 h3 h4 h5 h6
theorem bnd_hit {D : List Df} {i q : Nat} (hi : i < D.length) (hq : q < D[i].ty.length) (ho : outB D[i].ty[q] = true) (h1 : ∀ j, j < i → bndD D j = none) (h2 : ∀ j, j < q → bndN D[i].ty j = none) : bndF D = some (90, D[i].ty[q].at_) := by
 refine firstN_hit hi ?_ h1
 unfold bndD
 rw [tyD_at hi]
 refine firstN_hit hq ?_ h2
 unfold bndN
 rw [List.getD_eq_getElem?_getD, List.getElem?_eq_getElem hq]
 simp only [Option.getD_some]
 rw [if_pos ho]
theorem bndN_no {L : List Ex} {q : Nat} (hq : q < L.length) (ho : outB L[q] = false) : bndN L q = none := by
 unfold bndN
 rw [List.getD_eq_getElem?_getD, List.getElem?_eq_getElem hq]
 simp only [Option.getD_some]
 rw [if_neg (by rw [ho]; simp)]
theorem bndD_no {D : List Df} {i : Nat} (hi : i < D.length) (h : ∀ j, j < D[i].ty.length → bndN D[i].ty j = none) : bndD D i = none := by
 unfold bndD
 rw [tyD_at hi]
 exact firstN_miss h
def bndV (D : List Df) : Int × Int := (bndF D).getD (0, 0)

set_option maxHeartbeats 4000000 in
theorem bounds_spec (D : List Df) (dv : Value) (V : Nat → Value) (w0 : World) (hD : DefR w0 D dv V) (hlim : DOk D) : Ca Tryd.prog 14 #[.agg #[dv]] w0 (fun v w' => v = .agg #[.int .i64 (bndV D).1, .int .i64 (bndV D).2] ∧ Ext w0 w') := by
 have hlen := hlim.len
 refine Ca.of Tryd.func14 Tryd.ntmps14 rfl rfl (We (Wb (Wa rfl (o_boxB rfl ?_))))
 intro w1 hC1 hx1 hs1
 obtain ⟨b1, hb1⟩ : ∃ b, b = w0.heap.size := ⟨_, rfl⟩
 rw [← hb1] at hC1 ⊢
 replace hC1 : w1.heap[b1]? = some (.cells ([dv]).toArray 24 (0, 0)) := hC1
 have hx := hx1
 replace hD := hD.ext hx1
 refine Wa rfl (o_alB TI32 ?_)
 have hxq := hx
 intro wb hC2 hxb hsb
 replace hx := hx.tr hxb
 replace hD := hD.ext hxb
 replace hC1 := hxb.blk hC1 (fun h => h)
 obtain ⟨c2, hc2⟩ : ∃ c, c = w1.heap.size := ⟨_, rfl⟩
 rw [← hc2] at hC2 ⊢
 replace hC2 : wb.heap[c2]? = some (.cells #[.int .i64 0, .int .i64 0] 32 (0, 0)) := hC2
 have hz2 : w0.heap.size ≤ c2 := by rw [hc2]; exact hxq.size
 clear hxq hxb
 refine Wc (We (We (Wb (Wa rfl (Wl 0 TI24 rfl TI22 rfl rfl (Wa rfl (Wk TI22 rfl rfl (Wh hC1 rfl) (Wa rfl (Ws TI22 rfl hD.row (Wa rfl (Wf vI (Wc (W.block (W.loop (fun e w => ∃ i : Nat, i ≤ D.length ∧ e 2 = .pointer (some ⟨c2, 0, none⟩) ∧ e 9 = dv ∧ e 10 = .int .i64 (D.length : Int) ∧ e 11 = .int .i64 (i : Int) ∧ (∀ j, j < i → bndD D j = none) ∧ DefR w D dv V ∧ w.heap[c2]? = some (.cells #[.int .i64 0, .int .i64 0] 32 (0, 0)) ∧ Ext w0 w) (fun e w => D.length - (intOf (e 11)).toNat) ?_ ?_))))))))))))))
 ·exact ⟨0, Nat.zero_le _, rfl, rfl, rfl, rfl, fun j hj => by omega, hD, hC2, hx⟩
 rintro e w ⟨i, hi, h2, h9, h10, h11, hno, hD, hC2, hx⟩
 have hm11 := h11
 refine We (Wb (Wa rfl (o_lt h11 h10 (Wc (We (Wn rfl (fun c12 => ?_) (fun c12 => ?_)))))))
 ·try simp only [cs8] at c12
  have hi1 : i < D.length := by omega
  obtain ⟨tb, to_, tc, rfl, htc, hty⟩ := hD.atk hi1
  have htl := hlim.ty _ (List.getElem_mem hi1)
  refine Wp (We (W.block (We (Wb (Wa rfl (Wt TI22 TI38 h9 h11 (by omega) (Wa rfl (o_ldA TI38 rfl rfl htc rfl (Wa rfl (o_alB TI38 ?_))))))))))
  intro wa hCa hxa hsa
  refine WL.u (o_stA TI38 rfl (show _ = Value.agg (dcell D[i] (V i)).toArray from rfl) rfl (by simp only [dcell, List.toArray, Array.toList, List.all_cons, List.all_nil, sl_one1 hty]; rfl) hCa rfl ?_)
  intro wb4 hC4 hob hsb
  have hxb := Ext.own hxa (Nat.le_refl _) hob
  obtain ⟨b4, hb4⟩ : ∃ b, b = w.heap.size := ⟨_, rfl⟩
  rw [← hb4] at hC4 ⊢
  clear hCa hxa hsa hob hsb
  replace hx := hx.tr hxb
  replace hD := hD.ext hxb
  replace hC2 := hxb.blk hC2 (fun h => h)
  replace hty := hty.ext hxb
  clear hxb
  refine Wc (We (Wb (Wa rfl (Wl 2 TI38 rfl TI36 rfl rfl (Wa rfl (Wk TI36 rfl rfl (Wh hC4 rfl) (Wa rfl (Ws TI36 rfl hty (Wa rfl (Wf vI (Wc (W.block (W.loop (fun e w => ∃ q : Nat, q ≤ D[i].ty.length ∧ e 2 = .pointer (some ⟨c2, 0, none⟩) ∧ e 9 = (.slice (some ⟨tb, to_, none⟩) D.length tc) ∧ e 10 = .int .i64 (D.length : Int) ∧ e 11 = .int .i64 (i : Int) ∧ e 16 = V i ∧ e 17 = .int .i64 (D[i].ty.length : Int) ∧ e 18 = .int .i64 (q : Int) ∧ (∀ j, j < q → bndN D[i].ty j = none) ∧ Sl w 7 (V i) D[i].ty.length (exs D[i].ty) ∧ DefR w D (.slice (some ⟨tb, to_, none⟩) D.length tc) V ∧ w.heap[c2]? = some (.cells #[.int .i64 0, .int .i64 0] 32 (0, 0)) ∧ Ext w0 w) (fun e w => D[i].ty.length - (intOf (e 18)).toNat) ?_ ?_)))))))))))))
  ·exact ⟨0, Nat.zero_le _, h2, h9, h10, h11, rfl, rfl, rfl, fun j hj => by omega, hty, hD, hC2, hx⟩
  rintro e w ⟨q, hq, h2, h9, h10, h11, h16, h17, h18, hnn, hty, hD, hC2, hx⟩
  have hm18 := h18
  refine We (Wb (Wa rfl (o_lt h18 h17 (Wc (We (Wn rfl (fun c19 => ?_) (fun c19 => ?_)))))))
  ·try simp only [cs8] at c19
   have hq1 : q < D[i].ty.length := by omega
   obtain ⟨ub, uo, uc, hV1, huc⟩ := Sl.exq hty hq1
   rw [hV1] at h16
   refine Wp (We (W.block (We (Wb (Wa rfl (Wt (i := q) TI36 TI40 h16 h18 (by omega) (Wa rfl (o_ldA TI40 rfl rfl huc rfl (Wa rfl (o_alB TI40 ?_))))))))))
   intro wa hCa hxa hsa
   refine WL.u (o_stA TI40 rfl (show _ = Value.agg (exV D[i].ty[q]).toArray from rfl) rfl rfl hCa rfl ?_)
   intro wb6 hC6 hob hsb
   have hxb := Ext.own hxa (Nat.le_refl _) hob
   obtain ⟨b6, hb6⟩ : ∃ b, b = w.heap.size := ⟨_, rfl⟩
   rw [← hb6] at hC6 ⊢
   clear hCa hxa hsa hob hsb
   replace hx := hx.tr hxb
   replace hD := hD.ext hxb
   replace hC2 := hxb.blk hC2 (fun h => h)
   replace hty := hty.ext hxb
   clear hxb
   refine Wc (We (Wb (WL.cut (fun e1 w1 => e1 7 = .bool (decide (D[i].ty[q].kind = 4) || decide (D[i].ty[q].kind = 5)) ∧ e1 2 = .pointer (some ⟨c2, 0, none⟩) ∧ e1 9 = (.slice (some ⟨tb, to_, none⟩) D.length tc) ∧ e1 10 = .int .i64 (D.length : Int) ∧ e1 11 = .int .i64 (i : Int) ∧ e1 16 = (.slice (some ⟨ub, uo, none⟩) D[i].ty.length uc) ∧ e1 17 = .int .i64 (D[i].ty.length : Int) ∧ e1 18 = .int .i64 (q : Int) ∧ e1 6 = .pointer (some ⟨b6, 0, none⟩) ∧ w1 = wb6) ?_ ?_)))
   ·-- region 7
    refine Wa rfl (Wl 0 TI40 rfl TI3 rfl rfl (Wa rfl (Wk TI3 rfl rfl (Wh hC6 rfl) (Wa rfl (o_eq rfl rfl (Wa rfl (Wf vB (Wq 3 rfl (fun g25 => ?_) (fun g25 => ?_)))))))))
    ·skip
     refine Wi rfl (g25) rfl (Wi rfl (g25) rfl (Wi rfl (g25) rfl (Wa rfl (o_pickT rfl (g25) (Wa rfl (Wg vB ?_))))))
     exact Wc (⟨congrArg Value.bool (by first | rfl | (rw [Bool.eq_iff_iff]; simp_all)), h2, h9, h10, h11, h16, h17, h18, rfl, rfl⟩)
    skip
    refine Wj rfl (g25) rfl (Wl 0 TI40 rfl TI3 rfl rfl (Wj rfl (g25) rfl (Wk TI3 rfl rfl (Wh hC6 rfl) (Wj rfl (g25) rfl (o_eq rfl rfl (Wa rfl (o_pickO rfl rfl (Wa rfl (Wg vB ?_)))))))))
    exact Wc (⟨congrArg Value.bool (by first | rfl | (rw [Bool.eq_iff_iff]; simp_all)), h2, h9, h10, h11, h16, h17, h18, rfl, rfl⟩)
   rintro e w ⟨h7, h2, h9, h10, h11, h16, h17, h18, h6, hw1⟩
   subst hw1
   refine We (Wb (WL.cut (fun e1 w1 => e1 45 = .bool (outB D[i].ty[q]) ∧ e1 2 = .pointer (some ⟨c2, 0, none⟩) ∧ e1 9 = (.slice (some ⟨tb, to_, none⟩) D.length tc) ∧ e1 10 = .int .i64 (D.length : Int) ∧ e1 11 = .int .i64 (i : Int) ∧ e1 16 = (.slice (some ⟨ub, uo, none⟩) D[i].ty.length uc) ∧ e1 17 = .int .i64 (D[i].ty.length : Int) ∧ e1 18 = .int .i64 (q : Int) ∧ e1 6 = .pointer (some ⟨b6, 0, none⟩) ∧ w1 = w) ?_ ?_))
   ·-- region 8
    refine Wa rfl (Wf h7 (Wa rfl (Wf vB (Wq 1 rfl (fun g31 => ?_) (fun g31 => ?_)))))
    ·skip
     refine Wj rfl (g31) rfl (Wl 1 TI40 rfl TI3 rfl h6 (Wj rfl (g31) rfl (Wk TI3 rfl rfl (Wh hC6 rfl) (Wj rfl (g31) rfl (o_lt rfl rfl (Wj rfl (g31) rfl (Wf vB (Wq 5 rfl (fun g35 => ?_) (fun g35 => ?_)))))))))
     ·skip
      refine Wi rfl (g35) rfl (Wi rfl (g35) rfl (Wi rfl (g35) rfl (Wj rfl (g31) rfl (o_pickT rfl (g35) (Wa rfl (Ww rfl rfl (Wa rfl (Wf vB (Wq 11 rfl (fun g41 => ?_) (fun g41 => ?_))))))))))
      ·skip
       refine Wi rfl (g41) rfl (Wi rfl (g41) rfl (Wi rfl (g41) rfl (Wa rfl (o_pickT rfl (g41) ?_))))
       exact Wc (⟨congrArg Value.bool (by rw [Bool.eq_iff_iff]; simp_all [outB] <;> omega), h2, h9, h10, h11, h16, h17, h18, h6, rfl⟩)
      skip
      refine Wj rfl (g41) rfl (Wl 4 TI40 rfl TI3 rfl h6 (Wj rfl (g41) rfl (Wk TI3 rfl rfl (Wh hC6 rfl) (Wj rfl (g41) rfl (o_gt rfl rfl (Wa rfl (o_pickO rfl rfl ?_)))))))
      exact Wc (⟨congrArg Value.bool (by rw [Bool.eq_iff_iff]; simp_all [outB] <;> omega), h2, h9, h10, h11, h16, h17, h18, h6, rfl⟩)
     skip
     refine Wj rfl (g35) rfl (Wl 1 TI40 rfl TI3 rfl h6 (Wj rfl (g35) rfl (Wk TI3 rfl rfl (Wh hC6 rfl) (Wj rfl (g35) rfl (o_gt rfl rfl (Wj rfl (g31) rfl (o_pickO rfl rfl (Wa rfl (Ww rfl rfl (Wa rfl (Wf vB (Wq 11 rfl (fun g41 => ?_) (fun g41 => ?_)))))))))))))
     ·skip
      refine Wi rfl (g41) rfl (Wi rfl (g41) rfl (Wi rfl (g41) rfl (Wa rfl (o_pickT rfl (g41) ?_))))
      exact Wc (⟨congrArg Value.bool (by rw [Bool.eq_iff_iff]; simp_all [outB] <;> omega), h2, h9, h10, h11, h16, h17, h18, h6, rfl⟩)
     skip
     refine Wj rfl (g41) rfl (Wl 4 TI40 rfl TI3 rfl h6 (Wj rfl (g41) rfl (Wk TI3 rfl rfl (Wh hC6 rfl) (Wj rfl (g41) rfl (o_gt rfl rfl (Wa rfl (o_pickO rfl rfl ?_)))))))
     exact Wc (⟨congrArg Value.bool (by rw [Bool.eq_iff_iff]; simp_all [outB] <;> omega), h2, h9, h10, h11, h16, h17, h18, h6, rfl⟩)
    skip
    refine Wi rfl (g31) rfl (Wi rfl (g31) rfl (Wi rfl (g31) rfl (Wi rfl (g31) rfl (WL.z rfl rfl (WL.z rfl rfl (WL.z rfl rfl (Wi rfl (g31) rfl (Wa rfl (Wv rfl (g31) (Wa rfl (Wf vB (Wj rfl (rfl) rfl (Wl 4 TI40 rfl TI3 rfl h6 (Wj rfl (rfl) rfl (Wk TI3 rfl rfl (Wh hC6 rfl) (Wj rfl (rfl) rfl (o_gt rfl rfl (Wa rfl (o_pickO rfl rfl ?_)))))))))))))))))))
    exact Wc (⟨congrArg Value.bool (by rw [Bool.eq_iff_iff]; simp_all [outB] <;> omega), h2, h9, h10, h11, h16, h17, h18, h6, rfl⟩)
   rintro e w ⟨h45, h2, h9, h10, h11, h16, h17, h18, h6, hw1⟩
   subst hw1
   refine Wn h45 (fun c45 => ?_) (fun c45 => ?_)
   ·try simp only [cs8] at c45
    have hout : outB D[i].ty[q] = true := c45
    refine We (Wb (Wa rfl (Wl 6 TI40 rfl TI3 rfl h6 (Wa rfl (Wk TI3 rfl rfl (Wh hC6 rfl) (Wa rfl (o_bldC (cs := [(.int .i64 90), _]) TI32 (Sizes.cons TI30 (Sizes.cons TI3 Sizes.nil)) rfl (lcp vI (lcp vI lnp)) rfl rfl (WL.u (o_stA TI32 h2 (show _ = Value.agg #[.int .i64 90, .int .i64 D[i].ty[q].at_] from rfl) rfl rfl hC2 rfl ?_)))))))))
    intro wz hCz hoz hsz
    replace hx := hx.trans' hoz (fun _ h => h) (fun b hb he => by omega)
    refine Wc (Wm (retC rfl TI32 rfl h2 (show Cells _ c2 0 [.int .i64 90, .int .i64 D[i].ty[q].at_] from Cells.of hCz 0 _ (by simp)) rfl ?_))
    have hb := bnd_hit hi1 hq1 hout hno hnn
    exact ⟨by unfold bndV; rw [hb]; rfl, hx⟩
   try simp only [cs8] at c45
   have hout : outB D[i].ty[q] = false := by simpa using c45
   refine Wp (Wb (Wa rfl (o_addi h18 rfl (by omega) (Wa rfl (Wf vI (Wc (⟨⟨q + 1, by omega, h2, h9, h10, h11, h16.trans hV1.symm, h17, rfl, fun j hj => ?_, hty, hD, hC2, hx⟩, ?_⟩)))))))
   ·rcases Nat.lt_or_ge j q with h | h
    ·exact hnn j h
    rw [show j = q by omega]; exact bndN_no hq1 hout
   show D[i].ty.length - ((q : Int) + 1).toNat < _
   rw [hm18]; simp [intOf]; omega
  try simp only [cs8] at c19
  have hq1 : q = D[i].ty.length := by omega
  refine W.exit (Wb (Wa rfl (o_addi h11 rfl (by omega) (Wa rfl (Wf vI (Wc (⟨⟨i + 1, by omega, h2, h9, h10, rfl, fun j hj => ?_, hD, hC2, hx⟩, ?_⟩)))))))
  ·rcases Nat.lt_or_ge j i with h | h
   ·exact hno j h
   rw [show j = i by omega]; exact bndD_no hi1 (by rw [hq1] at hnn; exact hnn)
  show D.length - ((i : Int) + 1).toNat < _
  rw [hm11]; simp [intOf]; omega
 try simp only [cs8] at c12
 have hi1 : i = D.length := by omega
 rw [hi1] at hno
 have hbn : bndF D = none := firstN_miss hno
 refine W.exit (We (Wb (Wa rfl (o_bldC (cs := [(.int .i64 0), (.int .i64 0)]) TI32 (Sizes.cons TI30 (Sizes.cons TI3 Sizes.nil)) rfl lnp rfl rfl (WL.u (o_stA TI32 h2 (show _ = Value.agg #[.int .i64 0, .int .i64 0] from rfl) rfl rfl hC2 rfl ?_))))))
 intro wz hCz hoz hsz
 replace hx := hx.trans' hoz (fun _ h => h) (fun b hb he => by omega)
 refine Wc (Wm (retC rfl TI32 rfl h2 (show Cells _ c2 0 [.int .i64 0, .int .i64 0] from Cells.of hCz 0 _ (by simp)) rfl ?_))
 exact ⟨by unfold bndV; rw [hbn]; rfl, hx⟩
end Go.Proofs.YtpbflfgigfdohaaDoor

namespace Go.Proofs.YtpbflfgigfdohaaDoor
open Go Go.Vc Go.RowKit Go.Proofs

instance (k n : Int) : Decidable (numOk k n) := by unfold numOk; infer_instance

set_option maxHeartbeats 1000000 in
theorem tnumber_spec (kind n : Int) (w0 : World) : Ca Tryd.prog 53 #[.int .i64 kind, .int .i64 n] w0 (fun v w' => v = .bool (decide (numOk kind n)) ∧ w' = w0) := by
 refine Ca.of Tryd.func53 Tryd.ntmps53 rfl rfl (We (Wb (Wa rfl (Wg vB (Wc (We (We (Wb (Wa rfl (Wf vI (Wc (W.block (We ?_)))))))))))))
 by_cases k1 : kind = 1
 rotate_left
 by_cases k4 : kind = 4
 rotate_left
 by_cases k5 : kind = 5
 ·skip
  skip
  refine Wb (Wa rfl (o_eq rfl rfl (Wa rfl (Wg vB (Wc (W.condF' rfl (decide_eq_false k1) (We (We (Wb (Wa rfl (o_eq rfl rfl (Wa rfl (Wg vB (Wc (W.condF' rfl (decide_eq_false k4) (Wb (Wa rfl (o_eq rfl rfl (Wa rfl (Wg vB (Wc (W.condT' rfl (decide_eq_true k5) (We (Wb (Wa rfl (Wf vI (Wa rfl (o_ge rfl rfl (Wa rfl (Wf vB (Wq 2 rfl (fun g27 => ?_) (fun g27 => ?_))))))))))))))))))))))))))))))))
  ·skip
   refine Wj rfl (g27) rfl (Wf vI (Wj rfl (g27) rfl (o_le rfl rfl (Wa rfl (Ww rfl rfl (Wa rfl (Wg vB (Wc (Wm (Wu rfl vB ?_))))))))))
   exact ⟨congrArg Value.bool (by rw [Bool.eq_iff_iff]; simp_all [numOk] <;> omega), rfl⟩
  skip
  refine Wi rfl (g27) rfl (Wi rfl (g27) rfl (Wa rfl (Wv rfl (g27) (Wa rfl (Wg vB (Wc (Wm (Wu rfl vB ?_))))))))
  exact ⟨congrArg Value.bool (by rw [Bool.eq_iff_iff]; simp_all [numOk] <;> omega), rfl⟩
 ·skip
  skip
  refine Wb (Wa rfl (o_eq rfl rfl (Wa rfl (Wg vB (Wc (W.condF' rfl (decide_eq_false k1) (We (We (Wb (Wa rfl (o_eq rfl rfl (Wa rfl (Wg vB (Wc (W.condF' rfl (decide_eq_false k4) (Wb (Wa rfl (o_eq rfl rfl (Wa rfl (Wg vB (Wc (W.condF' rfl (decide_eq_false k5) (Wp (We (Wb (Wa rfl (Wf vI (Wa rfl (o_eq rfl rfl (Wa rfl (Wg vB (Wc (Wm (Wu rfl vB ?_))))))))))))))))))))))))))))))))))
  exact ⟨congrArg Value.bool (by rw [Bool.eq_iff_iff]; simp_all [numOk]), rfl⟩
 ·skip
  skip
  refine Wb (Wa rfl (o_eq rfl rfl (Wa rfl (Wg vB (Wc (W.condT' rfl (decide_eq_true k1) (We (Wb (Wa rfl (Wf vI (Wa rfl (o_eq rfl rfl (Wa rfl (Wf vB (Wq 2 rfl (fun g10 => ?_) (fun g10 => ?_))))))))))))))))
  ·skip
   refine Wi rfl (g10) rfl (Wi rfl (g10) rfl (Wa rfl (o_pickT rfl (g10) (Wa rfl (Wf vB (Wi rfl (rfl) rfl (Wi rfl (rfl) rfl (Wa rfl (o_pickT rfl (rfl) (Wa rfl (Wf vB (Wi rfl (rfl) rfl (Wi rfl (rfl) rfl (Wa rfl (o_pickT rfl (rfl) (Wa rfl (Wg vB (Wc (Wm (Wu rfl vB ?_))))))))))))))))))))
   exact ⟨congrArg Value.bool (by rw [Bool.eq_iff_iff]; simp_all [numOk]), rfl⟩
  skip
  refine Wj rfl (g10) rfl (Wf vI (Wj rfl (g10) rfl (o_eq rfl rfl (Wa rfl (o_pickO rfl rfl (Wa rfl (Wf vB (Wq 6 rfl (fun g14 => ?_) (fun g14 => ?_)))))))))
  ·skip
   refine Wi rfl (g14) rfl (Wi rfl (g14) rfl (Wa rfl (o_pickT rfl (g14) (Wa rfl (Wf vB (Wi rfl (rfl) rfl (Wi rfl (rfl) rfl (Wa rfl (o_pickT rfl (rfl) (Wa rfl (Wg vB (Wc (Wm (Wu rfl vB ?_))))))))))))))
   exact ⟨congrArg Value.bool (by rw [Bool.eq_iff_iff]; simp_all [numOk]), rfl⟩
  skip
  refine Wj rfl (g14) rfl (Wf vI (Wj rfl (g14) rfl (o_eq rfl rfl (Wa rfl (o_pickO rfl rfl (Wa rfl (Wf vB (Wq 10 rfl (fun g18 => ?_) (fun g18 => ?_)))))))))
  ·skip
   refine Wi rfl (g18) rfl (Wi rfl (g18) rfl (Wa rfl (o_pickT rfl (g18) (Wa rfl (Wg vB (Wc (Wm (Wu rfl vB ?_))))))))
   exact ⟨congrArg Value.bool (by rw [Bool.eq_iff_iff]; simp_all [numOk]), rfl⟩
  skip
  refine Wj rfl (g18) rfl (Wf vI (Wj rfl (g18) rfl (o_eq rfl rfl (Wa rfl (o_pickO rfl rfl (Wa rfl (Wg vB (Wc (Wm (Wu rfl vB ?_))))))))))
  exact ⟨congrArg Value.bool (by rw [Bool.eq_iff_iff]; simp_all [numOk]), rfl⟩
 skip
 skip
 refine Wb (Wa rfl (o_eq rfl rfl (Wa rfl (Wg vB (Wc (W.condF' rfl (decide_eq_false k1) (We (We (Wb (Wa rfl (o_eq rfl rfl (Wa rfl (Wg vB (Wc (W.condT' rfl (decide_eq_true k4) (Wp (W.condT' rfl (decide_eq_true k4) (We (Wb (Wa rfl (Wf vI (Wa rfl (o_ge rfl rfl (Wa rfl (Wf vB (Wq 2 rfl (fun g27 => ?_) (fun g27 => ?_)))))))))))))))))))))))))))
 ·skip
  refine Wj rfl (g27) rfl (Wf vI (Wj rfl (g27) rfl (o_le rfl rfl (Wa rfl (Ww rfl rfl (Wa rfl (Wg vB (Wc (Wm (Wu rfl vB ?_))))))))))
  exact ⟨congrArg Value.bool (by rw [Bool.eq_iff_iff]; simp_all [numOk] <;> omega), rfl⟩
 skip
 refine Wi rfl (g27) rfl (Wi rfl (g27) rfl (Wa rfl (Wv rfl (g27) (Wa rfl (Wg vB (Wc (Wm (Wu rfl vB ?_))))))))
 exact ⟨congrArg Value.bool (by rw [Bool.eq_iff_iff]; simp_all [numOk] <;> omega), rfl⟩
end Go.Proofs.YtpbflfgigfdohaaDoor
