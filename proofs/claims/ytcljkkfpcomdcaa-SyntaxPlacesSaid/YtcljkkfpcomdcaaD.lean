/-
  Walks. Written by program out of specs of mine.
-/
import Derived.Test.YtcljkkfpcomdcaaC
set_option linter.unusedSimpArgs false
set_option linter.unusedVariables false
set_option maxRecDepth 100000
namespace Go.Proofs.Ytcljkkfpcomdcaa
open Go Go.Vc Go.RowKit Go.Proofs

structure Ex where
  kind : Int
  n : Int
  name : List UInt8
  label : List UInt8
  tag : Int
  kids : Int
  at_ : Int
deriving instance DecidableEq for Ex
def exV (x : Ex) : List Value := [.int .i64 x.kind, .int .i64 x.n, st x.name, st x.label, .int .i64 x.tag, .int .i64 x.kids, .int .i64 x.at_]
def ex0 : Ex := ⟨0, 0, [], [], 0, 0, 0⟩
def exM : Ex := ⟨0, 0, [], [], 0, 0, -1⟩
inductive Pr (α : Type) where
  | ok (a : α) (i : Nat)
  | bad (e i : Nat)
def Pr.bind {α β : Type} (r : Pr α) (f : α → Nat → Pr β) : Pr β := match r with
  | .ok a i => f a i
  | .bad e i => .bad e i
def tk0 : Tk := ⟨0, [], 0, 0, 0⟩
def tkA (T : List Tk) (i : Nat) : Tk := T.getD i tk0
def plc (T : List Tk) (fin i : Nat) : Nat := if i < T.length then (tkA T i).at_ else fin
def isT (t : Tk) (k : Nat) (s : List UInt8) : Bool := decide (t.kind = k) && decide (t.text = s)
def wantT (T : List Tk) (i k : Nat) (s : List UInt8) : Pr Unit := if isT (tkA T i) k s = true then .ok () (i + 1) else .bad 60 i
def nmT (t : Tk) : Bool := decide (t.kind = 1) && nameB t.text
def nameT (T : List Tk) (i : Nat) : Pr (List UInt8) := if nmT (tkA T i) = true then .ok (tkA T i).text (i + 1) else .bad 60 i
def numT (T : List Tk) (i : Nat) : Pr Nat := if (tkA T i).kind = 2 then .ok (tkA T i).n (i + 1) else .bad 60 i
def leafE (s : List UInt8) : Option (Int × Int) := if s = [117, 56] then some (1, 1) else if s = [117, 49, 54] then some (1, 2) else if s = [117, 51, 50] then some (1, 4) else if s = [117, 54, 52] then some (1, 8) else if s = [98, 111, 111, 108] then some (2, 0) else if s = [118, 97, 114, 105, 110, 116] then some (3, 0) else none
def bgnT (t : Tk) : Bool := decide (t.kind = 1) && (decide (t.text = [118, 101, 99, 116, 111, 114]) || decide (t.text = [108, 105, 115, 116]) || decide (t.text = [111, 112, 116, 105, 111, 110]) || decide (t.text = [117, 110, 105, 111, 110]) || decide (t.text = [115, 116, 114, 117, 99, 116]) || (leafE t.text).isSome || nameB t.text)
/-- what stands ahead of the colon; full: there are as many as may be -/
def headT (T : List Tk) (u full : Bool) (i : Nat) (x : Ex) : Pr Ex :=
  if u then (if full = true ∧ (tkA T i).kind = 2 then .bad 5 i else (numT T i).bind fun n i => .ok { x with tag := n } i)
  else (if full = true ∧ nmT (tkA T i) = true then .bad 5 i else (nameT T i).bind fun s i => .ok { x with label := s } i)
/-- fields or arms, behind the bracket -/
def rowsT (E : Nat → Ex → Pr (List Ex)) (T : List Tk) (u : Bool) : Nat → Nat → Nat → Pr (List Ex × Nat)
  | 0, i, _ => .bad 0 i
  | g + 1, i, k => (headT T u (decide (k = 64)) i { ex0 with at_ := i }).bind fun x i => (wantT T i 3 [58]).bind fun _ i => (E i x).bind fun N i =>
    if isT (tkA T i) 3 [44] = true then (rowsT E T u g (i + 1) (k + 1)).bind fun r i => .ok (N ++ r.1, r.2) i
    else (wantT T i 3 [125]).bind fun _ i => .ok (N, k + 1) i
def atE (i : Nat) (x : Ex) : Ex := if x.at_ < 0 then { x with at_ := i } else x
def Ex.lf (x : Ex) (k n : Int) : Ex := { x with kind := k, n := n }
def Ex.vec (x : Ex) (b : Bool) (n : Int) : Ex := { x with kind := if b then 5 else 4, kids := 1, n := n }
def Ex.opt (x : Ex) : Ex := { x with kind := 6, kids := 1 }
def Ex.br (x : Ex) (u : Bool) (k : Int) : Ex := { x with kind := if u then 7 else 8, kids := k }
def Ex.nm (x : Ex) (s : List UInt8) : Ex := { x with kind := 9, name := s }
/-- a type: its nodes; their places are tokens' numbers -/
def exprT (T : List Tk) : Nat → Nat → Ex → Nat → Pr (List Ex)
  | 0, i, _, _ => .bad 0 i
  | f + 1, i, x, deep =>
    if bgnT (tkA T i) = false then .bad 60 i
    else if 16 < deep then .bad 61 i
    else match leafE (tkA T i).text with
    | some kn => .ok [(atE i x).lf kn.1 kn.2] (i + 1)
    | none =>
      if (tkA T i).text = [118, 101, 99, 116, 111, 114] ∨ (tkA T i).text = [108, 105, 115, 116] then
        (wantT T (i + 1) 3 [60]).bind fun _ j => (exprT T f j exM (deep + 1)).bind fun N j => (wantT T j 3 [44]).bind fun _ j => (numT T j).bind fun n j => (wantT T j 3 [62]).bind fun _ j =>
          .ok ((atE i x).vec (decide ((tkA T i).text = [108, 105, 115, 116])) n :: N) j
      else if (tkA T i).text = [111, 112, 116, 105, 111, 110] then
        (wantT T (i + 1) 3 [60]).bind fun _ j => (exprT T f j exM (deep + 1)).bind fun N j => (wantT T j 3 [62]).bind fun _ j => .ok ((atE i x).opt :: N) j
      else if (tkA T i).text = [117, 110, 105, 111, 110] then
        ((wantT T (i + 1) 3 [123]).bind fun _ j => rowsT (fun i x => exprT T f i x (deep + 1)) T true f j 0).bind fun r j => .ok ((atE i x).br true (r.2 : Nat) :: r.1) j
      else if (tkA T i).text = [115, 116, 114, 117, 99, 116] then
        ((wantT T (i + 1) 3 [123]).bind fun _ j => rowsT (fun i x => exprT T f i x (deep + 1)) T false f j 0).bind fun r j => .ok ((atE i x).br false (r.2 : Nat) :: r.1) j
      else .ok [(atE i x).nm (tkA T i).text] (i + 1)
structure Df where
  name : List UInt8
  at_ : Int
  ty : List Ex
deriving instance DecidableEq for Df
/-- the definitions from a token on; k there are -/
def defsT (T : List Tk) : Nat → Nat → Nat → Pr (List Df)
  | 0, i, _ => .bad 0 i
  | g + 1, i, k => if T.length ≤ i then .ok [] i
    else if k = 256 ∧ isT (tkA T i) 1 [116, 121, 112, 101] = true then .bad 5 i
    else (wantT T i 1 [116, 121, 112, 101]).bind fun _ i => (nameT T i).bind fun s j => (wantT T j 3 [61]).bind fun _ j => (exprT T (T.length + 2) j exM 0).bind fun N j => (wantT T j 3 [59]).bind fun _ j =>
      (defsT T g j (k + 1)).bind fun D j => .ok (⟨s, i, N⟩ :: D) j
/-- a node at its token's place -/
def plE (T : List Tk) (x : Ex) : Ex := if x.at_ < 0 then x else { x with at_ := (tkA T x.at_.toNat).at_ }
def plD (T : List Tk) (d : Df) : Df := ⟨d.name, (tkA T d.at_.toNat).at_, d.ty.map (plE T)⟩
def pan (e a : Nat) : PanicEntry := { v := .iface 74 (.agg #[.int .i64 (e : Int), .int .i64 (a : Int)]), recovered := false }
/-- the parser -/
structure Psr (w : World) (B0 p : Nat) (lv : Value) (T : List Tk) (fin at_ : Nat) : Prop where
  cell : w.heap[p]? = some (.cells #[lv, .int .i64 (at_ : Int), .int .i64 (fin : Int)] 77 (0, 0))
  toks : Sl w 5 lv T.length (flat T)
  off : ∀ b, lv.ownBlock = some b → b < p
  hp : p < B0
  le : at_ ≤ T.length
  small : T.length ≤ 1000000
  b0 : B0 ≤ w.heap.size
theorem Psr.keep {w w' : World} {F : Nat → Prop} {B0 p fin at_ : Nat} {lv : Value} {T : List Tk} (h : Psr w B0 p lv T fin at_) (ho : Only F w w') (hF : ∀ k, F k → p < k) : Psr w' B0 p lv T fin at_ :=
  ⟨ho.blk h.cell (fun hp => by have := hF p hp; omega), h.toks.only ho (fun b hb hk => by have := hF b hk; have := h.off b hb; omega), h.off, h.hp, h.le, h.small, Nat.le_trans h.b0 ho.size⟩
theorem Psr.ext {w w' : World} {B0 p fin at_ : Nat} {lv : Value} {T : List Tk} (h : Psr w B0 p lv T fin at_) (ho : Ext w w') : Psr w' B0 p lv T fin at_ := h.keep ho (fun _ h => h.elim)
theorem Psr.move {w w' : World} {B0 p fin at_ a2 : Nat} {lv : Value} {T : List Tk} (h : Psr w B0 p lv T fin at_) (hc : w'.heap[p]? = some (.cells #[lv, .int .i64 (a2 : Int), .int .i64 (fin : Int)] 77 (0, 0))) (ho : Only (fun k => k = p) w w') (hle : a2 ≤ T.length) : Psr w' B0 p lv T fin a2 :=
  ⟨hc, h.toks.only ho (fun b hb hk => by have := h.off b hb; omega), h.off, h.hp, hle, h.small, Nat.le_trans h.b0 ho.size⟩
theorem tkA_lt {T : List Tk} {i : Nat} (h : i < T.length) : tkA T i = T[i] := by simp [tkA, List.getD_eq_getElem?_getD, h]
theorem tkA_ge {T : List Tk} {i : Nat} (h : T.length ≤ i) : tkA T i = tk0 := by simp [tkA, List.getD_eq_getElem?_getD, h]
theorem tkA_kind {T : List Tk} {i k : Nat} (hk : 1 ≤ k) (h : (tkA T i).kind = k) : i < T.length := Nat.lt_of_not_le (fun h1 => by rw [tkA_ge h1] at h; simp only [tk0] at h; omega)
theorem plc_lt {T : List Tk} {fin i : Nat} (h : i < T.length) : plc T fin i = (tkA T i).at_ := if_pos h
theorem isT_lt {T : List Tk} {i k : Nat} {s : List UInt8} (hk : 1 ≤ k) (h : isT (tkA T i) k s = true) : i < T.length := by
  simp only [isT, Bool.and_eq_true, decide_eq_true_eq] at h
  exact tkA_kind hk h.1
theorem flat_at (ts : List Tk) : ∀ (k : Nat) (hk : k < ts.length), ((flat ts).drop (k * 5)).take 5 = (tokV ts[k]).toList := by
  induction ts with
  | nil => intro k hk; simp at hk
  | cons t ts ih =>
    intro k hk
    have h5 : (tokV t).toList.length = 5 := rfl
    cases k with
    | zero => rw [Nat.zero_mul, List.drop_zero, flat, List.flatMap_cons]; exact List.take_left' h5
    | succ k =>
      have h1 : (k + 1) * 5 - (tokV t).toList.length = k * 5 := by rw [h5]; omega
      have := ih k (by simpa using hk)
      rw [flat, List.flatMap_cons, List.drop_append, List.drop_eq_nil_of_le (by rw [h5]; omega), List.nil_append, h1]
      exact this
theorem Sl.tok {w : World} {v : Value} {ts : List Tk} (h : Sl w 5 v ts.length (flat ts)) {k : Nat} (hk : k < ts.length) : ∃ b o c, v = .slice (some ⟨b, o, none⟩) ts.length c ∧ Cells w b (o + k * 5) (tokV (tkA ts k)).toList := by
  rw [tkA_lt hk]
  rcases h.val with ⟨hz, h0⟩ | ⟨b, o, c, rfl, hnc, hc⟩
  · omega
  · exact ⟨b, o, c, rfl, by rw [← flat_at ts k hk]; exact hc.sub _ _⟩

theorem place_spec (B0 p : Nat) (lv : Value) (T : List Tk) (fin at_ : Nat) (w0 : World) (h : Psr w0 B0 p lv T fin at_) : Ca Try.prog 34 #[.pointer (some ⟨p, 0, none⟩)] w0 (fun v w' => v = .int .i64 (plc T fin at_ : Int) ∧ Ext w0 w') := by
  have hcell := h.cell
  have hT := h.toks
  have hsm := h.small
  have hx : Ext w0 w0 := Only.refl _ _
  refine Ca.of Try.func34 Try.ntmps34 rfl rfl ?_
  refine W.seq ?_
  refine W.region ?_
  refine WL.c rfl (o_ash (show _ = Value.int _ _ from rfl) ?_)
  refine WL.nil ?_
  refine W.seq ?_
  refine W.seq ?_
  refine W.quiet rfl (by kernel_rfl) ?_
  refine WQ.c rfl ((QO.o rfl fun _ => o_mvh (by first | exact (show _ = Value.pointer _ from rfl) | exact rfl) ⟨rfl, rfl⟩)) ?_
  refine WQ.c rfl ((QO.r fun _ => r_nil rfl)) ?_
  refine WQ.c rfl ((QO.o rfl fun _ => o_fa 1 TI77 rfl TI3 rfl rfl ⟨rfl, rfl⟩)) ?_
  refine WQ.c rfl ((QO.o rfl fun _ => o_ld TI3 rfl rfl (cell_of hcell rfl) ⟨rfl, rfl⟩)) ?_
  refine WQ.c rfl ((QO.o rfl fun _ => o_mvh (by first | exact (show _ = Value.pointer _ from rfl) | exact rfl) ⟨rfl, rfl⟩)) ?_
  refine WQ.c rfl ((QO.r fun _ => r_nil rfl)) ?_
  refine WQ.c rfl ((QO.o rfl fun _ => o_fa 0 TI77 rfl TI54 rfl rfl ⟨rfl, rfl⟩)) ?_
  refine WQ.c rfl ((QO.o rfl fun _ => o_ld TI54 rfl rfl (cell_of hcell rfl) ⟨rfl, rfl⟩)) ?_
  refine WQ.c rfl ((QO.r fun _ => r_lenR TI54 rfl hT)) ?_
  refine WQ.c rfl ((QO.o rfl fun _ => o_lt rfl rfl ⟨rfl, rfl⟩)) ?_
  refine WQ.nil ?_
  intro nq
  have hxq1 := Only.drewN w0 nq
  replace h := h.ext hxq1
  replace hcell := h.cell
  replace hT := h.toks
  replace hx := hx.tr hxq1
  generalize World.drewN w0 nq = wq1 at *
  refine W.cond rfl (fun c12 => ?_) (fun c12 => ?_)
  · try simp only [decide_eq_true_eq, decide_eq_false_iff_not, Bool.not_eq_true', Bool.not_eq_false', Bool.and_eq_true, Bool.or_eq_true, Bool.and_eq_false_iff, Bool.or_eq_false_iff] at c12
    obtain ⟨tb, to_, tc, rfl, htc⟩ := Sl.tok h.toks (k := at_) (by omega)
    refine W.seq ?_
    refine W.quiet rfl (by kernel_rfl) ?_
    refine WQ.c rfl ((QO.o rfl fun _ => o_mvh (by first | exact (show _ = Value.pointer _ from rfl) | exact rfl) ⟨rfl, rfl⟩)) ?_
    refine WQ.c rfl ((QO.r fun _ => r_nil rfl)) ?_
    refine WQ.c rfl ((QO.o rfl fun _ => o_fa 0 TI77 rfl TI54 rfl rfl ⟨rfl, rfl⟩)) ?_
    refine WQ.c rfl ((QO.o rfl fun _ => o_ld TI54 rfl rfl (cell_of hcell rfl) ⟨rfl, rfl⟩)) ?_
    refine WQ.c rfl ((QO.o rfl fun _ => o_mvh (by first | exact (show _ = Value.pointer _ from rfl) | exact rfl) ⟨rfl, rfl⟩)) ?_
    refine WQ.c rfl ((QO.r fun _ => r_nil rfl)) ?_
    refine WQ.c rfl ((QO.o rfl fun _ => o_fa 1 TI77 rfl TI3 rfl rfl ⟨rfl, rfl⟩)) ?_
    refine WQ.c rfl ((QO.o rfl fun _ => o_ld TI3 rfl rfl (cell_of hcell rfl) ⟨rfl, rfl⟩)) ?_
    refine WQ.c rfl ((QO.o rfl fun _ => o_ixB (i := at_) TI54 TI58 rfl rfl (by omega) ⟨rfl, rfl⟩)) ?_
    refine WQ.c rfl ((QO.o rfl fun _ => o_fa 3 TI58 rfl TI3 rfl rfl ⟨rfl, rfl⟩)) ?_
    refine WQ.c rfl ((QO.o rfl fun _ => o_ld TI3 rfl rfl (htc 3 _ rfl) ⟨rfl, rfl⟩)) ?_
    refine WQ.c rfl ((QO.o rfl fun _ => o_ash (show _ = Value.int _ _ from rfl) ⟨rfl, rfl⟩)) ?_
    refine WQ.nil ?_
    intro nq
    have hxq2 := Only.drewN wq1 nq
    replace h := h.ext hxq2
    replace hcell := h.cell
    replace hT := h.toks
    replace hx := hx.tr hxq2
    generalize World.drewN wq1 nq = wq2 at *
    refine W.ret ?_
    refine ret1v rfl (show _ = Value.int _ _ from rfl) ?_
    exact ⟨by rw [plc_lt (by omega)], hx⟩
  · try simp only [decide_eq_true_eq, decide_eq_false_iff_not, Bool.not_eq_true', Bool.not_eq_false', Bool.and_eq_true, Bool.or_eq_true, Bool.and_eq_false_iff, Bool.or_eq_false_iff] at c12
    refine W.skip ?_
    refine W.seq ?_
    refine W.region ?_
    refine WL.c rfl (o_mvh (by first | exact (show _ = Value.pointer _ from rfl) | exact rfl) ?_)
    refine WL.c rfl (o_nil rfl ?_)
    refine WL.c rfl (o_fa 2 TI77 rfl TI3 rfl rfl ?_)
    refine WL.c rfl (o_ld TI3 rfl rfl (cell_of hcell rfl) ?_)
    refine WL.c rfl (o_ash (show _ = Value.int _ _ from rfl) ?_)
    refine WL.nil ?_
    refine W.ret ?_
    refine ret1v rfl (show _ = Value.int _ _ from rfl) ?_
    exact ⟨by rw [plc, if_neg (by omega)], hx⟩
theorem fails_spec (B0 p : Nat) (lv : Value) (T : List Tk) (fin at_ : Nat) (w0 : World) (h : Psr w0 B0 p lv T fin at_) (e : Nat) : CaX Try.prog 32 #[.pointer (some ⟨p, 0, none⟩), .int .i64 (e : Int)] w0 (fun _ _ => False) (fun ch w' => ch = [pan e (plc T fin at_)] ∧ Ext w0 w') := by
  refine CaX.of Try.func32 Try.ntmps32 rfl rfl ?_
  refine W.region ?_
  refine WL.c rfl (o_mvh (show _ = Value.int _ _ from rfl) ?_)
  refine WL.c rfl (o_mvh (by first | exact (show _ = Value.pointer _ from rfl) | exact rfl) ?_)
  refine WL.c rfl (o_call Try.call34 (lc rfl ln) ((place_spec B0 p lv T fin at_ _ h).mono ?_))
  rintro v6 w6 ⟨rfl, hx6⟩
  refine WL.c rfl (o_bldC (cs := [_, _]) TI49 (Sizes.cons TI32 (Sizes.cons TI3 Sizes.nil)) rfl (lcp (show _ = Value.int _ _ from rfl) (lcp (show _ = Value.int _ _ from rfl) lnp)) rfl rfl ?_)
  refine WL.c rfl (o_bld TI74 (Sizes.cons TI49 Sizes.nil) rfl rfl ?_)
  refine WL.c rfl (o_mkI TI74 rfl rfl ?_)
  refine WL.ux (ox_panic (show _ = Value.iface _ _ from rfl) ?_)
  exact ⟨rfl, hx6⟩
theorem peek_spec (B0 p : Nat) (lv : Value) (T : List Tk) (fin at_ : Nat) (w0 : World) (h : Psr w0 B0 p lv T fin at_) : Ca Try.prog 54 #[.pointer (some ⟨p, 0, none⟩)] w0 (fun v w' => v = Value.agg (tokV (tkA T at_)) ∧ Ext w0 w') := by
  have hcell := h.cell
  have hT := h.toks
  have hsm := h.small
  have hx : Ext w0 w0 := Only.refl _ _
  have hcell0 := hcell
  refine Ca.of Try.func54 Try.ntmps54 rfl rfl ?_
  refine W.seq ?_
  refine W.region ?_
  refine WL.c rfl (o_alB TI58 ?_)
  intro w2 hC2 hx2 hs2
  replace h := h.ext hx2
  replace hcell := h.cell
  replace hT := h.toks
  replace hx := hx.tr hx2
  obtain ⟨c2, hc2⟩ : ∃ c2, c2 = w0.heap.size := ⟨_, rfl⟩
  rw [← hc2] at hC2 hs2 ⊢
  have hcp : ¬ p = c2 := fun he => by have := (Array.getElem?_eq_some_iff.1 hcell0).1; omega
  refine WL.nil ?_
  refine W.seq ?_
  refine W.seq ?_
  refine W.quiet rfl (by kernel_rfl) ?_
  refine WQ.c rfl ((QO.o rfl fun _ => o_mvh (by first | exact (show _ = Value.pointer _ from rfl) | exact rfl) ⟨rfl, rfl⟩)) ?_
  refine WQ.c rfl ((QO.r fun _ => r_nil rfl)) ?_
  refine WQ.c rfl ((QO.o rfl fun _ => o_fa 1 TI77 rfl TI3 rfl rfl ⟨rfl, rfl⟩)) ?_
  refine WQ.c rfl ((QO.o rfl fun _ => o_ld TI3 rfl rfl (cell_of hcell rfl) ⟨rfl, rfl⟩)) ?_
  refine WQ.c rfl ((QO.o rfl fun _ => o_mvh (by first | exact (show _ = Value.pointer _ from rfl) | exact rfl) ⟨rfl, rfl⟩)) ?_
  refine WQ.c rfl ((QO.r fun _ => r_nil rfl)) ?_
  refine WQ.c rfl ((QO.o rfl fun _ => o_fa 0 TI77 rfl TI54 rfl rfl ⟨rfl, rfl⟩)) ?_
  refine WQ.c rfl ((QO.o rfl fun _ => o_ld TI54 rfl rfl (cell_of hcell rfl) ⟨rfl, rfl⟩)) ?_
  refine WQ.c rfl ((QO.r fun _ => r_lenR TI54 rfl hT)) ?_
  refine WQ.c rfl ((QO.o rfl fun _ => o_lt rfl rfl ⟨rfl, rfl⟩)) ?_
  refine WQ.nil ?_
  intro nq
  have hxq1 := Only.drewN w2 nq
  replace h := h.ext hxq1
  replace hcell := h.cell
  replace hT := h.toks
  replace hx := hx.tr hxq1
  replace hC2 := hxq1.blk hC2 (fun h => h)
  generalize World.drewN w2 nq = wq1 at *
  refine W.cond rfl (fun c12 => ?_) (fun c12 => ?_)
  · try simp only [decide_eq_true_eq, decide_eq_false_iff_not, Bool.not_eq_true', Bool.not_eq_false', Bool.and_eq_true, Bool.or_eq_true, Bool.and_eq_false_iff, Bool.or_eq_false_iff] at c12
    obtain ⟨tb, to_, tc, rfl, htc⟩ := Sl.tok h.toks (k := at_) (by omega)
    refine W.seq ?_
    refine W.tail 10 rfl (by kernel_rfl) ?_
    refine WS.c rfl ((SO.o rfl (o_mvh (by first | exact (show _ = Value.pointer _ from rfl) | exact rfl) ⟨rfl, rfl⟩))) ?_
    refine WS.c rfl ((SO.r (r_nil rfl))) ?_
    refine WS.c rfl ((SO.o rfl (o_fa 0 TI77 rfl TI54 rfl rfl ⟨rfl, rfl⟩))) ?_
    refine WS.c rfl ((SO.o rfl (o_ld TI54 rfl rfl (cell_of hcell rfl) ⟨rfl, rfl⟩))) ?_
    refine WS.c rfl ((SO.o rfl (o_mvh (by first | exact (show _ = Value.pointer _ from rfl) | exact rfl) ⟨rfl, rfl⟩))) ?_
    refine WS.c rfl ((SO.r (r_nil rfl))) ?_
    refine WS.c rfl ((SO.o rfl (o_fa 1 TI77 rfl TI3 rfl rfl ⟨rfl, rfl⟩))) ?_
    refine WS.c rfl ((SO.o rfl (o_ld TI3 rfl rfl (cell_of hcell rfl) ⟨rfl, rfl⟩))) ?_
    refine WS.c rfl ((SO.o rfl (o_ixB (i := at_) TI54 TI58 rfl rfl (by omega) ⟨rfl, rfl⟩))) ?_
    refine WS.c rfl ((SO.o rfl (o_ldA TI58 rfl rfl htc rfl ⟨rfl, rfl⟩))) ?_
    refine WS.nil ?_
    refine WL.u (o_stA TI58 rfl (show _ = Value.agg (tokV (tkA T at_)) from rfl) rfl rfl hC2 rfl ?_)
    intro wE hE hoE hsE
    refine WL.nil ?_
    refine W.ret ?_
    refine retC rfl TI58 rfl rfl (cells_all hE) rfl ?_
    exact ⟨rfl, (hx.tr (Only.drew _)).trans' hoE (fun _ h => h) (fun k hk he => by omega)⟩
  · try simp only [decide_eq_true_eq, decide_eq_false_iff_not, Bool.not_eq_true', Bool.not_eq_false', Bool.and_eq_true, Bool.or_eq_true, Bool.and_eq_false_iff, Bool.or_eq_false_iff] at c12
    refine W.skip ?_
    refine W.seq ?_
    refine W.region ?_
    refine WL.c rfl (o_bldC (cs := [(.int .i64 0), (.string ⟨#[]⟩), (.int .i64 0), (.int .i64 0), (.int .i64 0)]) TI58 (Sizes.cons TI3 (Sizes.cons TI9 (Sizes.cons TI3 (Sizes.cons TI3 (Sizes.cons TI3 Sizes.nil))))) rfl lnp rfl rfl ?_)
    refine WL.u (o_stA TI58 rfl (show _ = Value.agg (tokV tk0) from rfl) rfl rfl hC2 rfl ?_)
    intro wE hE hoE hsE
    refine WL.nil ?_
    refine W.ret ?_
    refine retC rfl TI58 rfl rfl (cells_all hE) rfl ?_
    exact ⟨by rw [tkA_ge (by omega)], hx.trans' hoE (fun _ h => h) (fun k hk he => by omega)⟩
theorem is_spec (B0 p : Nat) (lv : Value) (T : List Tk) (fin at_ : Nat) (w0 : World) (h : Psr w0 B0 p lv T fin at_) (k : Nat) (s : List UInt8) : Ca Try.prog 31 #[.pointer (some ⟨p, 0, none⟩), .int .i64 (k : Int), st s] w0 (fun v w' => v = .bool (isT (tkA T at_) k s) ∧ Ext w0 w') := by
  have hx : Ext w0 w0 := Only.refl _ _
  have hsm := h.small
  have hle := h.le
  refine Ca.of Try.func31 Try.ntmps31 rfl rfl ?_
  refine W.seq ?_
  refine W.region ?_
  refine WL.c rfl (o_ash (show _ = Value.bool _ from rfl) ?_)
  refine WL.nil ?_
  refine W.seq ?_
  refine W.region ?_
  refine WL.c rfl (o_mvh (by first | exact (show _ = Value.pointer _ from rfl) | exact rfl) ?_)
  refine WL.c rfl (o_call Try.call54 (lc rfl ln) ((peek_spec B0 p lv T fin at_ _ h).mono ?_))
  rintro v9 w9 ⟨rfl, hx9⟩
  replace h := h.ext hx9
  replace hx := hx.tr hx9
  refine WL.c rfl (o_alB TI58 ?_)
  intro wa7 hCa hxa hsa
  refine WL.u (o_stA TI58 rfl (show _ = Value.agg (tokV (tkA T at_)) from rfl) rfl rfl hCa rfl ?_)
  intro wb7 hB7 hob hsb
  have hxb := Ext.own hxa (Nat.le_refl _) hob
  clear hCa hxa hsa hob hsb
  replace h := h.ext hxb
  replace hx := hx.tr hxb
  refine WL.nil ?_
  refine W.seq ?_
  refine W.region ?_
  refine WL.c rfl (o_fa 0 TI58 rfl TI3 rfl rfl ?_)
  refine WL.c rfl (o_ld TI3 rfl rfl (cell_of hB7 rfl) ?_)
  refine WL.c rfl (o_mvh (show _ = Value.int _ _ from rfl) ?_)
  refine WL.c rfl (o_eq rfl rfl ?_)
  refine WL.c rfl (o_mvh (show _ = Value.bool _ from rfl) ?_)
  refine WL.sp 4 rfl (fun g14 => ?_) (fun g14 => ?_)
  · skip
    refine WL.g rfl (g14) rfl (o_fa 1 TI58 rfl TI9 rfl rfl ?_)
    refine WL.g rfl (g14) rfl (o_ld TI9 rfl rfl (cell_of hB7 rfl) ?_)
    refine WL.g rfl (g14) rfl (o_mvh (show _ = Value.string _ from rfl) ?_)
    refine WL.g rfl (g14) rfl (o_eqT rfl rfl ?_)
    refine WL.c rfl (o_pickA rfl rfl ?_)
    refine WL.c rfl (o_ash (show _ = Value.bool _ from rfl) ?_)
    refine WL.nil ?_
    refine W.ret ?_
    refine ret1v rfl (show _ = Value.bool _ from rfl) ?_
    exact ⟨congrArg Value.bool (by rw [Bool.eq_iff_iff]; simp_all [isT] <;> omega), hx⟩
  · skip
    refine WL.s rfl (g14) rfl ?_
    refine WL.s rfl (g14) rfl ?_
    refine WL.s rfl (g14) rfl ?_
    refine WL.s rfl (g14) rfl ?_
    refine WL.c rfl (o_pickF rfl (g14) ?_)
    refine WL.c rfl (o_ash (show _ = Value.bool _ from rfl) ?_)
    refine WL.nil ?_
    refine W.ret ?_
    refine ret1v rfl (show _ = Value.bool _ from rfl) ?_
    exact ⟨congrArg Value.bool (by rw [Bool.eq_iff_iff]; simp_all [isT] <;> omega), hx⟩
theorem want_spec (B0 p : Nat) (lv : Value) (T : List Tk) (fin at_ : Nat) (w0 : World) (h : Psr w0 B0 p lv T fin at_) (k : Nat) (hk : 1 ≤ k) (s : List UInt8) : CaX Try.prog 33 #[.pointer (some ⟨p, 0, none⟩), .int .i64 (k : Int), st s] w0 (fun _ w' => wantT T at_ k s = .ok () (at_ + 1) ∧ Psr w' B0 p lv T fin (at_ + 1) ∧ Only (fun k => k = p) w0 w') (fun ch w' => ∃ e j, wantT T at_ k s = .bad e j ∧ ch = [pan e (plc T fin j)] ∧ Ext w0 w') := by
  have hx : Ext w0 w0 := Only.refl _ _
  have hsm := h.small
  have hle := h.le
  refine CaX.of Try.func33 Try.ntmps33 rfl rfl ?_
  refine W.seq ?_
  refine W.seq ?_
  refine W.region ?_
  refine WL.c rfl (o_mvh (by first | exact (show _ = Value.pointer _ from rfl) | exact rfl) ?_)
  refine WL.c rfl (o_mvh (show _ = Value.int _ _ from rfl) ?_)
  refine WL.c rfl (o_mvh (show _ = Value.string _ from rfl) ?_)
  refine WL.c rfl (o_call Try.call31 (lc rfl (lc rfl (lc rfl ln))) ((is_spec B0 p lv T fin at_ _ h k s).mono ?_))
  rintro v9 w9 ⟨rfl, hx9⟩
  replace h := h.ext hx9
  replace hx := hx.tr hx9
  refine WL.c rfl (o_not' rfl ?_)
  refine WL.nil ?_
  refine W.cond rfl (fun c10 => ?_) (fun c10 => ?_)
  · try simp only [decide_eq_true_eq, decide_eq_false_iff_not, Bool.not_eq_true', Bool.not_eq_false', Bool.and_eq_true, Bool.or_eq_true, Bool.and_eq_false_iff, Bool.or_eq_false_iff] at c10
    refine W.region ?_
    refine WL.c rfl (o_mvh (by first | exact (show _ = Value.pointer _ from rfl) | exact rfl) ?_)
    refine WL.cx rfl (ox_call Try.call32 (lc rfl (lc rfl ln)) ((fails_spec B0 p lv T fin at_ _ h 60).mono ?_ (fun ch w' hh => by obtain ⟨h1, h2⟩ := hh; exact ⟨60, at_, by rw [wantT, if_neg (by simp_all)], h1, hx.tr h2⟩)))
    exact fun _ _ hf => hf.elim
  · try simp only [decide_eq_true_eq, decide_eq_false_iff_not, Bool.not_eq_true', Bool.not_eq_false', Bool.and_eq_true, Bool.or_eq_true, Bool.and_eq_false_iff, Bool.or_eq_false_iff] at c10
    have hit : isT (tkA T at_) k s = true := by simp_all
    have hlt := isT_lt hk hit
    refine W.skip ?_
    refine W.region ?_
    refine WL.c rfl (o_mvh (by first | exact (show _ = Value.pointer _ from rfl) | exact rfl) ?_)
    refine WL.c rfl (o_nil rfl ?_)
    refine WL.c rfl (o_fa 1 TI77 rfl TI3 rfl rfl ?_)
    refine WL.c rfl (o_ld TI3 rfl rfl (cell_of h.cell rfl) ?_)
    refine WL.c rfl (o_addi rfl rfl (by omega) ?_)
    refine WL.c rfl (o_nil rfl ?_)
    refine WL.c rfl (o_fa 1 TI77 rfl TI3 rfl rfl ?_)
    refine WL.u (o_stB TI3 rfl (show _ = Value.int _ _ from rfl) rfl h.cell (show 1 < 3 by decide) ?_)
    intro w19 hBp hop hsp
    replace h := h.move (a2 := at_ + 1) hBp hop (by omega)
    have hxp := hx.trans' hop (fun _ h => h.elim) (G := fun k => k = p) (fun _ _ h => h)
    refine WL.nil ?_
    refine ret0 rfl ?_
    exact ⟨by rw [wantT, if_pos hit], h, hxp⟩
theorem mark_spec (B0 p : Nat) (lv : Value) (T : List Tk) (fin at_ : Nat) (w0 : World) (h : Psr w0 B0 p lv T fin at_) (s : List UInt8) : CaX Try.prog 36 #[.pointer (some ⟨p, 0, none⟩), st s] w0 (fun _ w' => wantT T at_ 3 s = .ok () (at_ + 1) ∧ Psr w' B0 p lv T fin (at_ + 1) ∧ Only (fun k => k = p) w0 w') (fun ch w' => ∃ e j, wantT T at_ 3 s = .bad e j ∧ ch = [pan e (plc T fin j)] ∧ Ext w0 w') := by
  refine CaX.of Try.func36 Try.ntmps36 rfl rfl ?_
  refine W.region ?_
  refine WL.c rfl (o_mvh (by first | exact (show _ = Value.pointer _ from rfl) | exact rfl) ?_)
  refine WL.c rfl (o_mvh (show _ = Value.string _ from rfl) ?_)
  refine WL.cx rfl (ox_call Try.call33 (lc rfl (lc rfl (lc rfl ln))) ((want_spec B0 p lv T fin at_ _ h 3 (by decide) s).mono ?_ (fun ch w' hh => hh)))
  rintro v6 w6 hh
  refine WL.nil ?_
  refine ret0 rfl ?_
  exact hh
theorem isname_spec (B0 p : Nat) (lv : Value) (T : List Tk) (fin at_ : Nat) (w0 : World) (h : Psr w0 B0 p lv T fin at_) (hlen : (tkA T at_).text.length ≤ 9223372036854775807) : Ca Try.prog 55 #[.pointer (some ⟨p, 0, none⟩)] w0 (fun v w' => v = .bool (nmT (tkA T at_)) ∧ Ext w0 w') := by
  have hx : Ext w0 w0 := Only.refl _ _
  have hsm := h.small
  have hle := h.le
  refine Ca.of Try.func55 Try.ntmps55 rfl rfl ?_
  refine W.seq ?_
  refine W.region ?_
  refine WL.c rfl (o_ash (show _ = Value.bool _ from rfl) ?_)
  refine WL.nil ?_
  refine W.seq ?_
  refine W.region ?_
  refine WL.c rfl (o_mvh (by first | exact (show _ = Value.pointer _ from rfl) | exact rfl) ?_)
  refine WL.c rfl (o_call Try.call54 (lc rfl ln) ((peek_spec B0 p lv T fin at_ _ h).mono ?_))
  rintro v5 w5 ⟨rfl, hx5⟩
  replace h := h.ext hx5
  replace hx := hx.tr hx5
  refine WL.c rfl (o_alB TI58 ?_)
  intro wa3 hCa hxa hsa
  refine WL.u (o_stA TI58 rfl (show _ = Value.agg (tokV (tkA T at_)) from rfl) rfl rfl hCa rfl ?_)
  intro wb3 hB3 hob hsb
  have hxb := Ext.own hxa (Nat.le_refl _) hob
  clear hCa hxa hsa hob hsb
  replace h := h.ext hxb
  replace hx := hx.tr hxb
  refine WL.nil ?_
  refine W.seq ?_
  refine W.region ?_
  refine WL.c rfl (o_fa 0 TI58 rfl TI3 rfl rfl ?_)
  refine WL.c rfl (o_ld TI3 rfl rfl (cell_of hB3 rfl) ?_)
  refine WL.c rfl (o_eq rfl rfl ?_)
  refine WL.c rfl (o_mvh (show _ = Value.bool _ from rfl) ?_)
  refine WL.sp 3 rfl (fun g9 => ?_) (fun g9 => ?_)
  · skip
    refine WL.g rfl (g9) rfl (o_fa 1 TI58 rfl TI9 rfl rfl ?_)
    refine WL.g rfl (g9) rfl (o_ld TI9 rfl rfl (cell_of hB3 rfl) ?_)
    refine WL.g rfl (g9) rfl (o_call Try.call25 (lc rfl ln) ((name_spec (tkA T at_).text _ hlen).mono ?_))
    rintro v12 w12 ⟨rfl, rfl⟩
    refine WL.c rfl (o_pickA rfl rfl ?_)
    refine WL.c rfl (o_ash (show _ = Value.bool _ from rfl) ?_)
    refine WL.nil ?_
    refine W.ret ?_
    refine ret1v rfl (show _ = Value.bool _ from rfl) ?_
    exact ⟨congrArg Value.bool (by rw [Bool.eq_iff_iff]; simp_all [nmT] <;> omega), hx⟩
  · skip
    refine WL.s rfl (g9) rfl ?_
    refine WL.s rfl (g9) rfl ?_
    refine WL.s rfl (g9) rfl ?_
    refine WL.c rfl (o_pickF rfl (g9) ?_)
    refine WL.c rfl (o_ash (show _ = Value.bool _ from rfl) ?_)
    refine WL.nil ?_
    refine W.ret ?_
    refine ret1v rfl (show _ = Value.bool _ from rfl) ?_
    exact ⟨congrArg Value.bool (by rw [Bool.eq_iff_iff]; simp_all [nmT] <;> omega), hx⟩
theorem namep_spec (B0 p : Nat) (lv : Value) (T : List Tk) (fin at_ : Nat) (w0 : World) (h : Psr w0 B0 p lv T fin at_) (hlen : (tkA T at_).text.length ≤ 9223372036854775807) : CaX Try.prog 35 #[.pointer (some ⟨p, 0, none⟩)] w0 (fun v w' => ∃ s, nameT T at_ = .ok s (at_ + 1) ∧ v = st s ∧ Psr w' B0 p lv T fin (at_ + 1) ∧ Only (fun k => k = p) w0 w') (fun ch w' => ∃ e j, nameT T at_ = .bad e j ∧ ch = [pan e (plc T fin j)] ∧ Ext w0 w') := by
  have hx : Ext w0 w0 := Only.refl _ _
  have hsm := h.small
  have hle := h.le
  refine CaX.of Try.func35 Try.ntmps35 rfl rfl ?_
  refine W.seq ?_
  refine W.region ?_
  refine WL.c rfl (o_ash (show _ = Value.string _ from rfl) ?_)
  refine WL.nil ?_
  refine W.seq ?_
  refine W.seq ?_
  refine W.region ?_
  refine WL.c rfl (o_mvh (by first | exact (show _ = Value.pointer _ from rfl) | exact rfl) ?_)
  refine WL.c rfl (o_call Try.call55 (lc rfl ln) ((isname_spec B0 p lv T fin at_ _ h hlen).mono ?_))
  rintro v4 w4 ⟨rfl, hx4⟩
  replace h := h.ext hx4
  replace hx := hx.tr hx4
  refine WL.c rfl (o_not' rfl ?_)
  refine WL.nil ?_
  refine W.cond rfl (fun c5 => ?_) (fun c5 => ?_)
  · try simp only [decide_eq_true_eq, decide_eq_false_iff_not, Bool.not_eq_true', Bool.not_eq_false', Bool.and_eq_true, Bool.or_eq_true, Bool.and_eq_false_iff, Bool.or_eq_false_iff] at c5
    refine W.region ?_
    refine WL.c rfl (o_mvh (by first | exact (show _ = Value.pointer _ from rfl) | exact rfl) ?_)
    refine WL.cx rfl (ox_call Try.call32 (lc rfl (lc rfl ln)) ((fails_spec B0 p lv T fin at_ _ h 60).mono ?_ (fun ch w' hh => by obtain ⟨h1, h2⟩ := hh; exact ⟨60, at_, by rw [nameT, if_neg (by simp_all)], h1, hx.tr h2⟩)))
    exact fun _ _ hf => hf.elim
  · try simp only [decide_eq_true_eq, decide_eq_false_iff_not, Bool.not_eq_true', Bool.not_eq_false', Bool.and_eq_true, Bool.or_eq_true, Bool.and_eq_false_iff, Bool.or_eq_false_iff] at c5
    have hit : nmT (tkA T at_) = true := by simp_all
    have hlt : at_ < T.length := tkA_kind (k := 1) (by decide) (by simp only [nmT, Bool.and_eq_true, decide_eq_true_eq] at hit; exact hit.1)
    refine W.skip ?_
    refine W.seq ?_
    refine W.region ?_
    refine WL.c rfl (o_mvh (by first | exact (show _ = Value.pointer _ from rfl) | exact rfl) ?_)
    refine WL.c rfl (o_nil rfl ?_)
    refine WL.c rfl (o_fa 1 TI77 rfl TI3 rfl rfl ?_)
    refine WL.c rfl (o_ld TI3 rfl rfl (cell_of h.cell rfl) ?_)
    refine WL.c rfl (o_addi rfl rfl (by omega) ?_)
    refine WL.c rfl (o_nil rfl ?_)
    refine WL.c rfl (o_fa 1 TI77 rfl TI3 rfl rfl ?_)
    refine WL.u (o_stB TI3 rfl (show _ = Value.int _ _ from rfl) rfl h.cell (show 1 < 3 by decide) ?_)
    intro w14 hBp hop hsp
    replace h := h.move (a2 := at_ + 1) hBp hop (by omega)
    have hxp := hx.trans' hop (fun _ h => h.elim) (G := fun k => k = p) (fun _ _ h => h)
    refine WL.nil ?_
    refine W.seq ?_
    have hT := h.toks
    have hcell := h.cell
    obtain ⟨tb, to_, tc, rfl, htc⟩ := Sl.tok hT (k := at_) (by omega)
    refine W.quiet rfl (by kernel_rfl) ?_
    refine WQ.c rfl ((QO.o rfl fun _ => o_mvh (by first | exact (show _ = Value.pointer _ from rfl) | exact rfl) ⟨rfl, rfl⟩)) ?_
    refine WQ.c rfl ((QO.r fun _ => r_nil rfl)) ?_
    refine WQ.c rfl ((QO.o rfl fun _ => o_fa 0 TI77 rfl TI54 rfl rfl ⟨rfl, rfl⟩)) ?_
    refine WQ.c rfl ((QO.o rfl fun _ => o_ld TI54 rfl rfl (cell_of hcell rfl) ⟨rfl, rfl⟩)) ?_
    refine WQ.c rfl ((QO.o rfl fun _ => o_mvh (by first | exact (show _ = Value.pointer _ from rfl) | exact rfl) ⟨rfl, rfl⟩)) ?_
    refine WQ.c rfl ((QO.r fun _ => r_nil rfl)) ?_
    refine WQ.c rfl ((QO.o rfl fun _ => o_fa 1 TI77 rfl TI3 rfl rfl ⟨rfl, rfl⟩)) ?_
    refine WQ.c rfl ((QO.o rfl fun _ => o_ld TI3 rfl rfl (cell_of hcell rfl) ⟨rfl, rfl⟩)) ?_
    refine WQ.c rfl ((QO.o rfl fun _ => o_subi rfl rfl (by omega) ⟨rfl, rfl⟩)) ?_
    refine WQ.c rfl ((QO.o rfl fun _ => o_ixB (i := at_) TI54 TI58 rfl (by show Value.int _ _ = _; congr 1; omega) (by omega) ⟨rfl, rfl⟩)) ?_
    refine WQ.c rfl ((QO.o rfl fun _ => o_fa 1 TI58 rfl TI9 rfl rfl ⟨rfl, rfl⟩)) ?_
    refine WQ.c rfl ((QO.o rfl fun _ => o_ld TI9 rfl rfl (htc 1 _ rfl) ⟨rfl, rfl⟩)) ?_
    refine WQ.c rfl ((QO.o rfl fun _ => o_ash (show _ = Value.string _ from rfl) ⟨rfl, rfl⟩)) ?_
    refine WQ.nil ?_
    intro nq
    refine W.ret ?_
    refine ret1v rfl (show _ = Value.string _ from rfl) ?_
    exact ⟨_, by rw [nameT, if_pos hit], rfl, h.ext (Only.drewN _ _), hxp.ext (Only.drewN _ _)⟩
theorem nump_spec (B0 p : Nat) (lv : Value) (T : List Tk) (fin at_ : Nat) (w0 : World) (h : Psr w0 B0 p lv T fin at_) : CaX Try.prog 58 #[.pointer (some ⟨p, 0, none⟩)] w0 (fun v w' => ∃ n : Nat, numT T at_ = .ok n (at_ + 1) ∧ v = .int .i64 (n : Int) ∧ Psr w' B0 p lv T fin (at_ + 1) ∧ Only (fun k => k = p) w0 w') (fun ch w' => ∃ e j, numT T at_ = .bad e j ∧ ch = [pan e (plc T fin j)] ∧ Ext w0 w') := by
  have hx : Ext w0 w0 := Only.refl _ _
  have hsm := h.small
  have hle := h.le
  refine CaX.of Try.func58 Try.ntmps58 rfl rfl ?_
  refine W.seq ?_
  refine W.region ?_
  refine WL.c rfl (o_ash (show _ = Value.int _ _ from rfl) ?_)
  refine WL.nil ?_
  refine W.seq ?_
  refine W.region ?_
  refine WL.c rfl (o_mvh (by first | exact (show _ = Value.pointer _ from rfl) | exact rfl) ?_)
  refine WL.c rfl (o_call Try.call54 (lc rfl ln) ((peek_spec B0 p lv T fin at_ _ h).mono ?_))
  rintro v5 w5 ⟨rfl, hx5⟩
  replace h := h.ext hx5
  replace hx := hx.tr hx5
  refine WL.c rfl (o_alB TI58 ?_)
  intro wa3 hCa hxa hsa
  refine WL.u (o_stA TI58 rfl (show _ = Value.agg (tokV (tkA T at_)) from rfl) rfl rfl hCa rfl ?_)
  intro wb3 hB3 hob hsb
  have hxb := Ext.own hxa (Nat.le_refl _) hob
  have hpn : ¬ w5.heap.size = p := fun he => by have := (Array.getElem?_eq_some_iff.1 h.cell).1; omega
  clear hCa hxa hsa hob hsb
  replace h := h.ext hxb
  replace hx := hx.tr hxb
  refine WL.nil ?_
  refine W.seq ?_
  refine W.seq ?_
  refine W.region ?_
  refine WL.c rfl (o_fa 0 TI58 rfl TI3 rfl rfl ?_)
  refine WL.c rfl (o_ld TI3 rfl rfl (cell_of hB3 rfl) ?_)
  refine WL.c rfl (o_ne rfl rfl ?_)
  refine WL.nil ?_
  refine W.cond rfl (fun c8 => ?_) (fun c8 => ?_)
  · try simp only [decide_eq_true_eq, decide_eq_false_iff_not, Bool.not_eq_true', Bool.not_eq_false', Bool.and_eq_true, Bool.or_eq_true, Bool.and_eq_false_iff, Bool.or_eq_false_iff] at c8
    refine W.region ?_
    refine WL.c rfl (o_mvh (by first | exact (show _ = Value.pointer _ from rfl) | exact rfl) ?_)
    refine WL.cx rfl (ox_call Try.call32 (lc rfl (lc rfl ln)) ((fails_spec B0 p lv T fin at_ _ h 60).mono ?_ (fun ch w' hh => by obtain ⟨h1, h2⟩ := hh; exact ⟨60, at_, by rw [numT, if_neg (by omega)], h1, hx.tr h2⟩)))
    exact fun _ _ hf => hf.elim
  · try simp only [decide_eq_true_eq, decide_eq_false_iff_not, Bool.not_eq_true', Bool.not_eq_false', Bool.and_eq_true, Bool.or_eq_true, Bool.and_eq_false_iff, Bool.or_eq_false_iff] at c8
    have hit : (tkA T at_).kind = 2 := by omega
    have hlt := tkA_kind (by decide) hit
    have hpw := (Array.getElem?_eq_some_iff.1 h.cell).1
    refine W.skip ?_
    refine W.seq ?_
    refine W.region ?_
    refine WL.c rfl (o_mvh (by first | exact (show _ = Value.pointer _ from rfl) | exact rfl) ?_)
    refine WL.c rfl (o_nil rfl ?_)
    refine WL.c rfl (o_fa 1 TI77 rfl TI3 rfl rfl ?_)
    refine WL.c rfl (o_ld TI3 rfl rfl (cell_of h.cell rfl) ?_)
    refine WL.c rfl (o_addi rfl rfl (by omega) ?_)
    refine WL.c rfl (o_nil rfl ?_)
    refine WL.c rfl (o_fa 1 TI77 rfl TI3 rfl rfl ?_)
    refine WL.u (o_stB TI3 rfl (show _ = Value.int _ _ from rfl) rfl h.cell (show 1 < 3 by decide) ?_)
    intro w17 hBp hop hsp
    replace h := h.move (a2 := at_ + 1) hBp hop (by omega)
    have hxp := hx.trans' hop (fun _ h => h.elim) (G := fun k => k = p) (fun _ _ h => h)
    refine WL.nil ?_
    refine W.seq ?_
    refine W.region ?_
    refine WL.c rfl (o_fa 2 TI58 rfl TI3 rfl rfl ?_)
    refine WL.c rfl (o_ld TI3 rfl rfl (cell_of (hop.blk hB3 (fun he => hpn he)) rfl) ?_)
    refine WL.c rfl (o_ash (show _ = Value.int _ _ from rfl) ?_)
    refine WL.nil ?_
    refine W.ret ?_
    refine ret1v rfl (show _ = Value.int _ _ from rfl) ?_
    exact ⟨_, by rw [numT, if_pos hit], rfl, h, hxp⟩
theorem leaf_spec (s : List UInt8) (w0 : World) : Ca Try.prog 57 #[st s] w0 (fun v w' => v = .tuple #[.agg (exV { ex0 with kind := ((leafE s).getD (0, 0)).1, n := ((leafE s).getD (0, 0)).2 }).toArray, .bool (leafE s).isSome] ∧ Ext w0 w') := by
  refine Ca.of Try.func57 Try.ntmps57 rfl rfl ?_
  refine W.seq ?_
  refine W.region ?_
  refine WL.c rfl (o_alB TI30 ?_)
  intro w2 hC2 hx2 hs2
  refine WL.c rfl (o_ash (show _ = Value.bool _ from rfl) ?_)
  refine WL.nil ?_
  refine W.seq ?_
  refine W.seq ?_
  refine W.region ?_
  refine WL.c rfl (o_mvh (show _ = Value.string _ from rfl) ?_)
  refine WL.nil ?_
  refine W.block ?_
  refine W.seq ?_
  refine W.region ?_
  refine WL.c rfl (o_eqT rfl rfl ?_)
  refine WL.c rfl (o_ash (show _ = Value.bool _ from rfl) ?_)
  refine WL.nil ?_
  refine W.cond rfl (fun c5 => ?_) (fun c5 => ?_)
  · try simp only [decide_eq_true_eq, decide_eq_false_iff_not, Bool.not_eq_true', Bool.not_eq_false', Bool.and_eq_true, Bool.or_eq_true, Bool.and_eq_false_iff, Bool.or_eq_false_iff] at c5
    refine W.seq ?_
    refine W.region ?_
    refine WL.c rfl (o_bldC (cs := [(.int .i64 1), (.int .i64 1), (.string ⟨#[]⟩), (.string ⟨#[]⟩), (.int .i64 0), (.int .i64 0), (.int .i64 0)]) TI30 (Sizes.cons TI3 (Sizes.cons TI3 (Sizes.cons TI9 (Sizes.cons TI9 (Sizes.cons TI3 (Sizes.cons TI3 (Sizes.cons TI3 Sizes.nil))))))) rfl (lcp (show _ = Value.int _ _ from rfl) (lcp (show _ = Value.int _ _ from rfl) lnp)) rfl rfl ?_)
    refine WL.u (o_stA TI30 rfl (show _ = Value.agg (exV { ex0 with kind := 1, n := 1 }).toArray from rfl) rfl rfl hC2 rfl ?_)
    intro wE hE hoE hsE
    have hx := hx2.trans' hoE (fun _ h => h) (fun k hk he => by omega)
    refine WL.c rfl (o_ash (show _ = Value.bool _ from rfl) ?_)
    refine WL.nil ?_
    refine W.ret ?_
    refine retCT rfl TI30 rfl (show _ = Value.bool _ from rfl) rfl (cells_all hE) rfl ?_
    exact ⟨by simp_all [leafE], hx⟩
  · try simp only [decide_eq_true_eq, decide_eq_false_iff_not, Bool.not_eq_true', Bool.not_eq_false', Bool.and_eq_true, Bool.or_eq_true, Bool.and_eq_false_iff, Bool.or_eq_false_iff] at c5
    refine W.seq ?_
    refine W.region ?_
    refine WL.c rfl (o_eqT rfl rfl ?_)
    refine WL.c rfl (o_ash (show _ = Value.bool _ from rfl) ?_)
    refine WL.nil ?_
    refine W.cond rfl (fun c8 => ?_) (fun c8 => ?_)
    · try simp only [decide_eq_true_eq, decide_eq_false_iff_not, Bool.not_eq_true', Bool.not_eq_false', Bool.and_eq_true, Bool.or_eq_true, Bool.and_eq_false_iff, Bool.or_eq_false_iff] at c8
      refine W.seq ?_
      refine W.region ?_
      refine WL.c rfl (o_bldC (cs := [(.int .i64 1), (.int .i64 2), (.string ⟨#[]⟩), (.string ⟨#[]⟩), (.int .i64 0), (.int .i64 0), (.int .i64 0)]) TI30 (Sizes.cons TI3 (Sizes.cons TI3 (Sizes.cons TI9 (Sizes.cons TI9 (Sizes.cons TI3 (Sizes.cons TI3 (Sizes.cons TI3 Sizes.nil))))))) rfl (lcp (show _ = Value.int _ _ from rfl) (lcp (show _ = Value.int _ _ from rfl) lnp)) rfl rfl ?_)
      refine WL.u (o_stA TI30 rfl (show _ = Value.agg (exV { ex0 with kind := 1, n := 2 }).toArray from rfl) rfl rfl hC2 rfl ?_)
      intro wE hE hoE hsE
      have hx := hx2.trans' hoE (fun _ h => h) (fun k hk he => by omega)
      refine WL.c rfl (o_ash (show _ = Value.bool _ from rfl) ?_)
      refine WL.nil ?_
      refine W.ret ?_
      refine retCT rfl TI30 rfl (show _ = Value.bool _ from rfl) rfl (cells_all hE) rfl ?_
      exact ⟨by simp_all [leafE], hx⟩
    · try simp only [decide_eq_true_eq, decide_eq_false_iff_not, Bool.not_eq_true', Bool.not_eq_false', Bool.and_eq_true, Bool.or_eq_true, Bool.and_eq_false_iff, Bool.or_eq_false_iff] at c8
      refine W.seq ?_
      refine W.region ?_
      refine WL.c rfl (o_eqT rfl rfl ?_)
      refine WL.c rfl (o_ash (show _ = Value.bool _ from rfl) ?_)
      refine WL.nil ?_
      refine W.cond rfl (fun c11 => ?_) (fun c11 => ?_)
      · try simp only [decide_eq_true_eq, decide_eq_false_iff_not, Bool.not_eq_true', Bool.not_eq_false', Bool.and_eq_true, Bool.or_eq_true, Bool.and_eq_false_iff, Bool.or_eq_false_iff] at c11
        refine W.seq ?_
        refine W.region ?_
        refine WL.c rfl (o_bldC (cs := [(.int .i64 1), (.int .i64 4), (.string ⟨#[]⟩), (.string ⟨#[]⟩), (.int .i64 0), (.int .i64 0), (.int .i64 0)]) TI30 (Sizes.cons TI3 (Sizes.cons TI3 (Sizes.cons TI9 (Sizes.cons TI9 (Sizes.cons TI3 (Sizes.cons TI3 (Sizes.cons TI3 Sizes.nil))))))) rfl (lcp (show _ = Value.int _ _ from rfl) (lcp (show _ = Value.int _ _ from rfl) lnp)) rfl rfl ?_)
        refine WL.u (o_stA TI30 rfl (show _ = Value.agg (exV { ex0 with kind := 1, n := 4 }).toArray from rfl) rfl rfl hC2 rfl ?_)
        intro wE hE hoE hsE
        have hx := hx2.trans' hoE (fun _ h => h) (fun k hk he => by omega)
        refine WL.c rfl (o_ash (show _ = Value.bool _ from rfl) ?_)
        refine WL.nil ?_
        refine W.ret ?_
        refine retCT rfl TI30 rfl (show _ = Value.bool _ from rfl) rfl (cells_all hE) rfl ?_
        exact ⟨by simp_all [leafE], hx⟩
      · try simp only [decide_eq_true_eq, decide_eq_false_iff_not, Bool.not_eq_true', Bool.not_eq_false', Bool.and_eq_true, Bool.or_eq_true, Bool.and_eq_false_iff, Bool.or_eq_false_iff] at c11
        refine W.seq ?_
        refine W.region ?_
        refine WL.c rfl (o_eqT rfl rfl ?_)
        refine WL.c rfl (o_ash (show _ = Value.bool _ from rfl) ?_)
        refine WL.nil ?_
        refine W.cond rfl (fun c14 => ?_) (fun c14 => ?_)
        · try simp only [decide_eq_true_eq, decide_eq_false_iff_not, Bool.not_eq_true', Bool.not_eq_false', Bool.and_eq_true, Bool.or_eq_true, Bool.and_eq_false_iff, Bool.or_eq_false_iff] at c14
          refine W.seq ?_
          refine W.region ?_
          refine WL.c rfl (o_bldC (cs := [(.int .i64 1), (.int .i64 8), (.string ⟨#[]⟩), (.string ⟨#[]⟩), (.int .i64 0), (.int .i64 0), (.int .i64 0)]) TI30 (Sizes.cons TI3 (Sizes.cons TI3 (Sizes.cons TI9 (Sizes.cons TI9 (Sizes.cons TI3 (Sizes.cons TI3 (Sizes.cons TI3 Sizes.nil))))))) rfl (lcp (show _ = Value.int _ _ from rfl) (lcp (show _ = Value.int _ _ from rfl) lnp)) rfl rfl ?_)
          refine WL.u (o_stA TI30 rfl (show _ = Value.agg (exV { ex0 with kind := 1, n := 8 }).toArray from rfl) rfl rfl hC2 rfl ?_)
          intro wE hE hoE hsE
          have hx := hx2.trans' hoE (fun _ h => h) (fun k hk he => by omega)
          refine WL.c rfl (o_ash (show _ = Value.bool _ from rfl) ?_)
          refine WL.nil ?_
          refine W.ret ?_
          refine retCT rfl TI30 rfl (show _ = Value.bool _ from rfl) rfl (cells_all hE) rfl ?_
          exact ⟨by simp_all [leafE], hx⟩
        · try simp only [decide_eq_true_eq, decide_eq_false_iff_not, Bool.not_eq_true', Bool.not_eq_false', Bool.and_eq_true, Bool.or_eq_true, Bool.and_eq_false_iff, Bool.or_eq_false_iff] at c14
          refine W.seq ?_
          refine W.region ?_
          refine WL.c rfl (o_eqT rfl rfl ?_)
          refine WL.c rfl (o_ash (show _ = Value.bool _ from rfl) ?_)
          refine WL.nil ?_
          refine W.cond rfl (fun c17 => ?_) (fun c17 => ?_)
          · try simp only [decide_eq_true_eq, decide_eq_false_iff_not, Bool.not_eq_true', Bool.not_eq_false', Bool.and_eq_true, Bool.or_eq_true, Bool.and_eq_false_iff, Bool.or_eq_false_iff] at c17
            refine W.seq ?_
            refine W.region ?_
            refine WL.c rfl (o_bldC (cs := [(.int .i64 2), (.int .i64 0), (.string ⟨#[]⟩), (.string ⟨#[]⟩), (.int .i64 0), (.int .i64 0), (.int .i64 0)]) TI30 (Sizes.cons TI3 (Sizes.cons TI3 (Sizes.cons TI9 (Sizes.cons TI9 (Sizes.cons TI3 (Sizes.cons TI3 (Sizes.cons TI3 Sizes.nil))))))) rfl (lcp (show _ = Value.int _ _ from rfl) lnp) rfl rfl ?_)
            refine WL.u (o_stA TI30 rfl (show _ = Value.agg (exV { ex0 with kind := 2, n := 0 }).toArray from rfl) rfl rfl hC2 rfl ?_)
            intro wE hE hoE hsE
            have hx := hx2.trans' hoE (fun _ h => h) (fun k hk he => by omega)
            refine WL.c rfl (o_ash (show _ = Value.bool _ from rfl) ?_)
            refine WL.nil ?_
            refine W.ret ?_
            refine retCT rfl TI30 rfl (show _ = Value.bool _ from rfl) rfl (cells_all hE) rfl ?_
            exact ⟨by simp_all [leafE], hx⟩
          · try simp only [decide_eq_true_eq, decide_eq_false_iff_not, Bool.not_eq_true', Bool.not_eq_false', Bool.and_eq_true, Bool.or_eq_true, Bool.and_eq_false_iff, Bool.or_eq_false_iff] at c17
            refine W.seq ?_
            refine W.region ?_
            refine WL.c rfl (o_eqT rfl rfl ?_)
            refine WL.c rfl (o_ash (show _ = Value.bool _ from rfl) ?_)
            refine WL.nil ?_
            refine W.cond rfl (fun c20 => ?_) (fun c20 => ?_)
            · try simp only [decide_eq_true_eq, decide_eq_false_iff_not, Bool.not_eq_true', Bool.not_eq_false', Bool.and_eq_true, Bool.or_eq_true, Bool.and_eq_false_iff, Bool.or_eq_false_iff] at c20
              refine W.seq ?_
              refine W.region ?_
              refine WL.c rfl (o_bldC (cs := [(.int .i64 3), (.int .i64 0), (.string ⟨#[]⟩), (.string ⟨#[]⟩), (.int .i64 0), (.int .i64 0), (.int .i64 0)]) TI30 (Sizes.cons TI3 (Sizes.cons TI3 (Sizes.cons TI9 (Sizes.cons TI9 (Sizes.cons TI3 (Sizes.cons TI3 (Sizes.cons TI3 Sizes.nil))))))) rfl (lcp (show _ = Value.int _ _ from rfl) lnp) rfl rfl ?_)
              refine WL.u (o_stA TI30 rfl (show _ = Value.agg (exV { ex0 with kind := 3, n := 0 }).toArray from rfl) rfl rfl hC2 rfl ?_)
              intro wE hE hoE hsE
              have hx := hx2.trans' hoE (fun _ h => h) (fun k hk he => by omega)
              refine WL.c rfl (o_ash (show _ = Value.bool _ from rfl) ?_)
              refine WL.nil ?_
              refine W.ret ?_
              refine retCT rfl TI30 rfl (show _ = Value.bool _ from rfl) rfl (cells_all hE) rfl ?_
              exact ⟨by simp_all [leafE], hx⟩
            · try simp only [decide_eq_true_eq, decide_eq_false_iff_not, Bool.not_eq_true', Bool.not_eq_false', Bool.and_eq_true, Bool.or_eq_true, Bool.and_eq_false_iff, Bool.or_eq_false_iff] at c20
              refine W.skip ?_
              refine W.seq ?_
              refine W.region ?_
              refine WL.c rfl (o_bldC (cs := [(.int .i64 0), (.int .i64 0), (.string ⟨#[]⟩), (.string ⟨#[]⟩), (.int .i64 0), (.int .i64 0), (.int .i64 0)]) TI30 (Sizes.cons TI3 (Sizes.cons TI3 (Sizes.cons TI9 (Sizes.cons TI9 (Sizes.cons TI3 (Sizes.cons TI3 (Sizes.cons TI3 Sizes.nil))))))) rfl lnp rfl rfl ?_)
              refine WL.u (o_stA TI30 rfl (show _ = Value.agg (exV { ex0 with kind := 0, n := 0 }).toArray from rfl) rfl rfl hC2 rfl ?_)
              intro wE hE hoE hsE
              have hx := hx2.trans' hoE (fun _ h => h) (fun k hk he => by omega)
              refine WL.c rfl (o_ash (show _ = Value.bool _ from rfl) ?_)
              refine WL.nil ?_
              refine W.ret ?_
              refine retCT rfl TI30 rfl (show _ = Value.bool _ from rfl) rfl (cells_all hE) rfl ?_
              exact ⟨by simp_all [leafE], hx⟩
theorem begins_spec (t : Tk) (w0 : World) (hlen : t.text.length ≤ 9223372036854775807) : Ca Try.prog 56 #[.agg (tokV t)] w0 (fun v w' => v = .bool (bgnT t) ∧ Ext w0 w') := by
  refine Ca.of Try.func56 Try.ntmps56 rfl rfl ?_
  refine W.seq ?_
  refine W.region ?_
  refine WL.c rfl (o_boxB rfl ?_)
  intro w1 hC1 hx1 hs1
  have hx := hx1
  replace hC1 : w1.heap[w0.heap.size]? = some (.cells (tokV t) 58 (0, 0)) := hC1
  refine WL.c rfl (o_ash (show _ = Value.bool _ from rfl) ?_)
  refine WL.nil ?_
  refine W.seq ?_
  refine W.seq ?_
  refine W.region ?_
  refine WL.c rfl (o_fa 0 TI58 rfl TI3 rfl rfl ?_)
  refine WL.c rfl (o_ld TI3 rfl rfl (cell_of hC1 rfl) ?_)
  refine WL.c rfl (o_ne rfl rfl ?_)
  refine WL.nil ?_
  refine W.cond rfl (fun c7 => ?_) (fun c7 => ?_)
  · try simp only [decide_eq_true_eq, decide_eq_false_iff_not, Bool.not_eq_true', Bool.not_eq_false', Bool.and_eq_true, Bool.or_eq_true, Bool.and_eq_false_iff, Bool.or_eq_false_iff] at c7
    have hk1 : ¬ t.kind = 1 := by omega
    refine W.seq ?_
    refine W.region ?_
    refine WL.c rfl (o_ash (show _ = Value.bool _ from rfl) ?_)
    refine WL.nil ?_
    refine W.ret ?_
    refine ret1v rfl (show _ = Value.bool _ from rfl) ?_
    exact ⟨congrArg Value.bool (by simp_all [bgnT]), hx⟩
  · try simp only [decide_eq_true_eq, decide_eq_false_iff_not, Bool.not_eq_true', Bool.not_eq_false', Bool.and_eq_true, Bool.or_eq_true, Bool.and_eq_false_iff, Bool.or_eq_false_iff] at c7
    have hk1 : t.kind = 1 := by omega
    refine W.skip ?_
    refine W.seq ?_
    refine W.seq ?_
    refine W.region ?_
    refine WL.c rfl (o_fa 1 TI58 rfl TI9 rfl rfl ?_)
    refine WL.c rfl (o_ld TI9 rfl rfl (cell_of hC1 rfl) ?_)
    refine WL.nil ?_
    refine W.block ?_
    refine W.seq ?_
    refine W.seq ?_
    refine W.region ?_
    refine WL.c rfl (o_eqT rfl rfl ?_)
    refine WL.c rfl (o_ash (show _ = Value.bool _ from rfl) ?_)
    refine WL.nil ?_
    refine W.cond rfl (fun c10 => ?_) (fun c10 => ?_)
    · try simp only [decide_eq_true_eq, decide_eq_false_iff_not, Bool.not_eq_true', Bool.not_eq_false', Bool.and_eq_true, Bool.or_eq_true, Bool.and_eq_false_iff, Bool.or_eq_false_iff] at c10
      refine W.skip ?_
      refine W.cond rfl (fun c10 => ?_) (fun c10 => ?_)
      · try simp only [decide_eq_true_eq, decide_eq_false_iff_not, Bool.not_eq_true', Bool.not_eq_false', Bool.and_eq_true, Bool.or_eq_true, Bool.and_eq_false_iff, Bool.or_eq_false_iff] at c10
        refine W.seq ?_
        refine W.region ?_
        refine WL.c rfl (o_ash (show _ = Value.bool _ from rfl) ?_)
        refine WL.nil ?_
        refine W.ret ?_
        refine ret1v rfl (show _ = Value.bool _ from rfl) ?_
        exact ⟨congrArg Value.bool (by simp_all [bgnT]), hx⟩
      · try simp only [decide_eq_true_eq, decide_eq_false_iff_not, Bool.not_eq_true', Bool.not_eq_false', Bool.and_eq_true, Bool.or_eq_true, Bool.and_eq_false_iff, Bool.or_eq_false_iff] at c10
        refine W.skip ?_
        refine W.seq ?_
        refine W.region ?_
        refine WL.c rfl (o_fa 1 TI58 rfl TI9 rfl rfl ?_)
        refine WL.c rfl (o_ld TI9 rfl rfl (cell_of hC1 rfl) ?_)
        refine WL.c rfl (o_call Try.call57 (lc rfl ln) ((leaf_spec t.text _).mono ?_))
        rintro v19 w19 ⟨rfl, hx19⟩
        replace hx := hx.tr hx19
        replace hC1 := hx19.blk hC1 (fun h => h)
        refine WL.c rfl (o_mvh (by first | exact (show _ = Value.tuple _ from rfl) | exact rfl) ?_)
        refine WL.c rfl (o_ext rfl rfl ?_)
        refine WL.c rfl (o_ext rfl rfl ?_)
        refine WL.c rfl (o_alB TI30 ?_)
        intro wa hCa hxa hsa
        refine WL.u (o_stA TI30 rfl (show _ = Value.agg (exV { ex0 with kind := ((leafE t.text).getD (0, 0)).1, n := ((leafE t.text).getD (0, 0)).2 }).toArray from rfl) rfl rfl hCa rfl ?_)
        intro wb hB3 hob hsb
        have hxb := Ext.own hxa (Nat.le_refl _) hob
        clear hCa hxa hsa hob hsb
        replace hC1 := hxb.blk hC1 (fun h => h)
        replace hx := hx.tr hxb
        refine WL.c rfl (o_ash (show _ = Value.bool _ from rfl) ?_)
        refine WL.nil ?_
        refine W.seq ?_
        refine W.region ?_
        refine WL.c rfl (o_mvh (show _ = Value.bool _ from rfl) ?_)
        refine WL.c rfl (o_mvh (show _ = Value.bool _ from rfl) ?_)
        refine WL.sp 1 rfl (fun g23 => ?_) (fun g23 => ?_)
        · skip
          refine WL.s rfl (g23) rfl ?_
          refine WL.s rfl (g23) rfl ?_
          refine WL.s rfl (g23) rfl ?_
          refine WL.c rfl (o_pickT rfl (g23) ?_)
          refine WL.c rfl (o_ash (show _ = Value.bool _ from rfl) ?_)
          refine WL.nil ?_
          refine W.ret ?_
          refine ret1v rfl (show _ = Value.bool _ from rfl) ?_
          exact ⟨congrArg Value.bool (by simp_all [bgnT]), hx⟩
        · skip
          refine WL.g rfl (g23) rfl (o_fa 1 TI58 rfl TI9 rfl rfl ?_)
          refine WL.g rfl (g23) rfl (o_ld TI9 rfl rfl (cell_of hC1 rfl) ?_)
          refine WL.g rfl (g23) rfl (o_call Try.call25 (lc rfl ln) ((name_spec t.text _ hlen).mono ?_))
          rintro v26 w26 ⟨rfl, rfl⟩
          refine WL.c rfl (o_pickO rfl rfl ?_)
          refine WL.c rfl (o_ash (show _ = Value.bool _ from rfl) ?_)
          refine WL.nil ?_
          refine W.ret ?_
          refine ret1v rfl (show _ = Value.bool _ from rfl) ?_
          exact ⟨congrArg Value.bool (by simp_all [bgnT]), hx⟩
    · try simp only [decide_eq_true_eq, decide_eq_false_iff_not, Bool.not_eq_true', Bool.not_eq_false', Bool.and_eq_true, Bool.or_eq_true, Bool.and_eq_false_iff, Bool.or_eq_false_iff] at c10
      refine W.seq ?_
      refine W.region ?_
      refine WL.c rfl (o_eqT rfl rfl ?_)
      refine WL.c rfl (o_ash (show _ = Value.bool _ from rfl) ?_)
      refine WL.nil ?_
      refine W.cond rfl (fun c10 => ?_) (fun c10 => ?_)
      · try simp only [decide_eq_true_eq, decide_eq_false_iff_not, Bool.not_eq_true', Bool.not_eq_false', Bool.and_eq_true, Bool.or_eq_true, Bool.and_eq_false_iff, Bool.or_eq_false_iff] at c10
        refine W.skip ?_
        refine W.cond rfl (fun c10 => ?_) (fun c10 => ?_)
        · try simp only [decide_eq_true_eq, decide_eq_false_iff_not, Bool.not_eq_true', Bool.not_eq_false', Bool.and_eq_true, Bool.or_eq_true, Bool.and_eq_false_iff, Bool.or_eq_false_iff] at c10
          refine W.seq ?_
          refine W.region ?_
          refine WL.c rfl (o_ash (show _ = Value.bool _ from rfl) ?_)
          refine WL.nil ?_
          refine W.ret ?_
          refine ret1v rfl (show _ = Value.bool _ from rfl) ?_
          exact ⟨congrArg Value.bool (by simp_all [bgnT]), hx⟩
        · try simp only [decide_eq_true_eq, decide_eq_false_iff_not, Bool.not_eq_true', Bool.not_eq_false', Bool.and_eq_true, Bool.or_eq_true, Bool.and_eq_false_iff, Bool.or_eq_false_iff] at c10
          refine W.skip ?_
          refine W.seq ?_
          refine W.region ?_
          refine WL.c rfl (o_fa 1 TI58 rfl TI9 rfl rfl ?_)
          refine WL.c rfl (o_ld TI9 rfl rfl (cell_of hC1 rfl) ?_)
          refine WL.c rfl (o_call Try.call57 (lc rfl ln) ((leaf_spec t.text _).mono ?_))
          rintro v19 w19 ⟨rfl, hx19⟩
          replace hx := hx.tr hx19
          replace hC1 := hx19.blk hC1 (fun h => h)
          refine WL.c rfl (o_mvh (by first | exact (show _ = Value.tuple _ from rfl) | exact rfl) ?_)
          refine WL.c rfl (o_ext rfl rfl ?_)
          refine WL.c rfl (o_ext rfl rfl ?_)
          refine WL.c rfl (o_alB TI30 ?_)
          intro wa hCa hxa hsa
          refine WL.u (o_stA TI30 rfl (show _ = Value.agg (exV { ex0 with kind := ((leafE t.text).getD (0, 0)).1, n := ((leafE t.text).getD (0, 0)).2 }).toArray from rfl) rfl rfl hCa rfl ?_)
          intro wb hB3 hob hsb
          have hxb := Ext.own hxa (Nat.le_refl _) hob
          clear hCa hxa hsa hob hsb
          replace hC1 := hxb.blk hC1 (fun h => h)
          replace hx := hx.tr hxb
          refine WL.c rfl (o_ash (show _ = Value.bool _ from rfl) ?_)
          refine WL.nil ?_
          refine W.seq ?_
          refine W.region ?_
          refine WL.c rfl (o_mvh (show _ = Value.bool _ from rfl) ?_)
          refine WL.c rfl (o_mvh (show _ = Value.bool _ from rfl) ?_)
          refine WL.sp 1 rfl (fun g23 => ?_) (fun g23 => ?_)
          · skip
            refine WL.s rfl (g23) rfl ?_
            refine WL.s rfl (g23) rfl ?_
            refine WL.s rfl (g23) rfl ?_
            refine WL.c rfl (o_pickT rfl (g23) ?_)
            refine WL.c rfl (o_ash (show _ = Value.bool _ from rfl) ?_)
            refine WL.nil ?_
            refine W.ret ?_
            refine ret1v rfl (show _ = Value.bool _ from rfl) ?_
            exact ⟨congrArg Value.bool (by simp_all [bgnT]), hx⟩
          · skip
            refine WL.g rfl (g23) rfl (o_fa 1 TI58 rfl TI9 rfl rfl ?_)
            refine WL.g rfl (g23) rfl (o_ld TI9 rfl rfl (cell_of hC1 rfl) ?_)
            refine WL.g rfl (g23) rfl (o_call Try.call25 (lc rfl ln) ((name_spec t.text _ hlen).mono ?_))
            rintro v26 w26 ⟨rfl, rfl⟩
            refine WL.c rfl (o_pickO rfl rfl ?_)
            refine WL.c rfl (o_ash (show _ = Value.bool _ from rfl) ?_)
            refine WL.nil ?_
            refine W.ret ?_
            refine ret1v rfl (show _ = Value.bool _ from rfl) ?_
            exact ⟨congrArg Value.bool (by simp_all [bgnT]), hx⟩
      · try simp only [decide_eq_true_eq, decide_eq_false_iff_not, Bool.not_eq_true', Bool.not_eq_false', Bool.and_eq_true, Bool.or_eq_true, Bool.and_eq_false_iff, Bool.or_eq_false_iff] at c10
        refine W.seq ?_
        refine W.region ?_
        refine WL.c rfl (o_eqT rfl rfl ?_)
        refine WL.c rfl (o_ash (show _ = Value.bool _ from rfl) ?_)
        refine WL.nil ?_
        refine W.cond rfl (fun c10 => ?_) (fun c10 => ?_)
        · try simp only [decide_eq_true_eq, decide_eq_false_iff_not, Bool.not_eq_true', Bool.not_eq_false', Bool.and_eq_true, Bool.or_eq_true, Bool.and_eq_false_iff, Bool.or_eq_false_iff] at c10
          refine W.skip ?_
          refine W.cond rfl (fun c10 => ?_) (fun c10 => ?_)
          · try simp only [decide_eq_true_eq, decide_eq_false_iff_not, Bool.not_eq_true', Bool.not_eq_false', Bool.and_eq_true, Bool.or_eq_true, Bool.and_eq_false_iff, Bool.or_eq_false_iff] at c10
            refine W.seq ?_
            refine W.region ?_
            refine WL.c rfl (o_ash (show _ = Value.bool _ from rfl) ?_)
            refine WL.nil ?_
            refine W.ret ?_
            refine ret1v rfl (show _ = Value.bool _ from rfl) ?_
            exact ⟨congrArg Value.bool (by simp_all [bgnT]), hx⟩
          · try simp only [decide_eq_true_eq, decide_eq_false_iff_not, Bool.not_eq_true', Bool.not_eq_false', Bool.and_eq_true, Bool.or_eq_true, Bool.and_eq_false_iff, Bool.or_eq_false_iff] at c10
            refine W.skip ?_
            refine W.seq ?_
            refine W.region ?_
            refine WL.c rfl (o_fa 1 TI58 rfl TI9 rfl rfl ?_)
            refine WL.c rfl (o_ld TI9 rfl rfl (cell_of hC1 rfl) ?_)
            refine WL.c rfl (o_call Try.call57 (lc rfl ln) ((leaf_spec t.text _).mono ?_))
            rintro v19 w19 ⟨rfl, hx19⟩
            replace hx := hx.tr hx19
            replace hC1 := hx19.blk hC1 (fun h => h)
            refine WL.c rfl (o_mvh (by first | exact (show _ = Value.tuple _ from rfl) | exact rfl) ?_)
            refine WL.c rfl (o_ext rfl rfl ?_)
            refine WL.c rfl (o_ext rfl rfl ?_)
            refine WL.c rfl (o_alB TI30 ?_)
            intro wa hCa hxa hsa
            refine WL.u (o_stA TI30 rfl (show _ = Value.agg (exV { ex0 with kind := ((leafE t.text).getD (0, 0)).1, n := ((leafE t.text).getD (0, 0)).2 }).toArray from rfl) rfl rfl hCa rfl ?_)
            intro wb hB3 hob hsb
            have hxb := Ext.own hxa (Nat.le_refl _) hob
            clear hCa hxa hsa hob hsb
            replace hC1 := hxb.blk hC1 (fun h => h)
            replace hx := hx.tr hxb
            refine WL.c rfl (o_ash (show _ = Value.bool _ from rfl) ?_)
            refine WL.nil ?_
            refine W.seq ?_
            refine W.region ?_
            refine WL.c rfl (o_mvh (show _ = Value.bool _ from rfl) ?_)
            refine WL.c rfl (o_mvh (show _ = Value.bool _ from rfl) ?_)
            refine WL.sp 1 rfl (fun g23 => ?_) (fun g23 => ?_)
            · skip
              refine WL.s rfl (g23) rfl ?_
              refine WL.s rfl (g23) rfl ?_
              refine WL.s rfl (g23) rfl ?_
              refine WL.c rfl (o_pickT rfl (g23) ?_)
              refine WL.c rfl (o_ash (show _ = Value.bool _ from rfl) ?_)
              refine WL.nil ?_
              refine W.ret ?_
              refine ret1v rfl (show _ = Value.bool _ from rfl) ?_
              exact ⟨congrArg Value.bool (by simp_all [bgnT]), hx⟩
            · skip
              refine WL.g rfl (g23) rfl (o_fa 1 TI58 rfl TI9 rfl rfl ?_)
              refine WL.g rfl (g23) rfl (o_ld TI9 rfl rfl (cell_of hC1 rfl) ?_)
              refine WL.g rfl (g23) rfl (o_call Try.call25 (lc rfl ln) ((name_spec t.text _ hlen).mono ?_))
              rintro v26 w26 ⟨rfl, rfl⟩
              refine WL.c rfl (o_pickO rfl rfl ?_)
              refine WL.c rfl (o_ash (show _ = Value.bool _ from rfl) ?_)
              refine WL.nil ?_
              refine W.ret ?_
              refine ret1v rfl (show _ = Value.bool _ from rfl) ?_
              exact ⟨congrArg Value.bool (by simp_all [bgnT]), hx⟩
        · try simp only [decide_eq_true_eq, decide_eq_false_iff_not, Bool.not_eq_true', Bool.not_eq_false', Bool.and_eq_true, Bool.or_eq_true, Bool.and_eq_false_iff, Bool.or_eq_false_iff] at c10
          refine W.seq ?_
          refine W.region ?_
          refine WL.c rfl (o_eqT rfl rfl ?_)
          refine WL.c rfl (o_ash (show _ = Value.bool _ from rfl) ?_)
          refine WL.nil ?_
          refine W.cond rfl (fun c10 => ?_) (fun c10 => ?_)
          · try simp only [decide_eq_true_eq, decide_eq_false_iff_not, Bool.not_eq_true', Bool.not_eq_false', Bool.and_eq_true, Bool.or_eq_true, Bool.and_eq_false_iff, Bool.or_eq_false_iff] at c10
            refine W.skip ?_
            refine W.cond rfl (fun c10 => ?_) (fun c10 => ?_)
            · try simp only [decide_eq_true_eq, decide_eq_false_iff_not, Bool.not_eq_true', Bool.not_eq_false', Bool.and_eq_true, Bool.or_eq_true, Bool.and_eq_false_iff, Bool.or_eq_false_iff] at c10
              refine W.seq ?_
              refine W.region ?_
              refine WL.c rfl (o_ash (show _ = Value.bool _ from rfl) ?_)
              refine WL.nil ?_
              refine W.ret ?_
              refine ret1v rfl (show _ = Value.bool _ from rfl) ?_
              exact ⟨congrArg Value.bool (by simp_all [bgnT]), hx⟩
            · try simp only [decide_eq_true_eq, decide_eq_false_iff_not, Bool.not_eq_true', Bool.not_eq_false', Bool.and_eq_true, Bool.or_eq_true, Bool.and_eq_false_iff, Bool.or_eq_false_iff] at c10
              refine W.skip ?_
              refine W.seq ?_
              refine W.region ?_
              refine WL.c rfl (o_fa 1 TI58 rfl TI9 rfl rfl ?_)
              refine WL.c rfl (o_ld TI9 rfl rfl (cell_of hC1 rfl) ?_)
              refine WL.c rfl (o_call Try.call57 (lc rfl ln) ((leaf_spec t.text _).mono ?_))
              rintro v19 w19 ⟨rfl, hx19⟩
              replace hx := hx.tr hx19
              replace hC1 := hx19.blk hC1 (fun h => h)
              refine WL.c rfl (o_mvh (by first | exact (show _ = Value.tuple _ from rfl) | exact rfl) ?_)
              refine WL.c rfl (o_ext rfl rfl ?_)
              refine WL.c rfl (o_ext rfl rfl ?_)
              refine WL.c rfl (o_alB TI30 ?_)
              intro wa hCa hxa hsa
              refine WL.u (o_stA TI30 rfl (show _ = Value.agg (exV { ex0 with kind := ((leafE t.text).getD (0, 0)).1, n := ((leafE t.text).getD (0, 0)).2 }).toArray from rfl) rfl rfl hCa rfl ?_)
              intro wb hB3 hob hsb
              have hxb := Ext.own hxa (Nat.le_refl _) hob
              clear hCa hxa hsa hob hsb
              replace hC1 := hxb.blk hC1 (fun h => h)
              replace hx := hx.tr hxb
              refine WL.c rfl (o_ash (show _ = Value.bool _ from rfl) ?_)
              refine WL.nil ?_
              refine W.seq ?_
              refine W.region ?_
              refine WL.c rfl (o_mvh (show _ = Value.bool _ from rfl) ?_)
              refine WL.c rfl (o_mvh (show _ = Value.bool _ from rfl) ?_)
              refine WL.sp 1 rfl (fun g23 => ?_) (fun g23 => ?_)
              · skip
                refine WL.s rfl (g23) rfl ?_
                refine WL.s rfl (g23) rfl ?_
                refine WL.s rfl (g23) rfl ?_
                refine WL.c rfl (o_pickT rfl (g23) ?_)
                refine WL.c rfl (o_ash (show _ = Value.bool _ from rfl) ?_)
                refine WL.nil ?_
                refine W.ret ?_
                refine ret1v rfl (show _ = Value.bool _ from rfl) ?_
                exact ⟨congrArg Value.bool (by simp_all [bgnT]), hx⟩
              · skip
                refine WL.g rfl (g23) rfl (o_fa 1 TI58 rfl TI9 rfl rfl ?_)
                refine WL.g rfl (g23) rfl (o_ld TI9 rfl rfl (cell_of hC1 rfl) ?_)
                refine WL.g rfl (g23) rfl (o_call Try.call25 (lc rfl ln) ((name_spec t.text _ hlen).mono ?_))
                rintro v26 w26 ⟨rfl, rfl⟩
                refine WL.c rfl (o_pickO rfl rfl ?_)
                refine WL.c rfl (o_ash (show _ = Value.bool _ from rfl) ?_)
                refine WL.nil ?_
                refine W.ret ?_
                refine ret1v rfl (show _ = Value.bool _ from rfl) ?_
                exact ⟨congrArg Value.bool (by simp_all [bgnT]), hx⟩
          · try simp only [decide_eq_true_eq, decide_eq_false_iff_not, Bool.not_eq_true', Bool.not_eq_false', Bool.and_eq_true, Bool.or_eq_true, Bool.and_eq_false_iff, Bool.or_eq_false_iff] at c10
            refine W.region ?_
            refine WL.c rfl (o_eqT rfl rfl ?_)
            refine WL.c rfl (o_ash (show _ = Value.bool _ from rfl) ?_)
            refine WL.nil ?_
            refine W.cond rfl (fun c10 => ?_) (fun c10 => ?_)
            · try simp only [decide_eq_true_eq, decide_eq_false_iff_not, Bool.not_eq_true', Bool.not_eq_false', Bool.and_eq_true, Bool.or_eq_true, Bool.and_eq_false_iff, Bool.or_eq_false_iff] at c10
              refine W.seq ?_
              refine W.region ?_
              refine WL.c rfl (o_ash (show _ = Value.bool _ from rfl) ?_)
              refine WL.nil ?_
              refine W.ret ?_
              refine ret1v rfl (show _ = Value.bool _ from rfl) ?_
              exact ⟨congrArg Value.bool (by simp_all [bgnT]), hx⟩
            · try simp only [decide_eq_true_eq, decide_eq_false_iff_not, Bool.not_eq_true', Bool.not_eq_false', Bool.and_eq_true, Bool.or_eq_true, Bool.and_eq_false_iff, Bool.or_eq_false_iff] at c10
              refine W.skip ?_
              refine W.seq ?_
              refine W.region ?_
              refine WL.c rfl (o_fa 1 TI58 rfl TI9 rfl rfl ?_)
              refine WL.c rfl (o_ld TI9 rfl rfl (cell_of hC1 rfl) ?_)
              refine WL.c rfl (o_call Try.call57 (lc rfl ln) ((leaf_spec t.text _).mono ?_))
              rintro v19 w19 ⟨rfl, hx19⟩
              replace hx := hx.tr hx19
              replace hC1 := hx19.blk hC1 (fun h => h)
              refine WL.c rfl (o_mvh (by first | exact (show _ = Value.tuple _ from rfl) | exact rfl) ?_)
              refine WL.c rfl (o_ext rfl rfl ?_)
              refine WL.c rfl (o_ext rfl rfl ?_)
              refine WL.c rfl (o_alB TI30 ?_)
              intro wa hCa hxa hsa
              refine WL.u (o_stA TI30 rfl (show _ = Value.agg (exV { ex0 with kind := ((leafE t.text).getD (0, 0)).1, n := ((leafE t.text).getD (0, 0)).2 }).toArray from rfl) rfl rfl hCa rfl ?_)
              intro wb hB3 hob hsb
              have hxb := Ext.own hxa (Nat.le_refl _) hob
              clear hCa hxa hsa hob hsb
              replace hC1 := hxb.blk hC1 (fun h => h)
              replace hx := hx.tr hxb
              refine WL.c rfl (o_ash (show _ = Value.bool _ from rfl) ?_)
              refine WL.nil ?_
              refine W.seq ?_
              refine W.region ?_
              refine WL.c rfl (o_mvh (show _ = Value.bool _ from rfl) ?_)
              refine WL.c rfl (o_mvh (show _ = Value.bool _ from rfl) ?_)
              refine WL.sp 1 rfl (fun g23 => ?_) (fun g23 => ?_)
              · skip
                refine WL.s rfl (g23) rfl ?_
                refine WL.s rfl (g23) rfl ?_
                refine WL.s rfl (g23) rfl ?_
                refine WL.c rfl (o_pickT rfl (g23) ?_)
                refine WL.c rfl (o_ash (show _ = Value.bool _ from rfl) ?_)
                refine WL.nil ?_
                refine W.ret ?_
                refine ret1v rfl (show _ = Value.bool _ from rfl) ?_
                exact ⟨congrArg Value.bool (by simp_all [bgnT]), hx⟩
              · skip
                refine WL.g rfl (g23) rfl (o_fa 1 TI58 rfl TI9 rfl rfl ?_)
                refine WL.g rfl (g23) rfl (o_ld TI9 rfl rfl (cell_of hC1 rfl) ?_)
                refine WL.g rfl (g23) rfl (o_call Try.call25 (lc rfl ln) ((name_spec t.text _ hlen).mono ?_))
                rintro v26 w26 ⟨rfl, rfl⟩
                refine WL.c rfl (o_pickO rfl rfl ?_)
                refine WL.c rfl (o_ash (show _ = Value.bool _ from rfl) ?_)
                refine WL.nil ?_
                refine W.ret ?_
                refine ret1v rfl (show _ = Value.bool _ from rfl) ?_
                exact ⟨congrArg Value.bool (by simp_all [bgnT]), hx⟩
end Go.Proofs.Ytcljkkfpcomdcaa
