/-
  Walks and lemmas. Written by program out of specs of mine.
-/
import Derived.WalkKit
import Derived.WalkSpells
import Derived.WalkLawsBesides
import Derived.Deep.Quiet
import Derived.StillTail
import Derived.StringKeys
import Derived.Laws.StructEq
import Derived.Laws.Externs
import Derived.Laws.Tables
import Derived.Scope
import Derived.Test.YtanimeifmicmoaaDoorProg
import Derived.Laws.AppendOwn
import Derived.Maps.AppendAt
import Derived.Recover
import Derived.Lib.Bytealg
import Derived.SizedLaws
import Derived.ChangeArms
import Derived.ChangeSlices
import Derived.Lib.Builder
import Derived.Lib.UnsafeStr
import Derived.Shelf.Strconv.Itoa0
import Derived.Shelf.Strconv.Itoa1
import Derived.Shelf.LaysM
import Derived.Shelf.Strconv.Itoa2
import Derived.Shelf.Strconv.Itoa3
import Derived.Test.YtanimeifmicmoaaDoorRows
import Derived.ProofKit
import Derived.OpenShut
import Derived.ShutString
import Derived.ChangeOld
import Derived.Below
import Derived.JoinedCond
import Derived.SliceStrings
import Derived.Test.YtanimeifmicmoaaDoorCards
import Derived.Test.YtanimeifmicmoaaDoorTie
import Derived.Deep.DeepHandedRow
import Derived.Lib.LaidTab
import Derived.Test.YtanimeifmicmoaaDoorKe4
set_option linter.unusedSimpArgs false
set_option linter.unusedVariables false
set_option maxRecDepth 100000
set_option linter.unusedSimpArgs false
set_option linter.unusedVariables false
set_option maxRecDepth 100000
namespace Go.Proofs.YtanimeifmicmoaaDoor
open Go Go.Vc Go.RowKit Go.Proofs

theorem sl_mid {w : World} {v : Value} {N : Nat} {A C : List Ex} {x : Ex} (h : Sl w 7 v N (exs (A ++ x :: C))) (hN : N = (A ++ x :: C).length) : ∃ b o c, v = .slice (some ⟨b, o, none⟩) N c ∧ Cells w b (o + A.length * 7) (exV x) := by
  subst hN
  obtain ⟨b, o, c, h1, h2⟩ := Sl.exq h (k := A.length) (by simp)
  refine ⟨b, o, c, h1, ?_⟩
  have : (A ++ x :: C)[A.length]'(by simp) = x := by simp
  rw [this] at h2
  exact h2
def BBeh (n : Nat) : Prop := ∀ (t : Tr) (above : Int) (deep N : Nat) (A C : List Ex) (v : Value) (w0 : World), t.flat.length ≤ n → t.wf above deep → N = (A ++ (t.flat ++ C)).length → N ≤ 4611686018427387904 → Sl w0 7 v N (exs (A ++ (t.flat ++ C))) →
  Ca Tryd.prog 45 #[v, .int .i64 (A.length : Int)] w0 (fun u w' => u = .int .i64 ((A.length + t.flat.length : Nat) : Int) ∧ w' = w0)
def BForm (n : Nat) : Prop := ∀ (t : Tr) (above : Int) (deep N : Nat) (A C : List Ex) (v : Value) (w0 : World), t.flat.length ≤ n → t.wf above deep → N = (A ++ (t.flat ++ C)).length → N ≤ 4611686018427387904 → t.sh.length ≤ 140737488355328 → Sl w0 7 v N (exs (A ++ (t.flat ++ C))) → Tab w0 →
  Ca Tryd.prog 25 #[v, .int .i64 (A.length : Int)] w0 (fun u w' => u = st t.sh ∧ Ext w0 w')

theorem beh_step (n : Nat) (IH : BBeh n) (y : Ex) (ks : Trs) (above : Int) (deep N : Nat) (A C : List Ex) (v : Value) (w0 : World) (hn : ks.flat.length ≤ n) (hw : (Tr.node y ks).wf above deep) (hN : N = (A ++ y :: (ks.flat ++ C)).length) (hNb : N ≤ 4611686018427387904) (hS : Sl w0 7 v N (exs (A ++ y :: (ks.flat ++ C)))) : Ca Tryd.prog 45 #[v, .int .i64 (A.length : Int)] w0 (fun u w' => u = .int .i64 ((A.length + (ks.flat.length + 1) : Nat) : Int) ∧ w' = w0) := by
  obtain ⟨gb, go, gc, hlv, htc⟩ := sl_mid hS hN
  subst hlv
  have hN2 : N = A.length + (ks.flat.length + C.length + 1) := by rw [hN]; simp
  have hkk : y.kids = (ks.len : Int) := hw.2.2.2.1.symm
  have hks64 : ks.len ≤ 64 := by have := (rightB_kids hw.2.2.1 hw.2.1).2; omega
  refine Ca.of Tryd.func45 Tryd.ntmps45 rfl rfl ?_
  refine W.seq ?_
  refine W.region ?_
  refine WL.c rfl (o_ash (show _ = Value.int _ _ from rfl) ?_)
  refine WL.nil ?_
  refine W.seq ?_
  refine W.region ?_
  refine WL.c rfl (o_mvh (show _ = Value.int _ _ from rfl) ?_)
  refine WL.c rfl (o_addi rfl rfl (by omega) ?_)
  refine WL.c rfl (o_ash (show _ = Value.int _ _ from rfl) ?_)
  refine WL.nil ?_
  refine W.seq ?_
  refine W.seq ?_
  refine W.region ?_
  refine WL.c rfl (o_ash (show _ = Value.int _ _ from rfl) ?_)
  refine WL.nil ?_
  refine W.block ?_
  refine W.loop (fun e w => ∃ (k : Nat) (P : List Ex) (rest : Trs), k + rest.len = ks.len ∧ ks.flat = P ++ rest.flat ∧ rest.wf y.kind (deep + 1) ∧ e 0 = .slice (some ⟨gb, go, none⟩) N gc ∧ e 1 = .int .i64 (A.length : Int) ∧ e 5 = .int .i64 ((A.length + 1 + P.length : Nat) : Int) ∧ e 6 = .int .i64 (k : Int) ∧ w = w0) (fun e w => ks.len - (intOf (e 6)).toNat) ?_ ?_
  · exact ⟨0, [], ks, by omega, rfl, hw.2.2.2.2, rfl, rfl, rfl, rfl, rfl⟩
  rintro e w ⟨k, P, rest, hkl, hq, hrw, h0, h1, h5, h6, hww⟩
  subst hww
  have hm6 := h6
  have hqb := congrArg List.length hq
  rw [List.length_append] at hqb
  refine W.seq ?_
  refine W.seq ?_
  rcases rest with _ | ⟨t, ts⟩
  · skip
    have hk0 : k = ks.len := by simpa [Trs.len] using hkl
    simp only [Trs.flat, List.length_nil] at hqb
    refine W.region ?_
    refine WL.c rfl (o_mvh h6 ?_)
    refine WL.c rfl (o_mvh h0 ?_)
    refine WL.c rfl (o_mvh h1 ?_)
    refine WL.c rfl (o_ixB (i := A.length) TI32 TI36 rfl rfl (by omega) ?_)
    refine WL.c rfl (o_fa 5 TI36 rfl TI3 rfl rfl ?_)
    refine WL.c rfl (o_ld TI3 rfl rfl (htc 5 _ rfl) ?_)
    refine WL.c rfl (o_lt rfl rfl ?_)
    refine WL.nil ?_
    refine W.condF' rfl (by simp; omega) ?_
    refine W.exit ?_
    refine W.seq ?_
    refine W.region ?_
    refine WL.c rfl (o_mvh h5 ?_)
    refine WL.c rfl (o_ash (show _ = Value.int _ _ from rfl) ?_)
    refine WL.nil ?_
    refine W.ret ?_
    refine ret1v rfl (show _ = Value.int _ _ from rfl) ?_
    exact ⟨congrArg (fun z : Nat => Value.int .i64 (z : Int)) (by omega), rfl⟩
  · skip
    have hk1 : k + ts.len + 1 = ks.len := by simp only [Trs.len] at hkl; omega
    simp only [Trs.flat, List.length_append] at hqb
    refine W.region ?_
    refine WL.c rfl (o_mvh h6 ?_)
    refine WL.c rfl (o_mvh h0 ?_)
    refine WL.c rfl (o_mvh h1 ?_)
    refine WL.c rfl (o_ixB (i := A.length) TI32 TI36 rfl rfl (by omega) ?_)
    refine WL.c rfl (o_fa 5 TI36 rfl TI3 rfl rfl ?_)
    refine WL.c rfl (o_ld TI3 rfl rfl (htc 5 _ rfl) ?_)
    refine WL.c rfl (o_lt rfl rfl ?_)
    refine WL.nil ?_
    refine W.condT' rfl (by simp; omega) ?_
    refine W.skip ?_
    refine W.seq ?_
    refine W.block ?_
    refine W.region ?_
    refine WL.c rfl (o_mvh h0 ?_)
    refine WL.c rfl (o_mvh h5 ?_)
    have hIH := IH t y.kind (deep + 1) N (A ++ y :: P) (ts.flat ++ C) _ w (by omega) hrw.1 (by simp; omega) hNb (by rw [hq] at hS; simpa [Trs.flat] using hS)
    rw [show (A ++ y :: P).length = A.length + 1 + P.length by simp; omega] at hIH
    refine WL.c rfl (o_call Tryd.call45 (lc rfl (lc rfl ln)) ((hIH).mono ?_))
    rintro v20 w20 ⟨rfl, rfl⟩
    refine WL.c rfl (o_ash (show _ = Value.int _ _ from rfl) ?_)
    refine WL.nil ?_
    refine W.region ?_
    refine WL.c rfl (o_mvh h6 ?_)
    refine WL.c rfl (o_addi rfl rfl (by omega) ?_)
    refine WL.c rfl (o_ash (show _ = Value.int _ _ from rfl) ?_)
    refine WL.nil ?_
    refine ⟨⟨k + 1, P ++ t.flat, ts, by omega, by rw [hq]; simp [Trs.flat], hrw.2, h0, h1, ?_, rfl, rfl⟩, ?_⟩
    · refine congrArg (fun z : Nat => Value.int .i64 (z : Int)) ?_
      simp; omega
    · show ks.len - ((k : Int) + 1).toNat < _
      rw [hm6]; simp [intOf]; omega

theorem beh_all : ∀ n, BBeh n := by
  intro n
  induction n with
  | zero =>
    intro t above deep N A C v w0 hn
    cases t with
    | node y ks => simp [Tr.flat] at hn
  | succ n ih =>
    intro t above deep N A C v w0 hn hw hN hNb hS
    cases t with
    | node y ks => exact beh_step n ih y ks above deep N A C v w0 (by simpa [Tr.flat] using hn) hw hN hNb hS

set_option maxHeartbeats 4000000 in
theorem form_step (n : Nat) (IH : BForm n) (y : Ex) (ks : Trs) (above : Int) (deep N : Nat) (A C : List Ex) (v : Value) (w0 : World) (hn : ks.flat.length ≤ n) (hw : (Tr.node y ks).wf above deep) (hN : N = (A ++ y :: (ks.flat ++ C)).length) (hNb : N ≤ 4611686018427387904) (hb : (Tr.node y ks).sh.length ≤ 140737488355328) (hS : Sl w0 7 v N (exs (A ++ y :: (ks.flat ++ C)))) (hT : Tab w0) : Ca Tryd.prog 25 #[v, .int .i64 (A.length : Int)] w0 (fun u w' => u = st (Tr.node y ks).sh ∧ Ext w0 w') := by
  obtain ⟨gb, go, gc, hlv, htc⟩ := sl_mid hS hN
  subst hlv
  have hx : Ext w0 w0 := Only.refl _ _
  obtain ⟨hok, hnm, -, -⟩ := rightB_iff hw.2.2.1
  have hN2 : N = A.length + (ks.flat.length + C.length + 1) := by rw [hN]; simp
  refine Ca.of Tryd.func25 Tryd.ntmps25 rfl rfl ?_
  refine W.seq ?_
  refine W.region ?_
  refine WL.c rfl (o_ash (show _ = Value.string _ from rfl) ?_)
  refine WL.nil ?_
  refine W.seq ?_
  refine W.region ?_
  refine WL.c rfl (o_mvh (by first | exact (show _ = Value.slice _ _ _ from rfl) | exact rfl) ?_)
  refine WL.c rfl (o_mvh (show _ = Value.int _ _ from rfl) ?_)
  refine WL.c rfl (o_ixB (i := A.length) TI32 TI36 rfl rfl (by omega) ?_)
  refine WL.c rfl (o_ldA TI36 rfl rfl htc rfl ?_)
  refine WL.c rfl (o_alB TI36 ?_)
  intro wa hCa hxa hsa
  refine WL.u (o_stA TI36 rfl (show _ = Value.agg (exV y).toArray from rfl) rfl rfl hCa rfl ?_)
  intro w hC5 hob hsb
  have hxb := Ext.own hxa (Nat.le_refl _) hob
  obtain ⟨b5, hb5⟩ : ∃ b, b = w0.heap.size := ⟨_, rfl⟩
  rw [← hb5] at hC5 ⊢
  clear hCa hxa hsa hob hsb
  replace hx := hx.tr hxb
  replace hS := hS.ext hxb
  replace hT := hT.ext hxb
  clear hxb
  refine WL.nil ?_
  refine W.seq ?_
  refine W.seq ?_
  obtain hk | hk | hk | hk | hk | hk | hk | hk | hk : y.kind = 1 ∨ y.kind = 2 ∨ y.kind = 3 ∨ y.kind = 9 ∨ y.kind = 4 ∨ y.kind = 5 ∨ y.kind = 6 ∨ y.kind = 7 ∨ y.kind = 8 := by rcases okB_cases hok with h | h | h | h | h <;> omega
  · skip
    have hkz : y.kids = 0 := by rcases okB_cases hok with h | h | h | h | h <;> omega
    obtain rfl := trs_nil (ts := ks) (by have : (ks.len : Int) = y.kids := hw.2.2.2.1; omega)
    have hn8 : y.n = 1 ∨ y.n = 2 ∨ y.n = 4 ∨ y.n = 8 := by rcases okB_cases hok with h | h | h | h | h <;> omega
    have h8 : 8 * y.n = ((8 * y.n).toNat : Int) := by omega
    have hdg := fun w hT => itoa_spec (8 * y.n).toNat (by omega) w hT
    simp only [← h8] at hdg
    have hsh : (Tr.node y .nil).sh = [117] ++ digL (8 * y.n).toNat := by simp [Tr.sh, Trs.shK, hk]
    rw [hsh] at hb ⊢
    refine W.region ?_
    refine WL.c rfl (o_fa 0 TI36 rfl TI3 rfl rfl ?_)
    refine WL.c rfl (o_ld TI3 rfl rfl (cell_of hC5 rfl) ?_)
    refine WL.nil ?_
    refine W.block ?_
    refine W.seq ?_
    refine W.region ?_
    refine WL.c rfl (o_eq rfl rfl ?_)
    refine WL.c rfl (o_ash (show _ = Value.bool _ from rfl) ?_)
    refine WL.nil ?_
    refine W.condT' rfl (by rw [hk]; decide) ?_
    refine W.seq ?_
    refine W.region ?_
    refine WL.c rfl (o_fa 1 TI36 rfl TI3 rfl rfl ?_)
    refine WL.c rfl (o_ld TI3 rfl rfl (cell_of hC5 rfl) ?_)
    refine WL.c rfl (o_muli rfl rfl (by omega) ?_)
    refine WL.c rfl (o_call Tryd.call38 (lc rfl ln) ((hdg _ hT).mono ?_))
    rintro v20 w20 ⟨rfl, hx20⟩
    replace hx := hx.tr hx20
    refine WL.c rfl (o_addT (xs := [117]) (ys := digL (8 * y.n).toNat) rfl rfl (by simp only [List.length_append] at hb ⊢; omega) ?_)
    refine WL.c rfl (o_ash (show _ = Value.string _ from rfl) ?_)
    refine WL.nil ?_
    refine W.ret ?_
    refine ret1v rfl (show _ = Value.string _ from rfl) ?_
    exact ⟨rfl, hx⟩
  · skip
    have hkz : y.kids = 0 := by rcases okB_cases hok with h | h | h | h | h <;> omega
    obtain rfl := trs_nil (ts := ks) (by have : (ks.len : Int) = y.kids := hw.2.2.2.1; omega)
    have hsh : (Tr.node y .nil).sh = [98, 111, 111, 108] := by simp [Tr.sh, Trs.shK, hk]
    rw [hsh] at hb ⊢
    refine W.region ?_
    refine WL.c rfl (o_fa 0 TI36 rfl TI3 rfl rfl ?_)
    refine WL.c rfl (o_ld TI3 rfl rfl (cell_of hC5 rfl) ?_)
    refine WL.nil ?_
    refine W.block ?_
    refine W.seq ?_
    refine W.region ?_
    refine WL.c rfl (o_eq rfl rfl ?_)
    refine WL.c rfl (o_ash (show _ = Value.bool _ from rfl) ?_)
    refine WL.nil ?_
    refine W.condF' rfl (by rw [hk]; decide) ?_
    refine W.seq ?_
    refine W.region ?_
    refine WL.c rfl (o_eq rfl rfl ?_)
    refine WL.c rfl (o_ash (show _ = Value.bool _ from rfl) ?_)
    refine WL.nil ?_
    refine W.condT' rfl (by rw [hk]; decide) ?_
    refine W.seq ?_
    refine W.region ?_
    refine WL.c rfl (o_ash (show _ = Value.string _ from rfl) ?_)
    refine WL.nil ?_
    refine W.ret ?_
    refine ret1v rfl (show _ = Value.string _ from rfl) ?_
    exact ⟨rfl, hx⟩
  · skip
    have hkz : y.kids = 0 := by rcases okB_cases hok with h | h | h | h | h <;> omega
    obtain rfl := trs_nil (ts := ks) (by have : (ks.len : Int) = y.kids := hw.2.2.2.1; omega)
    have hsh : (Tr.node y .nil).sh = [118, 97, 114, 105, 110, 116] := by simp [Tr.sh, Trs.shK, hk]
    rw [hsh] at hb ⊢
    refine W.region ?_
    refine WL.c rfl (o_fa 0 TI36 rfl TI3 rfl rfl ?_)
    refine WL.c rfl (o_ld TI3 rfl rfl (cell_of hC5 rfl) ?_)
    refine WL.nil ?_
    refine W.block ?_
    refine W.seq ?_
    refine W.region ?_
    refine WL.c rfl (o_eq rfl rfl ?_)
    refine WL.c rfl (o_ash (show _ = Value.bool _ from rfl) ?_)
    refine WL.nil ?_
    refine W.condF' rfl (by rw [hk]; decide) ?_
    refine W.seq ?_
    refine W.region ?_
    refine WL.c rfl (o_eq rfl rfl ?_)
    refine WL.c rfl (o_ash (show _ = Value.bool _ from rfl) ?_)
    refine WL.nil ?_
    refine W.condF' rfl (by rw [hk]; decide) ?_
    refine W.seq ?_
    refine W.region ?_
    refine WL.c rfl (o_eq rfl rfl ?_)
    refine WL.c rfl (o_ash (show _ = Value.bool _ from rfl) ?_)
    refine WL.nil ?_
    refine W.condT' rfl (by rw [hk]; decide) ?_
    refine W.seq ?_
    refine W.region ?_
    refine WL.c rfl (o_ash (show _ = Value.string _ from rfl) ?_)
    refine WL.nil ?_
    refine W.ret ?_
    refine ret1v rfl (show _ = Value.string _ from rfl) ?_
    exact ⟨rfl, hx⟩
  · skip
    have hkz : y.kids = 0 := by rcases okB_cases hok with h | h | h | h | h <;> omega
    obtain rfl := trs_nil (ts := ks) (by have : (ks.len : Int) = y.kids := hw.2.2.2.1; omega)
    have hsh : (Tr.node y .nil).sh = y.name := by simp [Tr.sh, Trs.shK, hk]
    rw [hsh] at hb ⊢
    refine W.region ?_
    refine WL.c rfl (o_fa 0 TI36 rfl TI3 rfl rfl ?_)
    refine WL.c rfl (o_ld TI3 rfl rfl (cell_of hC5 rfl) ?_)
    refine WL.nil ?_
    refine W.block ?_
    refine W.seq ?_
    refine W.region ?_
    refine WL.c rfl (o_eq rfl rfl ?_)
    refine WL.c rfl (o_ash (show _ = Value.bool _ from rfl) ?_)
    refine WL.nil ?_
    refine W.condF' rfl (by rw [hk]; decide) ?_
    refine W.seq ?_
    refine W.region ?_
    refine WL.c rfl (o_eq rfl rfl ?_)
    refine WL.c rfl (o_ash (show _ = Value.bool _ from rfl) ?_)
    refine WL.nil ?_
    refine W.condF' rfl (by rw [hk]; decide) ?_
    refine W.seq ?_
    refine W.region ?_
    refine WL.c rfl (o_eq rfl rfl ?_)
    refine WL.c rfl (o_ash (show _ = Value.bool _ from rfl) ?_)
    refine WL.nil ?_
    refine W.condF' rfl (by rw [hk]; decide) ?_
    refine W.seq ?_
    refine W.region ?_
    refine WL.c rfl (o_eq rfl rfl ?_)
    refine WL.c rfl (o_ash (show _ = Value.bool _ from rfl) ?_)
    refine WL.nil ?_
    refine W.condT' rfl (by rw [hk]; decide) ?_
    refine W.seq ?_
    refine W.region ?_
    refine WL.c rfl (o_fa 2 TI36 rfl TI9 rfl rfl ?_)
    refine WL.c rfl (o_ld TI9 rfl rfl (cell_of hC5 rfl) ?_)
    refine WL.c rfl (o_ash (show _ = Value.string _ from rfl) ?_)
    refine WL.nil ?_
    refine W.ret ?_
    refine ret1v rfl (show _ = Value.string _ from rfl) ?_
    exact ⟨rfl, hx⟩
  · skip
    have hk1 : y.kids = 1 ∧ 0 ≤ y.n ∧ y.n ≤ 2147483647 := by rcases okB_cases hok with h | h | h | h | h <;> omega
    obtain ⟨t, rfl⟩ := trs_one (ts := ks) (by have : (ks.len : Int) = y.kids := hw.2.2.2.1; omega)
    have hwt : t.wf y.kind (deep + 1) := hw.2.2.2.2.1
    have htl : (Trs.cons t .nil).flat = t.flat := by simp [Trs.flat]
    rw [htl] at hS hn hN hN2
    have hsh : (Tr.node y (.cons t .nil)).sh = [118, 101, 99, 116, 111, 114, 60] ++ (t.sh ++ ([44] ++ (digL y.n.toNat ++ [62]))) := by simp [Tr.sh, Trs.shK, hk]
    have hIH := fun (w : World) (hS : Sl w 7 (.slice (some ⟨gb, go, none⟩) N gc) N _) (hT : Tab w) => IH t y.kind (deep + 1) N (A ++ [y]) C (.slice (some ⟨gb, go, none⟩) N gc) w hn hwt (by rw [hN]; simp) hNb (by rw [hsh] at hb; simp at hb; omega) hS hT
    simp only [List.append_assoc, List.singleton_append, List.length_append, List.length_singleton, show ((A.length + 1 : Nat) : Int) = (A.length : Int) + 1 by omega] at hIH
    rw [hsh] at hb ⊢
    have hnn : y.n = (y.n.toNat : Int) := by omega
    have hdg := fun w hT => itoa_spec y.n.toNat (by omega) w hT
    simp only [← hnn] at hdg
    refine W.region ?_
    refine WL.c rfl (o_fa 0 TI36 rfl TI3 rfl rfl ?_)
    refine WL.c rfl (o_ld TI3 rfl rfl (cell_of hC5 rfl) ?_)
    refine WL.nil ?_
    refine W.block ?_
    refine W.seq ?_
    refine W.region ?_
    refine WL.c rfl (o_eq rfl rfl ?_)
    refine WL.c rfl (o_ash (show _ = Value.bool _ from rfl) ?_)
    refine WL.nil ?_
    refine W.condF' rfl (by rw [hk]; decide) ?_
    refine W.seq ?_
    refine W.region ?_
    refine WL.c rfl (o_eq rfl rfl ?_)
    refine WL.c rfl (o_ash (show _ = Value.bool _ from rfl) ?_)
    refine WL.nil ?_
    refine W.condF' rfl (by rw [hk]; decide) ?_
    refine W.seq ?_
    refine W.region ?_
    refine WL.c rfl (o_eq rfl rfl ?_)
    refine WL.c rfl (o_ash (show _ = Value.bool _ from rfl) ?_)
    refine WL.nil ?_
    refine W.condF' rfl (by rw [hk]; decide) ?_
    refine W.seq ?_
    refine W.region ?_
    refine WL.c rfl (o_eq rfl rfl ?_)
    refine WL.c rfl (o_ash (show _ = Value.bool _ from rfl) ?_)
    refine WL.nil ?_
    refine W.condF' rfl (by rw [hk]; decide) ?_
    refine W.seq ?_
    refine W.region ?_
    refine WL.c rfl (o_eq rfl rfl ?_)
    refine WL.c rfl (o_ash (show _ = Value.bool _ from rfl) ?_)
    refine WL.nil ?_
    refine W.condT' rfl (by rw [hk]; decide) ?_
    refine W.seq ?_
    obtain ⟨wd, hwd⟩ : ∃ wd, wd = w.drew := ⟨_, rfl⟩
    have hxd : Ext w wd := hwd ▸ Only.drew w
    replace hx := hx.tr hxd
    replace hS := hS.ext hxd
    replace hT := hT.ext hxd
    replace hC5 := hxd.blk hC5 (fun h => h)
    refine W.draw (Ext) [(0, fun v _ => v = _), (1, fun v _ => v = _), (5, fun v _ => v = _)] rfl (by kernel_rfl) (Only.refl No) (fun _ _ _ h k => h.trans k) ⟨Mono.eq, Mono.eq, Mono.eq, trivial⟩ ⟨rfl, rfl, rfl, trivial⟩ ?_
    refine WD.p rfl (fun e w hR hh => by obtain ⟨h0, -⟩ := hh; exact SG.n (o_mvh h0 ⟨rfl, Only.refl No _⟩)) ?_
    refine WD.p rfl (fun e w hR hh => by obtain ⟨h1, -⟩ := hh; exact SG.n (o_mvh h1 ⟨rfl, Only.refl No _⟩)) ?_
    refine WD.p rfl (fun e w hR hh => by obtain ⟨h33, -⟩ := hh; exact SG.n (o_addi h33 rfl (by omega) ⟨rfl, Only.refl No _⟩)) ?_
    refine WD.p rfl (fun e w hR hh => by obtain ⟨h34, h32, -⟩ := hh; rw [← hwd] at hR; exact SG.n (o_call Tryd.call25 (lc h32 (lc h34 ln)) ((hIH _ (hS.ext hR) (hT.ext hR)).mono (fun v w' h => h)))) ?_
    refine WD.p rfl (fun e w hR hh => by obtain ⟨h35, -⟩ := hh; exact SG.n (o_addT (xs := [118, 101, 99, 116, 111, 114, 60]) (ys := t.sh) rfl h35 (by simp only [List.length_append, List.length_cons, List.length_nil] at hb ⊢; omega) ⟨rfl, Only.refl No _⟩)) ?_
    refine WD.p rfl (fun e w hR hh => by obtain ⟨h36, -⟩ := hh; exact SG.n (o_addT (xs := [118, 101, 99, 116, 111, 114, 60] ++ t.sh) (ys := [44]) h36 rfl (by simp only [List.length_append, List.length_cons, List.length_nil] at hb ⊢; omega) ⟨rfl, Only.refl No _⟩)) ?_
    refine WD.p rfl (fun e w hR hh => by obtain ⟨h5, -⟩ := hh; exact SG.n (o_fa 1 TI36 rfl TI3 rfl h5 ⟨rfl, Only.refl No _⟩)) ?_
    refine WD.p rfl (fun e w hR hh => by obtain ⟨h38, -⟩ := hh; rw [← hwd] at hR; exact SG.n (o_ld TI3 rfl h38 (cell_of (hR.blk hC5 (fun h => h)) rfl) ⟨rfl, Only.refl No _⟩)) ?_
    refine WD.p rfl (fun e w hR hh => by obtain ⟨h39, -⟩ := hh; rw [← hwd] at hR; exact SG.n (o_call Tryd.call38 (lc h39 ln) ((hdg _ (hT.ext hR)).mono (fun v w' h => h)))) ?_
    refine WD.p rfl (fun e w hR hh => by obtain ⟨h40, h37, -⟩ := hh; exact SG.n (o_addT (xs := [118, 101, 99, 116, 111, 114, 60] ++ t.sh ++ [44]) (ys := digL y.n.toNat) h37 h40 (by simp only [List.length_append, List.length_cons, List.length_nil] at hb ⊢; omega) ⟨rfl, Only.refl No _⟩)) ?_
    refine WD.p rfl (fun e w hR hh => by obtain ⟨h41, -⟩ := hh; exact SG.n (o_addT (xs := [118, 101, 99, 116, 111, 114, 60] ++ t.sh ++ [44] ++ digL y.n.toNat) (ys := [62]) h41 rfl (by simp only [List.length_append, List.length_cons, List.length_nil] at hb ⊢; omega) ⟨rfl, Only.refl No _⟩)) ?_
    refine WD.p rfl (fun e w hR hh => by obtain ⟨h42, -⟩ := hh; exact SG.n (o_ash h42 ⟨rfl, Only.refl No _⟩)) ?_
    rintro e w hR ⟨h4, h42, h41, h40, h39, h38, h37, h36, h35, h34, h33, h32, h0, h1, h5, -⟩
    rw [← hwd] at hR
    replace hx := hx.tr hR
    refine W.ret ?_
    refine ret1v rfl h4 ?_
    exact ⟨by simp [List.append_assoc], hx⟩
  · skip
    have hk1 : y.kids = 1 ∧ 0 ≤ y.n ∧ y.n ≤ 2147483647 := by rcases okB_cases hok with h | h | h | h | h <;> omega
    obtain ⟨t, rfl⟩ := trs_one (ts := ks) (by have : (ks.len : Int) = y.kids := hw.2.2.2.1; omega)
    have hwt : t.wf y.kind (deep + 1) := hw.2.2.2.2.1
    have htl : (Trs.cons t .nil).flat = t.flat := by simp [Trs.flat]
    rw [htl] at hS hn hN hN2
    have hsh : (Tr.node y (.cons t .nil)).sh = [108, 105, 115, 116, 60] ++ (t.sh ++ ([44] ++ (digL y.n.toNat ++ [62]))) := by simp [Tr.sh, Trs.shK, hk]
    have hIH := fun (w : World) (hS : Sl w 7 (.slice (some ⟨gb, go, none⟩) N gc) N _) (hT : Tab w) => IH t y.kind (deep + 1) N (A ++ [y]) C (.slice (some ⟨gb, go, none⟩) N gc) w hn hwt (by rw [hN]; simp) hNb (by rw [hsh] at hb; simp at hb; omega) hS hT
    simp only [List.append_assoc, List.singleton_append, List.length_append, List.length_singleton, show ((A.length + 1 : Nat) : Int) = (A.length : Int) + 1 by omega] at hIH
    rw [hsh] at hb ⊢
    have hnn : y.n = (y.n.toNat : Int) := by omega
    have hdg := fun w hT => itoa_spec y.n.toNat (by omega) w hT
    simp only [← hnn] at hdg
    refine W.region ?_
    refine WL.c rfl (o_fa 0 TI36 rfl TI3 rfl rfl ?_)
    refine WL.c rfl (o_ld TI3 rfl rfl (cell_of hC5 rfl) ?_)
    refine WL.nil ?_
    refine W.block ?_
    refine W.seq ?_
    refine W.region ?_
    refine WL.c rfl (o_eq rfl rfl ?_)
    refine WL.c rfl (o_ash (show _ = Value.bool _ from rfl) ?_)
    refine WL.nil ?_
    refine W.condF' rfl (by rw [hk]; decide) ?_
    refine W.seq ?_
    refine W.region ?_
    refine WL.c rfl (o_eq rfl rfl ?_)
    refine WL.c rfl (o_ash (show _ = Value.bool _ from rfl) ?_)
    refine WL.nil ?_
    refine W.condF' rfl (by rw [hk]; decide) ?_
    refine W.seq ?_
    refine W.region ?_
    refine WL.c rfl (o_eq rfl rfl ?_)
    refine WL.c rfl (o_ash (show _ = Value.bool _ from rfl) ?_)
    refine WL.nil ?_
    refine W.condF' rfl (by rw [hk]; decide) ?_
    refine W.seq ?_
    refine W.region ?_
    refine WL.c rfl (o_eq rfl rfl ?_)
    refine WL.c rfl (o_ash (show _ = Value.bool _ from rfl) ?_)
    refine WL.nil ?_
    refine W.condF' rfl (by rw [hk]; decide) ?_
    refine W.seq ?_
    refine W.region ?_
    refine WL.c rfl (o_eq rfl rfl ?_)
    refine WL.c rfl (o_ash (show _ = Value.bool _ from rfl) ?_)
    refine WL.nil ?_
    refine W.condF' rfl (by rw [hk]; decide) ?_
    refine W.seq ?_
    refine W.region ?_
    refine WL.c rfl (o_eq rfl rfl ?_)
    refine WL.c rfl (o_ash (show _ = Value.bool _ from rfl) ?_)
    refine WL.nil ?_
    refine W.condT' rfl (by rw [hk]; decide) ?_
    refine W.seq ?_
    obtain ⟨wd, hwd⟩ : ∃ wd, wd = w.drew := ⟨_, rfl⟩
    have hxd : Ext w wd := hwd ▸ Only.drew w
    replace hx := hx.tr hxd
    replace hS := hS.ext hxd
    replace hT := hT.ext hxd
    replace hC5 := hxd.blk hC5 (fun h => h)
    refine W.draw (Ext) [(0, fun v _ => v = _), (1, fun v _ => v = _), (5, fun v _ => v = _)] rfl (by kernel_rfl) (Only.refl No) (fun _ _ _ h k => h.trans k) ⟨Mono.eq, Mono.eq, Mono.eq, trivial⟩ ⟨rfl, rfl, rfl, trivial⟩ ?_
    refine WD.p rfl (fun e w hR hh => by obtain ⟨h0, -⟩ := hh; exact SG.n (o_mvh h0 ⟨rfl, Only.refl No _⟩)) ?_
    refine WD.p rfl (fun e w hR hh => by obtain ⟨h1, -⟩ := hh; exact SG.n (o_mvh h1 ⟨rfl, Only.refl No _⟩)) ?_
    refine WD.p rfl (fun e w hR hh => by obtain ⟨h46, -⟩ := hh; exact SG.n (o_addi h46 rfl (by omega) ⟨rfl, Only.refl No _⟩)) ?_
    refine WD.p rfl (fun e w hR hh => by obtain ⟨h47, h45, -⟩ := hh; rw [← hwd] at hR; exact SG.n (o_call Tryd.call25 (lc h45 (lc h47 ln)) ((hIH _ (hS.ext hR) (hT.ext hR)).mono (fun v w' h => h)))) ?_
    refine WD.p rfl (fun e w hR hh => by obtain ⟨h48, -⟩ := hh; exact SG.n (o_addT (xs := [108, 105, 115, 116, 60]) (ys := t.sh) rfl h48 (by simp only [List.length_append, List.length_cons, List.length_nil] at hb ⊢; omega) ⟨rfl, Only.refl No _⟩)) ?_
    refine WD.p rfl (fun e w hR hh => by obtain ⟨h49, -⟩ := hh; exact SG.n (o_addT (xs := [108, 105, 115, 116, 60] ++ t.sh) (ys := [44]) h49 rfl (by simp only [List.length_append, List.length_cons, List.length_nil] at hb ⊢; omega) ⟨rfl, Only.refl No _⟩)) ?_
    refine WD.p rfl (fun e w hR hh => by obtain ⟨h5, -⟩ := hh; exact SG.n (o_fa 1 TI36 rfl TI3 rfl h5 ⟨rfl, Only.refl No _⟩)) ?_
    refine WD.p rfl (fun e w hR hh => by obtain ⟨h51, -⟩ := hh; rw [← hwd] at hR; exact SG.n (o_ld TI3 rfl h51 (cell_of (hR.blk hC5 (fun h => h)) rfl) ⟨rfl, Only.refl No _⟩)) ?_
    refine WD.p rfl (fun e w hR hh => by obtain ⟨h52, -⟩ := hh; rw [← hwd] at hR; exact SG.n (o_call Tryd.call38 (lc h52 ln) ((hdg _ (hT.ext hR)).mono (fun v w' h => h)))) ?_
    refine WD.p rfl (fun e w hR hh => by obtain ⟨h53, h50, -⟩ := hh; exact SG.n (o_addT (xs := [108, 105, 115, 116, 60] ++ t.sh ++ [44]) (ys := digL y.n.toNat) h50 h53 (by simp only [List.length_append, List.length_cons, List.length_nil] at hb ⊢; omega) ⟨rfl, Only.refl No _⟩)) ?_
    refine WD.p rfl (fun e w hR hh => by obtain ⟨h54, -⟩ := hh; exact SG.n (o_addT (xs := [108, 105, 115, 116, 60] ++ t.sh ++ [44] ++ digL y.n.toNat) (ys := [62]) h54 rfl (by simp only [List.length_append, List.length_cons, List.length_nil] at hb ⊢; omega) ⟨rfl, Only.refl No _⟩)) ?_
    refine WD.p rfl (fun e w hR hh => by obtain ⟨h55, -⟩ := hh; exact SG.n (o_ash h55 ⟨rfl, Only.refl No _⟩)) ?_
    rintro e w hR ⟨h4, h55, h54, h53, h52, h51, h50, h49, h48, h47, h46, h45, h0, h1, h5, -⟩
    rw [← hwd] at hR
    replace hx := hx.tr hR
    refine W.ret ?_
    refine ret1v rfl h4 ?_
    exact ⟨by simp [List.append_assoc], hx⟩
  · skip
    have hk1 : y.kids = 1 ∧ 0 ≤ y.n ∧ y.n ≤ 2147483647 := by rcases okB_cases hok with h | h | h | h | h <;> omega
    obtain ⟨t, rfl⟩ := trs_one (ts := ks) (by have : (ks.len : Int) = y.kids := hw.2.2.2.1; omega)
    have hwt : t.wf y.kind (deep + 1) := hw.2.2.2.2.1
    have htl : (Trs.cons t .nil).flat = t.flat := by simp [Trs.flat]
    rw [htl] at hS hn hN hN2
    have hsh : (Tr.node y (.cons t .nil)).sh = [111, 112, 116, 105, 111, 110, 60] ++ (t.sh ++ [62]) := by simp [Tr.sh, Trs.shK, hk]
    have hIH := fun (w : World) (hS : Sl w 7 (.slice (some ⟨gb, go, none⟩) N gc) N _) (hT : Tab w) => IH t y.kind (deep + 1) N (A ++ [y]) C (.slice (some ⟨gb, go, none⟩) N gc) w hn hwt (by rw [hN]; simp) hNb (by rw [hsh] at hb; simp at hb; omega) hS hT
    simp only [List.append_assoc, List.singleton_append, List.length_append, List.length_singleton, show ((A.length + 1 : Nat) : Int) = (A.length : Int) + 1 by omega] at hIH
    rw [hsh] at hb ⊢
    refine W.region ?_
    refine WL.c rfl (o_fa 0 TI36 rfl TI3 rfl rfl ?_)
    refine WL.c rfl (o_ld TI3 rfl rfl (cell_of hC5 rfl) ?_)
    refine WL.nil ?_
    refine W.block ?_
    refine W.seq ?_
    refine W.region ?_
    refine WL.c rfl (o_eq rfl rfl ?_)
    refine WL.c rfl (o_ash (show _ = Value.bool _ from rfl) ?_)
    refine WL.nil ?_
    refine W.condF' rfl (by rw [hk]; decide) ?_
    refine W.seq ?_
    refine W.region ?_
    refine WL.c rfl (o_eq rfl rfl ?_)
    refine WL.c rfl (o_ash (show _ = Value.bool _ from rfl) ?_)
    refine WL.nil ?_
    refine W.condF' rfl (by rw [hk]; decide) ?_
    refine W.seq ?_
    refine W.region ?_
    refine WL.c rfl (o_eq rfl rfl ?_)
    refine WL.c rfl (o_ash (show _ = Value.bool _ from rfl) ?_)
    refine WL.nil ?_
    refine W.condF' rfl (by rw [hk]; decide) ?_
    refine W.seq ?_
    refine W.region ?_
    refine WL.c rfl (o_eq rfl rfl ?_)
    refine WL.c rfl (o_ash (show _ = Value.bool _ from rfl) ?_)
    refine WL.nil ?_
    refine W.condF' rfl (by rw [hk]; decide) ?_
    refine W.seq ?_
    refine W.region ?_
    refine WL.c rfl (o_eq rfl rfl ?_)
    refine WL.c rfl (o_ash (show _ = Value.bool _ from rfl) ?_)
    refine WL.nil ?_
    refine W.condF' rfl (by rw [hk]; decide) ?_
    refine W.seq ?_
    refine W.region ?_
    refine WL.c rfl (o_eq rfl rfl ?_)
    refine WL.c rfl (o_ash (show _ = Value.bool _ from rfl) ?_)
    refine WL.nil ?_
    refine W.condF' rfl (by rw [hk]; decide) ?_
    refine W.seq ?_
    refine W.region ?_
    refine WL.c rfl (o_eq rfl rfl ?_)
    refine WL.c rfl (o_ash (show _ = Value.bool _ from rfl) ?_)
    refine WL.nil ?_
    refine W.condT' rfl (by rw [hk]; decide) ?_
    refine W.seq ?_
    refine W.region ?_
    refine WL.c rfl (o_mvh (by first | exact (show _ = Value.slice _ _ _ from rfl) | exact rfl) ?_)
    refine WL.c rfl (o_mvh (show _ = Value.int _ _ from rfl) ?_)
    refine WL.c rfl (o_addi rfl rfl (by omega) ?_)
    refine WL.c rfl (o_call Tryd.call25 (lc rfl (lc rfl ln)) ((hIH _ hS hT).mono ?_))
    rintro v61 w61 ⟨rfl, hx61⟩
    replace hx := hx.tr hx61
    refine WL.c rfl (o_addT (xs := [111, 112, 116, 105, 111, 110, 60]) (ys := t.sh) rfl rfl (by simp only [List.length_append, List.length_cons, List.length_nil] at hb ⊢; omega) ?_)
    refine WL.c rfl (o_addT (xs := [111, 112, 116, 105, 111, 110, 60] ++ t.sh) (ys := [62]) rfl rfl (by simp only [List.length_append, List.length_cons, List.length_nil] at hb ⊢; omega) ?_)
    refine WL.c rfl (o_ash (show _ = Value.string _ from rfl) ?_)
    refine WL.nil ?_
    refine W.ret ?_
    refine ret1v rfl (show _ = Value.string _ from rfl) ?_
    exact ⟨by simp [List.append_assoc], hx⟩
  · skip
    have hkk : y.kids = (ks.len : Int) := hw.2.2.2.1.symm
    have hwk : ks.wf 7 (deep + 1) := by have h := hw.2.2.2.2; rw [hk] at h; exact h
    have hks64 : ks.len ≤ 64 := by have := (rightB_kids hw.2.2.1 hw.2.1).2; omega
    have hsh : (Tr.node y ks).sh = [117, 110, 105, 111, 110, 123] ++ (ks.shR false true ++ [125]) := by simp [Tr.sh, Trs.shK, hk]
    rw [hsh] at hb ⊢
    refine W.region ?_
    refine WL.c rfl (o_fa 0 TI36 rfl TI3 rfl rfl ?_)
    refine WL.c rfl (o_ld TI3 rfl rfl (cell_of hC5 rfl) ?_)
    refine WL.nil ?_
    refine W.block ?_
    refine W.seq ?_
    refine W.region ?_
    refine WL.c rfl (o_eq rfl rfl ?_)
    refine WL.c rfl (o_ash (show _ = Value.bool _ from rfl) ?_)
    refine WL.nil ?_
    refine W.condF' rfl (by rw [hk]; decide) ?_
    refine W.seq ?_
    refine W.region ?_
    refine WL.c rfl (o_eq rfl rfl ?_)
    refine WL.c rfl (o_ash (show _ = Value.bool _ from rfl) ?_)
    refine WL.nil ?_
    refine W.condF' rfl (by rw [hk]; decide) ?_
    refine W.seq ?_
    refine W.region ?_
    refine WL.c rfl (o_eq rfl rfl ?_)
    refine WL.c rfl (o_ash (show _ = Value.bool _ from rfl) ?_)
    refine WL.nil ?_
    refine W.condF' rfl (by rw [hk]; decide) ?_
    refine W.seq ?_
    refine W.region ?_
    refine WL.c rfl (o_eq rfl rfl ?_)
    refine WL.c rfl (o_ash (show _ = Value.bool _ from rfl) ?_)
    refine WL.nil ?_
    refine W.condF' rfl (by rw [hk]; decide) ?_
    refine W.seq ?_
    refine W.region ?_
    refine WL.c rfl (o_eq rfl rfl ?_)
    refine WL.c rfl (o_ash (show _ = Value.bool _ from rfl) ?_)
    refine WL.nil ?_
    refine W.condF' rfl (by rw [hk]; decide) ?_
    refine W.seq ?_
    refine W.region ?_
    refine WL.c rfl (o_eq rfl rfl ?_)
    refine WL.c rfl (o_ash (show _ = Value.bool _ from rfl) ?_)
    refine WL.nil ?_
    refine W.condF' rfl (by rw [hk]; decide) ?_
    refine W.seq ?_
    refine W.region ?_
    refine WL.c rfl (o_eq rfl rfl ?_)
    refine WL.c rfl (o_ash (show _ = Value.bool _ from rfl) ?_)
    refine WL.nil ?_
    refine W.condF' rfl (by rw [hk]; decide) ?_
    refine W.skip ?_
    refine W.seq ?_
    refine W.region ?_
    refine WL.c rfl (o_ash (show _ = Value.string _ from rfl) ?_)
    refine WL.nil ?_
    refine W.seq ?_
    refine W.seq ?_
    refine W.region ?_
    refine WL.c rfl (o_fa 0 TI36 rfl TI3 rfl rfl ?_)
    refine WL.c rfl (o_ld TI3 rfl rfl (cell_of hC5 rfl) ?_)
    refine WL.c rfl (o_eq rfl rfl ?_)
    refine WL.nil ?_
    refine W.condT' rfl (by rw [hk]; decide) ?_
    refine W.region ?_
    refine WL.c rfl (o_ash (show _ = Value.string _ from rfl) ?_)
    refine WL.nil ?_
    refine W.seq ?_
    refine W.region ?_
    refine WL.c rfl (o_mvh (show _ = Value.int _ _ from rfl) ?_)
    refine WL.c rfl (o_addi rfl rfl (by omega) ?_)
    refine WL.c rfl (o_ash (show _ = Value.int _ _ from rfl) ?_)
    refine WL.nil ?_
    refine W.seq ?_
    refine W.seq ?_
    refine W.region ?_
    refine WL.c rfl (o_ash (show _ = Value.int _ _ from rfl) ?_)
    refine WL.nil ?_
    refine W.block ?_
    refine W.loop (fun e w => ∃ (k : Nat) (P : List Ex) (rest : Trs) (b : List UInt8), k + rest.len = ks.len ∧ ks.flat = P ++ rest.flat ∧ rest.wf 7 (deep + 1) ∧ [117, 110, 105, 111, 110, 123] ++ ks.shR false true = b ++ rest.shR false (decide (k = 0)) ∧ e 0 = .slice (some ⟨gb, go, none⟩) N gc ∧ e 1 = .int .i64 (A.length : Int) ∧ e 5 = .pointer (some ⟨b5, 0, none⟩) ∧ e 6 = st b ∧ e 7 = .int .i64 ((A.length + 1 + P.length : Nat) : Int) ∧ e 8 = .int .i64 (k : Int) ∧ w.heap[b5]? = some (.cells (exV y).toArray 36 (0, 0)) ∧ Sl w 7 (.slice (some ⟨gb, go, none⟩) N gc) N (exs (A ++ y :: (ks.flat ++ C))) ∧ Tab w ∧ Ext w0 w) (fun e w => ks.len - (intOf (e 8)).toNat) ?_ ?_
    · exact ⟨0, [], ks, [117, 110, 105, 111, 110, 123], by omega, rfl, hwk, rfl, rfl, rfl, rfl, rfl, rfl, rfl, hC5, hS, hT, hx⟩
    rintro e w ⟨k, P, rest, b, hkl, hq, hrw, hqs, h0, h1, h5, h6, h7, h8, hC5, hS, hT, hx⟩
    have hm8 := h8
    have hqb := congrArg List.length hq
    rw [List.length_append] at hqb
    have hqc := congrArg List.length hqs
    simp only [List.length_append, List.length_cons, List.length_nil] at hqc hb
    refine W.seq ?_
    refine W.seq ?_
    rcases rest with _ | ⟨t, ts⟩
    · skip
      have hk0 : k = ks.len := by simpa [Trs.len] using hkl
      have hqz : [117, 110, 105, 111, 110, 123] ++ ks.shR false true = b := by rw [hqs]; simp [Trs.shR]
      refine W.region ?_
      refine WL.c rfl (o_mvh h8 ?_)
      refine WL.c rfl (o_fa 5 TI36 rfl TI3 rfl h5 ?_)
      refine WL.c rfl (o_ld TI3 rfl rfl (cell_of hC5 rfl) ?_)
      refine WL.c rfl (o_lt rfl rfl ?_)
      refine WL.nil ?_
      refine W.condF' rfl (by simp; omega) ?_
      refine W.exit ?_
      refine W.seq ?_
      refine W.region ?_
      refine WL.c rfl (o_mvh h6 ?_)
      refine WL.c rfl (o_addT (xs := b) (ys := [125]) rfl rfl (by simp at hqc ⊢; omega) ?_)
      refine WL.c rfl (o_ash (show _ = Value.string _ from rfl) ?_)
      refine WL.nil ?_
      refine W.ret ?_
      refine ret1v rfl (show _ = Value.string _ from rfl) ?_
      exact ⟨by rw [← hqz]; simp [List.append_assoc], hx⟩
    · skip
      have hk1 : k + ts.len + 1 = ks.len := by simp only [Trs.len] at hkl; omega
      obtain ⟨F, hF⟩ := fm_top (t := t)
      have htp : 0 < t.flat.length := by rw [hF]; simp
      have hsr : (Trs.cons t ts).shR false (decide (k = 0)) = (if decide (k = 0) = true then [] else [44]) ++ (shHd false t.top ++ (t.sh ++ ts.shR false false)) := by simp [Trs.shR, shHd]
      rw [hsr] at hqc
      simp only [List.length_append, shHd, List.length_cons, List.length_nil, Bool.false_eq_true, if_false, if_true] at hqc
      simp only [Trs.flat, List.length_append] at hqb
      obtain ⟨-, -, g1, g2⟩ := rightB_iff (wf_top hrw.1)
      refine W.region ?_
      refine WL.c rfl (o_mvh h8 ?_)
      refine WL.c rfl (o_fa 5 TI36 rfl TI3 rfl h5 ?_)
      refine WL.c rfl (o_ld TI3 rfl rfl (cell_of hC5 rfl) ?_)
      refine WL.c rfl (o_lt rfl rfl ?_)
      refine WL.nil ?_
      refine W.condT' rfl (by simp; omega) ?_
      refine W.skip ?_
      refine W.seq ?_
      refine W.block ?_
      refine W.seq ?_
      refine W.seq ?_
      refine W.region ?_
      refine WL.c rfl (o_mvh h8 ?_)
      refine WL.c rfl (o_gt rfl rfl ?_)
      refine WL.nil ?_
      refine W.cut (fun e1 w1 => e1 0 = .slice (some ⟨gb, go, none⟩) N gc ∧ e1 1 = .int .i64 (A.length : Int) ∧ e1 5 = .pointer (some ⟨b5, 0, none⟩) ∧ e1 6 = st (b ++ (if decide (k = 0) = true then [] else [44])) ∧ e1 7 = .int .i64 ((A.length + 1 + P.length : Nat) : Int) ∧ e1 8 = .int .i64 (k : Int) ∧ w1 = w) ?_ ?_
      · -- both ways
        refine W.cond rfl (fun c76 => ?_) (fun c76 => ?_)
        · try simp only [decide_eq_true_eq, decide_eq_false_iff_not, Bool.not_eq_true', Bool.not_eq_false', Bool.and_eq_true, Bool.or_eq_true, Bool.and_eq_false_iff, Bool.or_eq_false_iff] at c76
          have hkz : ¬ k = 0 := by omega
          refine W.region ?_
          refine WL.c rfl (o_mvh h6 ?_)
          refine WL.c rfl (o_addT (xs := b) (ys := [44]) rfl rfl (by rw [if_neg (by simpa using hkz)] at hqc; simp at hqc ⊢; omega) ?_)
          refine WL.c rfl (o_ash (show _ = Value.string _ from rfl) ?_)
          refine WL.nil ?_
          first | exact ⟨h0, h1, h5, by rw [if_neg (by simpa using hkz)]; rfl, h7, h8, rfl⟩ | exact ⟨h0, h1, h5, by rw [if_pos (by simpa using hkz)]; rw [List.append_nil]; exact h6, h7, h8, rfl⟩
        · try simp only [decide_eq_true_eq, decide_eq_false_iff_not, Bool.not_eq_true', Bool.not_eq_false', Bool.and_eq_true, Bool.or_eq_true, Bool.and_eq_false_iff, Bool.or_eq_false_iff] at c76
          have hkz : k = 0 := by omega
          refine W.skip ?_
          first | exact ⟨h0, h1, h5, by rw [if_neg (by simpa using hkz)]; rfl, h7, h8, rfl⟩ | exact ⟨h0, h1, h5, by rw [if_pos (by simpa using hkz)]; rw [List.append_nil]; exact h6, h7, h8, rfl⟩
      rintro e w ⟨h0, h1, h5, h6, h7, h8, hwe⟩
      subst hwe
      obtain ⟨b2, hb2⟩ : ∃ b2, b2 = b ++ (if decide (k = 0) = true then [] else [44]) := ⟨_, rfl⟩
      rw [← hb2] at h6
      have hb2l := congrArg List.length hb2
      rw [List.length_append] at hb2l
      have hS0 := hS
      rw [hq] at hS0
      obtain ⟨gb2, go2, gc2, hlv2, htc2⟩ := sl_mid (A := A ++ y :: P) (x := t.top) (C := F ++ (ts.flat ++ C)) (N := N) (by simpa [Trs.flat, hF] using hS0) (by rw [hN, hq]; simp [Trs.flat, hF])
      cases hlv2
      rw [show (A ++ y :: P).length = A.length + 1 + P.length by simp; omega] at htc2
      clear hS0
      refine W.seq ?_
      refine W.seq ?_
      refine W.region ?_
      refine WL.c rfl (o_fa 0 TI36 rfl TI3 rfl h5 ?_)
      refine WL.c rfl (o_ld TI3 rfl rfl (cell_of hC5 rfl) ?_)
      refine WL.c rfl (o_eq rfl rfl ?_)
      refine WL.nil ?_
      refine W.condT' rfl (by rw [hk]; decide) ?_
      have htg : 0 ≤ t.top.tag ∧ t.top.tag ≤ 2147483647 := by unfold tagB at g2; simp only [Bool.or_eq_true, Bool.and_eq_true, decide_eq_true_eq] at g2; omega
      have hdg := fun w hT => itoa_spec t.top.tag.toNat (by omega) w hT
      simp only [show ((t.top.tag.toNat : Nat) : Int) = t.top.tag by omega] at hdg
      refine W.region ?_
      refine WL.c rfl (o_mvh h6 ?_)
      refine WL.c rfl (o_mvh h0 ?_)
      refine WL.c rfl (o_mvh h7 ?_)
      refine WL.c rfl (o_ixB (i := A.length + 1 + P.length) TI32 TI36 rfl rfl (by omega) ?_)
      refine WL.c rfl (o_fa 4 TI36 rfl TI3 rfl rfl ?_)
      refine WL.c rfl (o_ld TI3 rfl rfl (htc2 4 _ rfl) ?_)
      refine WL.c rfl (o_call Tryd.call38 (lc rfl ln) ((hdg _ hT).mono ?_))
      rintro v88 w88 ⟨rfl, hx88⟩
      replace hx := hx.tr hx88
      replace hS := hS.ext hx88
      replace hT := hT.ext hx88
      replace hC5 := hx88.blk hC5 (fun h => h)
      refine WL.c rfl (o_addT (xs := b2) (ys := digL t.top.tag.toNat) rfl rfl (by simp at hqc hb2l ⊢; omega) ?_)
      refine WL.c rfl (o_ash (show _ = Value.string _ from rfl) ?_)
      refine WL.nil ?_
      refine W.seq ?_
      refine W.region ?_
      refine WL.c rfl (o_mvh (show _ = Value.string _ from rfl) ?_)
      refine WL.c rfl (o_addT (xs := b2 ++ digL t.top.tag.toNat) (ys := [58]) rfl rfl (by simp at hqc hb2l ⊢; omega) ?_)
      refine WL.c rfl (o_mvh h0 ?_)
      refine WL.c rfl (o_mvh h7 ?_)
      have hIH := IH t 7 (deep + 1) N (A ++ y :: P) (ts.flat ++ C) _ _ (by omega) hrw.1 (by rw [hN, hq]; simp [Trs.flat]) hNb (by simp at hqc hb2l; omega) (by have h := hS; rw [hq] at h; simpa [Trs.flat] using h) hT
      rw [show (A ++ y :: P).length = A.length + 1 + P.length by simp; omega] at hIH
      refine WL.c rfl (o_call Tryd.call25 (lc rfl (lc rfl ln)) ((hIH).mono ?_))
      rintro v101 w101 ⟨rfl, hx101⟩
      replace hx := hx.tr hx101
      replace hS := hS.ext hx101
      replace hT := hT.ext hx101
      replace hC5 := hx101.blk hC5 (fun h => h)
      refine WL.c rfl (o_addT (xs := b2 ++ digL t.top.tag.toNat ++ [58]) (ys := t.sh) rfl rfl (by simp at hqc hb2l ⊢; omega) ?_)
      refine WL.c rfl (o_ash (show _ = Value.string _ from rfl) ?_)
      refine WL.nil ?_
      refine W.region ?_
      refine WL.c rfl (o_mvh h0 ?_)
      refine WL.c rfl (o_mvh h7 ?_)
      have hBH := beh_all t.flat.length t 7 (deep + 1) N (A ++ y :: P) (ts.flat ++ C) _ w101 (Nat.le_refl _) hrw.1 (by rw [hN, hq]; simp [Trs.flat]) hNb (by have h := hS; rw [hq] at h; simpa [Trs.flat] using h)
      rw [show (A ++ y :: P).length = A.length + 1 + P.length by simp; omega] at hBH
      refine WL.c rfl (o_call Tryd.call45 (lc rfl (lc rfl ln)) ((hBH).mono ?_))
      rintro v105 w105 ⟨rfl, rfl⟩
      refine WL.c rfl (o_ash (show _ = Value.int _ _ from rfl) ?_)
      refine WL.nil ?_
      refine W.region ?_
      refine WL.c rfl (o_mvh h8 ?_)
      refine WL.c rfl (o_addi rfl rfl (by omega) ?_)
      refine WL.c rfl (o_ash (show _ = Value.int _ _ from rfl) ?_)
      refine WL.nil ?_
      refine ⟨⟨k + 1, P ++ t.flat, ts, _, by omega, by rw [hq]; simp [Trs.flat], hrw.2, ?_, h0, h1, h5, rfl, ?_, rfl, hC5, hS, hT, hx⟩, ?_⟩
      · rw [hqs, hsr, ← List.append_assoc b, ← hb2]; simp [shHd]
      · refine congrArg (fun z : Nat => Value.int .i64 (z : Int)) ?_
        simp; omega
      · show ks.len - ((k : Int) + 1).toNat < _
        rw [hm8]; simp [intOf]; omega
  · skip
    have hkk : y.kids = (ks.len : Int) := hw.2.2.2.1.symm
    have hwk : ks.wf 8 (deep + 1) := by have h := hw.2.2.2.2; rw [hk] at h; exact h
    have hks64 : ks.len ≤ 64 := by have := (rightB_kids hw.2.2.1 hw.2.1).2; omega
    have hsh : (Tr.node y ks).sh = [115, 116, 114, 117, 99, 116, 123] ++ (ks.shR true true ++ [125]) := by simp [Tr.sh, Trs.shK, hk]
    rw [hsh] at hb ⊢
    refine W.region ?_
    refine WL.c rfl (o_fa 0 TI36 rfl TI3 rfl rfl ?_)
    refine WL.c rfl (o_ld TI3 rfl rfl (cell_of hC5 rfl) ?_)
    refine WL.nil ?_
    refine W.block ?_
    refine W.seq ?_
    refine W.region ?_
    refine WL.c rfl (o_eq rfl rfl ?_)
    refine WL.c rfl (o_ash (show _ = Value.bool _ from rfl) ?_)
    refine WL.nil ?_
    refine W.condF' rfl (by rw [hk]; decide) ?_
    refine W.seq ?_
    refine W.region ?_
    refine WL.c rfl (o_eq rfl rfl ?_)
    refine WL.c rfl (o_ash (show _ = Value.bool _ from rfl) ?_)
    refine WL.nil ?_
    refine W.condF' rfl (by rw [hk]; decide) ?_
    refine W.seq ?_
    refine W.region ?_
    refine WL.c rfl (o_eq rfl rfl ?_)
    refine WL.c rfl (o_ash (show _ = Value.bool _ from rfl) ?_)
    refine WL.nil ?_
    refine W.condF' rfl (by rw [hk]; decide) ?_
    refine W.seq ?_
    refine W.region ?_
    refine WL.c rfl (o_eq rfl rfl ?_)
    refine WL.c rfl (o_ash (show _ = Value.bool _ from rfl) ?_)
    refine WL.nil ?_
    refine W.condF' rfl (by rw [hk]; decide) ?_
    refine W.seq ?_
    refine W.region ?_
    refine WL.c rfl (o_eq rfl rfl ?_)
    refine WL.c rfl (o_ash (show _ = Value.bool _ from rfl) ?_)
    refine WL.nil ?_
    refine W.condF' rfl (by rw [hk]; decide) ?_
    refine W.seq ?_
    refine W.region ?_
    refine WL.c rfl (o_eq rfl rfl ?_)
    refine WL.c rfl (o_ash (show _ = Value.bool _ from rfl) ?_)
    refine WL.nil ?_
    refine W.condF' rfl (by rw [hk]; decide) ?_
    refine W.seq ?_
    refine W.region ?_
    refine WL.c rfl (o_eq rfl rfl ?_)
    refine WL.c rfl (o_ash (show _ = Value.bool _ from rfl) ?_)
    refine WL.nil ?_
    refine W.condF' rfl (by rw [hk]; decide) ?_
    refine W.skip ?_
    refine W.seq ?_
    refine W.region ?_
    refine WL.c rfl (o_ash (show _ = Value.string _ from rfl) ?_)
    refine WL.nil ?_
    refine W.seq ?_
    refine W.seq ?_
    refine W.region ?_
    refine WL.c rfl (o_fa 0 TI36 rfl TI3 rfl rfl ?_)
    refine WL.c rfl (o_ld TI3 rfl rfl (cell_of hC5 rfl) ?_)
    refine WL.c rfl (o_eq rfl rfl ?_)
    refine WL.nil ?_
    refine W.condF' rfl (by rw [hk]; decide) ?_
    refine W.skip ?_
    refine W.seq ?_
    refine W.region ?_
    refine WL.c rfl (o_mvh (show _ = Value.int _ _ from rfl) ?_)
    refine WL.c rfl (o_addi rfl rfl (by omega) ?_)
    refine WL.c rfl (o_ash (show _ = Value.int _ _ from rfl) ?_)
    refine WL.nil ?_
    refine W.seq ?_
    refine W.seq ?_
    refine W.region ?_
    refine WL.c rfl (o_ash (show _ = Value.int _ _ from rfl) ?_)
    refine WL.nil ?_
    refine W.block ?_
    refine W.loop (fun e w => ∃ (k : Nat) (P : List Ex) (rest : Trs) (b : List UInt8), k + rest.len = ks.len ∧ ks.flat = P ++ rest.flat ∧ rest.wf 8 (deep + 1) ∧ [115, 116, 114, 117, 99, 116, 123] ++ ks.shR true true = b ++ rest.shR true (decide (k = 0)) ∧ e 0 = .slice (some ⟨gb, go, none⟩) N gc ∧ e 1 = .int .i64 (A.length : Int) ∧ e 5 = .pointer (some ⟨b5, 0, none⟩) ∧ e 6 = st b ∧ e 7 = .int .i64 ((A.length + 1 + P.length : Nat) : Int) ∧ e 8 = .int .i64 (k : Int) ∧ w.heap[b5]? = some (.cells (exV y).toArray 36 (0, 0)) ∧ Sl w 7 (.slice (some ⟨gb, go, none⟩) N gc) N (exs (A ++ y :: (ks.flat ++ C))) ∧ Tab w ∧ Ext w0 w) (fun e w => ks.len - (intOf (e 8)).toNat) ?_ ?_
    · exact ⟨0, [], ks, [115, 116, 114, 117, 99, 116, 123], by omega, rfl, hwk, rfl, rfl, rfl, rfl, rfl, rfl, rfl, hC5, hS, hT, hx⟩
    rintro e w ⟨k, P, rest, b, hkl, hq, hrw, hqs, h0, h1, h5, h6, h7, h8, hC5, hS, hT, hx⟩
    have hm8 := h8
    have hqb := congrArg List.length hq
    rw [List.length_append] at hqb
    have hqc := congrArg List.length hqs
    simp only [List.length_append, List.length_cons, List.length_nil] at hqc hb
    refine W.seq ?_
    refine W.seq ?_
    rcases rest with _ | ⟨t, ts⟩
    · skip
      have hk0 : k = ks.len := by simpa [Trs.len] using hkl
      have hqz : [115, 116, 114, 117, 99, 116, 123] ++ ks.shR true true = b := by rw [hqs]; simp [Trs.shR]
      refine W.region ?_
      refine WL.c rfl (o_mvh h8 ?_)
      refine WL.c rfl (o_fa 5 TI36 rfl TI3 rfl h5 ?_)
      refine WL.c rfl (o_ld TI3 rfl rfl (cell_of hC5 rfl) ?_)
      refine WL.c rfl (o_lt rfl rfl ?_)
      refine WL.nil ?_
      refine W.condF' rfl (by simp; omega) ?_
      refine W.exit ?_
      refine W.seq ?_
      refine W.region ?_
      refine WL.c rfl (o_mvh h6 ?_)
      refine WL.c rfl (o_addT (xs := b) (ys := [125]) rfl rfl (by simp at hqc ⊢; omega) ?_)
      refine WL.c rfl (o_ash (show _ = Value.string _ from rfl) ?_)
      refine WL.nil ?_
      refine W.ret ?_
      refine ret1v rfl (show _ = Value.string _ from rfl) ?_
      exact ⟨by rw [← hqz]; simp [List.append_assoc], hx⟩
    · skip
      have hk1 : k + ts.len + 1 = ks.len := by simp only [Trs.len] at hkl; omega
      obtain ⟨F, hF⟩ := fm_top (t := t)
      have htp : 0 < t.flat.length := by rw [hF]; simp
      have hsr : (Trs.cons t ts).shR true (decide (k = 0)) = (if decide (k = 0) = true then [] else [44]) ++ (shHd true t.top ++ (t.sh ++ ts.shR true false)) := by simp [Trs.shR, shHd]
      rw [hsr] at hqc
      simp only [List.length_append, shHd, List.length_cons, List.length_nil, Bool.false_eq_true, if_false, if_true] at hqc
      simp only [Trs.flat, List.length_append] at hqb
      obtain ⟨-, -, g1, g2⟩ := rightB_iff (wf_top hrw.1)
      refine W.region ?_
      refine WL.c rfl (o_mvh h8 ?_)
      refine WL.c rfl (o_fa 5 TI36 rfl TI3 rfl h5 ?_)
      refine WL.c rfl (o_ld TI3 rfl rfl (cell_of hC5 rfl) ?_)
      refine WL.c rfl (o_lt rfl rfl ?_)
      refine WL.nil ?_
      refine W.condT' rfl (by simp; omega) ?_
      refine W.skip ?_
      refine W.seq ?_
      refine W.block ?_
      refine W.seq ?_
      refine W.seq ?_
      refine W.region ?_
      refine WL.c rfl (o_mvh h8 ?_)
      refine WL.c rfl (o_gt rfl rfl ?_)
      refine WL.nil ?_
      refine W.cut (fun e1 w1 => e1 0 = .slice (some ⟨gb, go, none⟩) N gc ∧ e1 1 = .int .i64 (A.length : Int) ∧ e1 5 = .pointer (some ⟨b5, 0, none⟩) ∧ e1 6 = st (b ++ (if decide (k = 0) = true then [] else [44])) ∧ e1 7 = .int .i64 ((A.length + 1 + P.length : Nat) : Int) ∧ e1 8 = .int .i64 (k : Int) ∧ w1 = w) ?_ ?_
      · -- both ways
        refine W.cond rfl (fun c76 => ?_) (fun c76 => ?_)
        · try simp only [decide_eq_true_eq, decide_eq_false_iff_not, Bool.not_eq_true', Bool.not_eq_false', Bool.and_eq_true, Bool.or_eq_true, Bool.and_eq_false_iff, Bool.or_eq_false_iff] at c76
          have hkz : ¬ k = 0 := by omega
          refine W.region ?_
          refine WL.c rfl (o_mvh h6 ?_)
          refine WL.c rfl (o_addT (xs := b) (ys := [44]) rfl rfl (by rw [if_neg (by simpa using hkz)] at hqc; simp at hqc ⊢; omega) ?_)
          refine WL.c rfl (o_ash (show _ = Value.string _ from rfl) ?_)
          refine WL.nil ?_
          first | exact ⟨h0, h1, h5, by rw [if_neg (by simpa using hkz)]; rfl, h7, h8, rfl⟩ | exact ⟨h0, h1, h5, by rw [if_pos (by simpa using hkz)]; rw [List.append_nil]; exact h6, h7, h8, rfl⟩
        · try simp only [decide_eq_true_eq, decide_eq_false_iff_not, Bool.not_eq_true', Bool.not_eq_false', Bool.and_eq_true, Bool.or_eq_true, Bool.and_eq_false_iff, Bool.or_eq_false_iff] at c76
          have hkz : k = 0 := by omega
          refine W.skip ?_
          first | exact ⟨h0, h1, h5, by rw [if_neg (by simpa using hkz)]; rfl, h7, h8, rfl⟩ | exact ⟨h0, h1, h5, by rw [if_pos (by simpa using hkz)]; rw [List.append_nil]; exact h6, h7, h8, rfl⟩
      rintro e w ⟨h0, h1, h5, h6, h7, h8, hwe⟩
      subst hwe
      obtain ⟨b2, hb2⟩ : ∃ b2, b2 = b ++ (if decide (k = 0) = true then [] else [44]) := ⟨_, rfl⟩
      rw [← hb2] at h6
      have hb2l := congrArg List.length hb2
      rw [List.length_append] at hb2l
      have hS0 := hS
      rw [hq] at hS0
      obtain ⟨gb2, go2, gc2, hlv2, htc2⟩ := sl_mid (A := A ++ y :: P) (x := t.top) (C := F ++ (ts.flat ++ C)) (N := N) (by simpa [Trs.flat, hF] using hS0) (by rw [hN, hq]; simp [Trs.flat, hF])
      cases hlv2
      rw [show (A ++ y :: P).length = A.length + 1 + P.length by simp; omega] at htc2
      clear hS0
      refine W.seq ?_
      refine W.seq ?_
      refine W.region ?_
      refine WL.c rfl (o_fa 0 TI36 rfl TI3 rfl h5 ?_)
      refine WL.c rfl (o_ld TI3 rfl rfl (cell_of hC5 rfl) ?_)
      refine WL.c rfl (o_eq rfl rfl ?_)
      refine WL.nil ?_
      refine W.condF' rfl (by rw [hk]; decide) ?_
      refine W.region ?_
      refine WL.c rfl (o_mvh h6 ?_)
      refine WL.c rfl (o_mvh h0 ?_)
      refine WL.c rfl (o_mvh h7 ?_)
      refine WL.c rfl (o_ixB (i := A.length + 1 + P.length) TI32 TI36 rfl rfl (by omega) ?_)
      refine WL.c rfl (o_fa 3 TI36 rfl TI9 rfl rfl ?_)
      refine WL.c rfl (o_ld TI9 rfl rfl (htc2 3 _ rfl) ?_)
      refine WL.c rfl (o_addT (xs := b2) (ys := t.top.label) rfl rfl (by simp at hqc hb2l ⊢; omega) ?_)
      refine WL.c rfl (o_ash (show _ = Value.string _ from rfl) ?_)
      refine WL.nil ?_
      refine W.seq ?_
      refine W.region ?_
      refine WL.c rfl (o_mvh (show _ = Value.string _ from rfl) ?_)
      refine WL.c rfl (o_addT (xs := b2 ++ t.top.label) (ys := [58]) rfl rfl (by simp at hqc hb2l ⊢; omega) ?_)
      refine WL.c rfl (o_mvh h0 ?_)
      refine WL.c rfl (o_mvh h7 ?_)
      have hIH := IH t 8 (deep + 1) N (A ++ y :: P) (ts.flat ++ C) _ _ (by omega) hrw.1 (by rw [hN, hq]; simp [Trs.flat]) hNb (by simp at hqc hb2l; omega) (by have h := hS; rw [hq] at h; simpa [Trs.flat] using h) hT
      rw [show (A ++ y :: P).length = A.length + 1 + P.length by simp; omega] at hIH
      refine WL.c rfl (o_call Tryd.call25 (lc rfl (lc rfl ln)) ((hIH).mono ?_))
      rintro v101 w101 ⟨rfl, hx101⟩
      replace hx := hx.tr hx101
      replace hS := hS.ext hx101
      replace hT := hT.ext hx101
      replace hC5 := hx101.blk hC5 (fun h => h)
      refine WL.c rfl (o_addT (xs := b2 ++ t.top.label ++ [58]) (ys := t.sh) rfl rfl (by simp at hqc hb2l ⊢; omega) ?_)
      refine WL.c rfl (o_ash (show _ = Value.string _ from rfl) ?_)
      refine WL.nil ?_
      refine W.region ?_
      refine WL.c rfl (o_mvh h0 ?_)
      refine WL.c rfl (o_mvh h7 ?_)
      have hBH := beh_all t.flat.length t 8 (deep + 1) N (A ++ y :: P) (ts.flat ++ C) _ w101 (Nat.le_refl _) hrw.1 (by rw [hN, hq]; simp [Trs.flat]) hNb (by have h := hS; rw [hq] at h; simpa [Trs.flat] using h)
      rw [show (A ++ y :: P).length = A.length + 1 + P.length by simp; omega] at hBH
      refine WL.c rfl (o_call Tryd.call45 (lc rfl (lc rfl ln)) ((hBH).mono ?_))
      rintro v105 w105 ⟨rfl, rfl⟩
      refine WL.c rfl (o_ash (show _ = Value.int _ _ from rfl) ?_)
      refine WL.nil ?_
      refine W.region ?_
      refine WL.c rfl (o_mvh h8 ?_)
      refine WL.c rfl (o_addi rfl rfl (by omega) ?_)
      refine WL.c rfl (o_ash (show _ = Value.int _ _ from rfl) ?_)
      refine WL.nil ?_
      refine ⟨⟨k + 1, P ++ t.flat, ts, _, by omega, by rw [hq]; simp [Trs.flat], hrw.2, ?_, h0, h1, h5, rfl, ?_, rfl, hC5, hS, hT, hx⟩, ?_⟩
      · rw [hqs, hsr, ← List.append_assoc b, ← hb2]; simp [shHd]
      · refine congrArg (fun z : Nat => Value.int .i64 (z : Int)) ?_
        simp; omega
      · show ks.len - ((k : Int) + 1).toNat < _
        rw [hm8]; simp [intOf]; omega

theorem form_all : ∀ n, BForm n := by
  intro n
  induction n with
  | zero =>
    intro t above deep N A C v w0 hn
    cases t with
    | node y ks => simp [Tr.flat] at hn
  | succ n ih =>
    intro t above deep N A C v w0 hn hw hN hNb hb hS hT
    cases t with
    | node y ks => exact form_step n ih y ks above deep N A C v w0 (by simpa [Tr.flat] using hn) hw hN hNb hb hS hT

end Go.Proofs.YtanimeifmicmoaaDoor

set_option linter.unusedSimpArgs false
set_option linter.unusedVariables false
set_option maxRecDepth 100000
namespace Go.Proofs.YtanimeifmicmoaaDoor
open Go Go.Vc Go.RowKit Go.Proofs

theorem cell_lt {w : World} {b o : Nat} {v : Value} (hi : w.cell? ⟨b, o, none⟩ = some v) : b < w.heap.size := by
  unfold World.cell? at hi
  rcases Nat.lt_or_ge b w.heap.size with hl | hl
  · exact hl
  · simp [Array.getElem?_eq_none hl] at hi

theorem rprint_bad (D : List Df) (dv : Value) (V : Nat → Value) (w0 : World) (hD : DefR w0 D dv V) (hlim : DLim D) (hck : ¬ (chkS D).2.2 = 0) : Ca Tryd.prog 11 #[.agg #[dv]] w0 (fun u w' => u = .tuple #[st [], .int .i64 ((chkS D).2.2 : Int)] ∧ Ext w0 w') := by
  refine Ca.of Tryd.func11 Tryd.ntmps11 rfl rfl ?_
  refine W.seq ?_
  refine W.region ?_
  refine WL.c rfl (o_boxB rfl ?_)
  intro w1 hC1 hx hs1
  replace hC1 : w1.heap[w0.heap.size]? = some (.cells #[dv] 24 (0, 0)) := hC1
  obtain ⟨c1, hc1⟩ : ∃ c, c = w0.heap.size := ⟨_, rfl⟩
  rw [← hc1] at hC1 ⊢
  refine WL.c rfl (o_ash (show _ = Value.string _ from rfl) ?_)
  refine WL.c rfl (o_ash (show _ = Value.int _ _ from rfl) ?_)
  refine WL.nil ?_
  refine W.seq ?_
  refine W.region ?_
  refine WL.c rfl (o_ldA TI24 rfl rfl (show Cells _ c1 0 [dv] from Cells.of hC1 0 _ (by simp)) rfl ?_)
  refine WL.c rfl (o_call Tryd.call24 (lc rfl ln) ((rcheck_spec D dv V _ (hD.ext hx) hlim).mono ?_))
  rintro v11 w11 ⟨rfl, hx11⟩
  rw [show rs3 (chkS D) = .tuple #[.int .i64 ((chkS D).1 : Int), .int .i64 ((chkS D).2.1 : Int), .int .i64 ((chkS D).2.2 : Int)] from rfl]
  replace hx := hx.tr hx11
  refine WL.c rfl (o_mvh (by first | exact (show _ = Value.tuple _ from rfl) | exact rfl) ?_)
  refine WL.c rfl (o_ext rfl rfl ?_)
  refine WL.c rfl (o_ext rfl rfl ?_)
  refine WL.c rfl (o_ext rfl rfl ?_)
  refine WL.c rfl (o_ash (show _ = Value.int _ _ from rfl) ?_)
  refine WL.c rfl (o_ash (show _ = Value.int _ _ from rfl) ?_)
  refine WL.c rfl (o_ash (show _ = Value.int _ _ from rfl) ?_)
  refine WL.nil ?_
  refine W.seq ?_
  refine W.seq ?_
  refine W.region ?_
  refine WL.c rfl (o_mvh (show _ = Value.int _ _ from rfl) ?_)
  refine WL.c rfl (o_ne rfl rfl ?_)
  refine WL.nil ?_
  refine W.condT' rfl (by simp; omega) ?_
  refine W.seq ?_
  refine W.region ?_
  refine WL.c rfl (o_mvh (show _ = Value.int _ _ from rfl) ?_)
  refine WL.c rfl (o_ash (show _ = Value.string _ from rfl) ?_)
  refine WL.c rfl (o_ash (show _ = Value.int _ _ from rfl) ?_)
  refine WL.nil ?_
  refine W.ret ?_
  refine ret2v rfl (show _ = Value.string _ from rfl) (show _ = Value.int _ _ from rfl) ?_
  exact ⟨rfl, hx⟩
set_option maxHeartbeats 2000000 in
theorem rprint_spec (D : List Df) (dv : Value) (V : Nat → Value) (w0 : World) (hD : DefR w0 D dv V) (hlim : DLim D) (hT : Tab w0) (hck : (chkS D).2.2 = 0) (l : List DefT) (hws : ∀ q ∈ l, DefW q) (hmap : D.map (fun d => (d.name, d.ty)) = l.map (fun q => (q.1, q.2.flat))) (hbl : (shDefs l).length ≤ 140737488355328) : Ca Tryd.prog 11 #[.agg #[dv]] w0 (fun u w' => u = (if 65536 < (shDefs l).length then .tuple #[st [], .int .i64 4] else .tuple #[st (shDefs l), .int .i64 0]) ∧ Ext w0 w') := by
  have h256 := (chkS_trees hck).1
  refine Ca.of Tryd.func11 Tryd.ntmps11 rfl rfl ?_
  refine W.seq ?_
  refine W.region ?_
  refine WL.c rfl (o_boxB rfl ?_)
  intro w1 hC1 hx hs1
  replace hC1 : w1.heap[w0.heap.size]? = some (.cells #[dv] 24 (0, 0)) := hC1
  obtain ⟨c1, hc1⟩ : ∃ c, c = w0.heap.size := ⟨_, rfl⟩
  rw [← hc1] at hC1 ⊢
  refine WL.c rfl (o_ash (show _ = Value.string _ from rfl) ?_)
  refine WL.c rfl (o_ash (show _ = Value.int _ _ from rfl) ?_)
  refine WL.nil ?_
  refine W.seq ?_
  refine W.region ?_
  refine WL.c rfl (o_ldA TI24 rfl rfl (show Cells _ c1 0 [dv] from Cells.of hC1 0 _ (by simp)) rfl ?_)
  refine WL.c rfl (o_call Tryd.call24 (lc rfl ln) ((rcheck_spec D dv V _ (hD.ext hx) hlim).mono ?_))
  rintro v11 w11 ⟨rfl, hx11⟩
  rw [show rs3 (chkS D) = .tuple #[.int .i64 ((chkS D).1 : Int), .int .i64 ((chkS D).2.1 : Int), .int .i64 ((chkS D).2.2 : Int)] from rfl]
  replace hx := hx.tr hx11
  replace hC1 := hx11.blk hC1 (fun h => h)
  refine WL.c rfl (o_mvh (by first | exact (show _ = Value.tuple _ from rfl) | exact rfl) ?_)
  refine WL.c rfl (o_ext rfl rfl ?_)
  refine WL.c rfl (o_ext rfl rfl ?_)
  refine WL.c rfl (o_ext rfl rfl ?_)
  refine WL.c rfl (o_ash (show _ = Value.int _ _ from rfl) ?_)
  refine WL.c rfl (o_ash (show _ = Value.int _ _ from rfl) ?_)
  refine WL.c rfl (o_ash (show _ = Value.int _ _ from rfl) ?_)
  refine WL.nil ?_
  refine W.seq ?_
  refine W.seq ?_
  refine W.region ?_
  refine WL.c rfl (o_mvh (show _ = Value.int _ _ from rfl) ?_)
  refine WL.c rfl (o_ne rfl rfl ?_)
  refine WL.nil ?_
  refine W.condF' rfl (by simp; omega) ?_
  refine W.skip ?_
  refine W.seq ?_
  refine W.region ?_
  refine WL.c rfl (o_ash (show _ = Value.string _ from rfl) ?_)
  refine WL.nil ?_
  refine W.seq ?_
  refine W.seq ?_
  refine W.region ?_
  refine WL.c rfl (o_ash (show _ = Value.int _ _ from rfl) ?_)
  refine WL.nil ?_
  refine W.block ?_
  refine W.loop (fun e w => ∃ (i : Nat) (rest : List DefT) (b : List UInt8), i ≤ D.length ∧ shDefs l = b ++ shDefs rest ∧ (D.drop i).map (fun d => (d.name, d.ty)) = rest.map (fun q => (q.1, q.2.flat)) ∧ (∀ q ∈ rest, DefW q) ∧ b.length ≤ 65536 ∧ e 1 = .pointer (some ⟨c1, 0, none⟩) ∧ e 7 = st b ∧ e 8 = .int .i64 (i : Int) ∧ w.heap[c1]? = some (.cells #[dv] 24 (0, 0)) ∧ Ext w0 w) (fun e w => D.length - (intOf (e 8)).toNat) ?_ ?_
  · exact ⟨0, l, [], Nat.zero_le _, rfl, hmap, hws, by simp, rfl, rfl, rfl, hC1, hx⟩
  rintro e w ⟨i, rest, b, hi, hq, hmp, hwr, hb6, h1, h7, h8, hC1, hx⟩
  have hm8 := h8
  have hqb := congrArg List.length hq
  rw [List.length_append] at hqb
  refine W.seq ?_
  refine W.seq ?_
  refine W.region ?_
  refine WL.c rfl (o_mvh h8 ?_)
  refine WL.c rfl (o_fa 0 TI24 rfl TI22 rfl h1 ?_)
  refine WL.c rfl (o_ld TI22 rfl rfl (cell_of hC1 rfl) ?_)
  refine WL.c rfl (o_lenR TI22 rfl (hD.ext hx).row ?_)
  refine WL.c rfl (o_lt rfl rfl ?_)
  refine WL.nil ?_
  refine W.cond rfl (fun c22 => ?_) (fun c22 => ?_)
  · try simp only [decide_eq_true_eq, decide_eq_false_iff_not, Bool.not_eq_true', Bool.not_eq_false', Bool.and_eq_true, Bool.or_eq_true, Bool.and_eq_false_iff, Bool.or_eq_false_iff] at c22
    have hil : i < D.length := by omega
    have hDw := hD.ext hx
    obtain ⟨tb, to_, tc, hdv, htc⟩ := hDw.at hil
    have htd : tyD D i = D[i].ty := tyD_at hil
    have hty := hDw.tys i hil
    rw [htd] at hty
    rw [show D.getD i df0 = D[i] by simp [List.getD_eq_getElem?_getD, hil]] at htc
    have hdr : D.drop i = D[i] :: D.drop (i + 1) := (List.getElem_cons_drop hil).symm
    rw [hdr, List.map_cons] at hmp
    obtain ⟨⟨nm, t⟩, rest, rfl⟩ : ∃ q r2, rest = q :: r2 := by
      cases rest with
      | nil => simp at hmp
      | cons q r2 => exact ⟨q, r2, rfl⟩
    rw [List.map_cons, List.cons.injEq, Prod.mk.injEq] at hmp
    obtain ⟨⟨hn1, hn2⟩, hmp⟩ := hmp
    replace hn1 : D[i].name = nm := hn1
    replace hn2 : D[i].ty = t.flat := hn2
    obtain ⟨hnb, htw⟩ := hwr _ (List.mem_cons_self ..)
    replace htw : t.wf 0 0 := htw
    have hl4 := (hlim _ (List.getElem_mem hil)).2.1
    rw [hn2] at hl4 hty
    simp only [shDefs, shDef, List.length_append, List.length_cons, List.length_nil] at hqb
    simp only [dcell, hn1] at htc
    rw [hdv] at hC1
    have hfm := fun (w : World) (hS : Sl w 7 (V i) t.flat.length (exs t.flat)) (hT : Tab w) => form_all t.flat.length t 0 0 t.flat.length [] [] (V i) w (Nat.le_refl _) htw (by simp) hl4 (by omega) (by simpa using hS) hT
    simp only [List.length_nil] at hfm
    refine W.skip ?_
    refine W.seq ?_
    refine W.block ?_
    refine W.seq ?_
    obtain ⟨wd, hwd⟩ : ∃ wd, wd = w.drew := ⟨_, rfl⟩
    have hxd : Ext w wd := hwd ▸ Only.drew w
    replace hx := hx.tr hxd
    replace hty := hty.ext hxd
    replace htc := Cells.only htc hxd (fun h => h)
    replace hC1 := hxd.blk hC1 (fun h => h)
    have hT2 := hT.ext hx
    refine W.drawT 19 (Ext) [(1, fun v _ => v = _), (7, fun v _ => v = _), (8, fun v _ => v = _)] rfl (by kernel_rfl) (Only.refl No) (fun _ _ _ h k => h.trans k) ⟨Mono.eq, Mono.eq, Mono.eq, trivial⟩ ⟨h1, h7, h8, trivial⟩ ?_
    refine WD.p rfl (fun e w hR hh => by obtain ⟨h7, -⟩ := hh; exact SG.n (o_mvh h7 ⟨rfl, Only.refl No _⟩)) ?_
    refine WD.p rfl (fun e w hR hh => by obtain ⟨h25, -⟩ := hh; exact SG.n (o_addT (xs := b) (ys := [116, 121, 112, 101, 32]) h25 rfl (by simp only [List.length_append, List.length_cons, List.length_nil]; omega) ⟨rfl, Only.refl No _⟩)) ?_
    refine WD.p rfl (fun e w hR hh => by obtain ⟨h1, -⟩ := hh; exact SG.n (o_fa 0 TI24 rfl TI22 rfl h1 ⟨rfl, Only.refl No _⟩)) ?_
    refine WD.p rfl (fun e w hR hh => by obtain ⟨h27, -⟩ := hh; rw [← hwd] at hR; exact SG.n (o_ld TI22 rfl h27 (cell_of (hR.blk hC1 (fun h => h)) rfl) ⟨rfl, Only.refl No _⟩)) ?_
    refine WD.p rfl (fun e w hR hh => by obtain ⟨h8, -⟩ := hh; exact SG.n (o_mvh h8 ⟨rfl, Only.refl No _⟩)) ?_
    refine WD.p rfl (fun e w hR hh => by obtain ⟨h29, h28, -⟩ := hh; exact SG.n (o_ixB TI22 TI34 h28 h29 (by omega) ⟨rfl, Only.refl No _⟩)) ?_
    refine WD.p rfl (fun e w hR hh => by obtain ⟨h30, -⟩ := hh; exact SG.n (o_fa 0 TI34 rfl TI9 rfl h30 ⟨rfl, Only.refl No _⟩)) ?_
    refine WD.p rfl (fun e w hR hh => by obtain ⟨h31, -⟩ := hh; rw [← hwd] at hR; exact SG.n (o_ld TI9 rfl h31 ((Cells.only htc hR (fun h => h)) 0 _ rfl) ⟨rfl, Only.refl No _⟩)) ?_
    refine WD.p rfl (fun e w hR hh => by obtain ⟨h32, h26, -⟩ := hh; exact SG.n (o_addT (xs := b ++ [116, 121, 112, 101, 32]) (ys := nm) h26 h32 (by simp only [List.length_append, List.length_cons, List.length_nil]; omega) ⟨rfl, Only.refl No _⟩)) ?_
    refine WD.p rfl (fun e w hR hh => by obtain ⟨h33, -⟩ := hh; exact SG.n (o_addT (xs := b ++ [116, 121, 112, 101, 32] ++ nm) (ys := [61]) h33 rfl (by simp only [List.length_append, List.length_cons, List.length_nil]; omega) ⟨rfl, Only.refl No _⟩)) ?_
    refine WD.p rfl (fun e w hR hh => by obtain ⟨h1, -⟩ := hh; exact SG.n (o_fa 0 TI24 rfl TI22 rfl h1 ⟨rfl, Only.refl No _⟩)) ?_
    refine WD.p rfl (fun e w hR hh => by obtain ⟨h35, -⟩ := hh; rw [← hwd] at hR; exact SG.n (o_ld TI22 rfl h35 (cell_of (hR.blk hC1 (fun h => h)) rfl) ⟨rfl, Only.refl No _⟩)) ?_
    refine WD.p rfl (fun e w hR hh => by obtain ⟨h8, -⟩ := hh; exact SG.n (o_mvh h8 ⟨rfl, Only.refl No _⟩)) ?_
    refine WD.p rfl (fun e w hR hh => by obtain ⟨h37, h36, -⟩ := hh; exact SG.n (o_ixB TI22 TI34 h36 h37 (by omega) ⟨rfl, Only.refl No _⟩)) ?_
    refine WD.p rfl (fun e w hR hh => by obtain ⟨h38, -⟩ := hh; exact SG.n (o_fa 2 TI34 rfl TI32 rfl h38 ⟨rfl, Only.refl No _⟩)) ?_
    refine WD.p rfl (fun e w hR hh => by obtain ⟨h39, -⟩ := hh; rw [← hwd] at hR; exact SG.n (o_ld TI32 rfl h39 ((Cells.only htc hR (fun h => h)) 2 _ rfl) ⟨rfl, Only.refl No _⟩)) ?_
    refine WD.p rfl (fun e w hR hh => by obtain ⟨h40, -⟩ := hh; rw [← hwd] at hR; exact SG.n (o_call Tryd.call25 (lc h40 (lc rfl ln)) ((hfm _ (hty.ext hR) (hT2.ext hR)).mono (fun v w' h => h)))) ?_
    refine WD.p rfl (fun e w hR hh => by obtain ⟨h41, h34, -⟩ := hh; exact SG.n (o_addT (xs := b ++ [116, 121, 112, 101, 32] ++ nm ++ [61]) (ys := t.sh) h34 h41 (by simp only [List.length_append, List.length_cons, List.length_nil]; omega) ⟨rfl, Only.refl No _⟩)) ?_
    refine WD.p rfl (fun e w hR hh => by obtain ⟨h42, -⟩ := hh; exact SG.n (o_addT (xs := b ++ [116, 121, 112, 101, 32] ++ nm ++ [61] ++ t.sh) (ys := [59]) h42 rfl (by simp only [List.length_append, List.length_cons, List.length_nil]; omega) ⟨rfl, Only.refl No _⟩)) ?_
    rintro e w hR ⟨h43, h42, h41, h40, h39, h38, h37, h36, h35, h34, h33, h32, h31, h30, h29, h28, h27, h26, h25, h1, h7, h8, -⟩
    refine WL.c rfl (o_ash h43 ?_)
    refine WL.nil ?_
    rw [← hwd] at hR
    replace hx := hx.tr hR
    replace hC1 := hR.blk hC1 (fun h => h)
    rw [← hdv] at hC1
    obtain ⟨b2, hb2⟩ : ∃ b2, b2 = b ++ [116, 121, 112, 101, 32] ++ nm ++ [61] ++ t.sh ++ [59] := ⟨_, rfl⟩
    have hq2 : shDefs l = b2 ++ shDefs rest := by rw [hq, hb2]; simp [shDefs, shDef]
    have hqc := congrArg List.length hq2
    rw [List.length_append] at hqc
    have hb2l := congrArg List.length hb2
    simp only [List.length_append, List.length_cons, List.length_nil] at hb2l
    refine W.seq ?_
    refine W.region ?_
    refine WL.c rfl (o_mvh (show _ = Value.string _ from rfl) ?_)
    refine WL.c rfl (o_lenT TI9 rfl ?_)
    refine WL.c rfl (o_gt rfl rfl ?_)
    refine WL.nil ?_
    refine W.cond rfl (fun c46 => ?_) (fun c46 => ?_)
    · try simp only [decide_eq_true_eq, decide_eq_false_iff_not, Bool.not_eq_true', Bool.not_eq_false', Bool.and_eq_true, Bool.or_eq_true, Bool.and_eq_false_iff, Bool.or_eq_false_iff] at c46
      refine W.seq ?_
      refine W.region ?_
      refine WL.c rfl (o_ash (show _ = Value.string _ from rfl) ?_)
      refine WL.c rfl (o_ash (show _ = Value.int _ _ from rfl) ?_)
      refine WL.nil ?_
      refine W.ret ?_
      refine ret2v rfl (show _ = Value.string _ from rfl) (show _ = Value.int _ _ from rfl) ?_
      exact ⟨by rw [if_pos (by rw [hb2] at hqc; omega)], hx⟩
    · try simp only [decide_eq_true_eq, decide_eq_false_iff_not, Bool.not_eq_true', Bool.not_eq_false', Bool.and_eq_true, Bool.or_eq_true, Bool.and_eq_false_iff, Bool.or_eq_false_iff] at c46
      have hb26 : b2.length ≤ 65536 := by rw [hb2]; omega
      refine W.skip ?_
      refine W.region ?_
      refine WL.c rfl (o_mvh h8 ?_)
      refine WL.c rfl (o_addi rfl rfl (by omega) ?_)
      refine WL.c rfl (o_ash (show _ = Value.int _ _ from rfl) ?_)
      refine WL.nil ?_
      refine ⟨⟨i + 1, rest, _, by omega, ?_, hmp, fun q hq => hwr q (List.mem_cons_of_mem _ hq), hb26, h1, by subst hb2; rfl, rfl, hC1, hx⟩, ?_⟩
      · exact hq2
      · show D.length - ((i : Int) + 1).toNat < _
        rw [hm8]; simp [intOf]; omega
  · try simp only [decide_eq_true_eq, decide_eq_false_iff_not, Bool.not_eq_true', Bool.not_eq_false', Bool.and_eq_true, Bool.or_eq_true, Bool.and_eq_false_iff, Bool.or_eq_false_iff] at c22
    have hil : i = D.length := by omega
    rw [hil, List.drop_length] at hmp
    have hr0 : rest = [] := by cases rest with
      | nil => rfl
      | cons q r => simp at hmp
    subst hr0
    have hbq : b = shDefs l := by rw [hq]; simp [shDefs]
    refine W.exit ?_
    refine W.seq ?_
    refine W.region ?_
    refine WL.c rfl (o_mvh h7 ?_)
    refine WL.c rfl (o_ash (show _ = Value.string _ from rfl) ?_)
    refine WL.c rfl (o_ash (show _ = Value.int _ _ from rfl) ?_)
    refine WL.nil ?_
    refine W.ret ?_
    refine ret2v rfl (show _ = Value.string _ from rfl) (show _ = Value.int _ _ from rfl) ?_
    exact ⟨by rw [if_neg (by rw [← hbq]; omega), ← hbq], hx⟩
set_option maxHeartbeats 2000000 in
theorem rsame_spec (A B : List Df) (dv1 dv2 : Value) (V1 V2 : Nat → Value) (w0 : World) (hA : DefR w0 A dv1 V1) (hB : DefR w0 B dv2 V2) (hAl : A.length ≤ 4611686018427387904) (hAt : ∀ d ∈ A, d.ty.length ≤ 4611686018427387904) : Ca Tryd.prog 12 #[.agg #[dv1], .agg #[dv2]] w0 (fun v w' => v = .bool (decide (A.map bareD = B.map bareD)) ∧ Ext w0 w') := by
  refine Ca.of Tryd.func12 Tryd.ntmps12 rfl rfl ?_
  refine W.seq ?_
  refine W.region ?_
  refine WL.c rfl (o_boxB rfl ?_)
  intro w2 hC2 hx2 hs2
  obtain ⟨b2, hb2⟩ : ∃ b, b = w0.heap.size := ⟨_, rfl⟩
  rw [← hb2] at hC2 ⊢
  replace hC2 : w2.heap[b2]? = some (.cells ([dv1]).toArray 24 (0, 0)) := hC2
  have hx := hx2
  replace hA := hA.ext hx2
  replace hB := hB.ext hx2
  refine WL.c rfl (o_boxB rfl ?_)
  intro w3 hC3 hx3 hs3
  obtain ⟨b3, hb3⟩ : ∃ b, b = w2.heap.size := ⟨_, rfl⟩
  rw [← hb3] at hC3 ⊢
  replace hC3 : w3.heap[b3]? = some (.cells ([dv2]).toArray 24 (0, 0)) := hC3
  replace hx := hx.tr hx3
  replace hC2 := hx3.blk hC2 (fun h => h)
  replace hA := hA.ext hx3
  replace hB := hB.ext hx3
  refine WL.c rfl (o_ash (show _ = Value.bool _ from rfl) ?_)
  refine WL.nil ?_
  refine W.seq ?_
  refine W.seq ?_
  refine W.region ?_
  refine WL.c rfl (o_fa 0 TI24 rfl TI22 rfl rfl ?_)
  refine WL.c rfl (o_ld TI22 rfl rfl (cell_of hC2 rfl) ?_)
  refine WL.c rfl (o_lenR TI22 rfl hA.row ?_)
  refine WL.c rfl (o_fa 0 TI24 rfl TI22 rfl rfl ?_)
  refine WL.c rfl (o_ld TI22 rfl rfl (cell_of hC3 rfl) ?_)
  refine WL.c rfl (o_lenR TI22 rfl hB.row ?_)
  refine WL.c rfl (o_ne rfl rfl ?_)
  refine WL.nil ?_
  refine W.cond rfl (fun c16 => ?_) (fun c16 => ?_)
  · try simp only [decide_eq_true_eq, decide_eq_false_iff_not, Bool.not_eq_true', Bool.not_eq_false', Bool.and_eq_true, Bool.or_eq_true, Bool.and_eq_false_iff, Bool.or_eq_false_iff] at c16
    have hn : ¬ A.length = B.length := by omega
    refine W.seq ?_
    refine W.region ?_
    refine WL.c rfl (o_ash (show _ = Value.bool _ from rfl) ?_)
    refine WL.nil ?_
    refine W.ret ?_
    refine ret1v rfl (show _ = Value.bool _ from rfl) ?_
    exact ⟨congrArg Value.bool (decide_eq_false (fun h => hn (by have := congrArg List.length h; simpa using this))).symm, hx⟩
  · try simp only [decide_eq_true_eq, decide_eq_false_iff_not, Bool.not_eq_true', Bool.not_eq_false', Bool.and_eq_true, Bool.or_eq_true, Bool.and_eq_false_iff, Bool.or_eq_false_iff] at c16
    have hn : A.length = B.length := by omega
    refine W.skip ?_
    refine W.seq ?_
    refine W.seq ?_
    refine W.region ?_
    refine WL.c rfl (o_ash (show _ = Value.int _ _ from rfl) ?_)
    refine WL.nil ?_
    refine W.block ?_
    refine W.loop (fun e w => ∃ k : Nat, k ≤ A.length ∧ e 2 = .pointer (some ⟨b2, 0, none⟩) ∧ e 3 = .pointer (some ⟨b3, 0, none⟩) ∧ e 5 = .int .i64 (k : Int) ∧ w.heap[b2]? = some (.cells #[dv1] 24 (0, 0)) ∧ w.heap[b3]? = some (.cells #[dv2] 24 (0, 0)) ∧ DefR w A dv1 V1 ∧ DefR w B dv2 V2 ∧ decide (A.map bareD = B.map bareD) = decide ((A.drop k).map bareD = (B.drop k).map bareD) ∧ Ext w0 w) (fun e w => A.length - (intOf (e 5)).toNat) ?_ ?_
    · exact ⟨0, Nat.zero_le _, rfl, rfl, rfl, hC2, hC3, hA, hB, rfl, hx⟩
    rintro e w ⟨k, hk, h2, h3, h5, hC2, hC3, hA, hB, hres, hx⟩
    have hm5 := h5
    refine W.seq ?_
    refine W.seq ?_
    refine W.region ?_
    refine WL.c rfl (o_mvh h5 ?_)
    refine WL.c rfl (o_fa 0 TI24 rfl TI22 rfl h2 ?_)
    refine WL.c rfl (o_ld TI22 rfl rfl (cell_of hC2 rfl) ?_)
    refine WL.c rfl (o_lenR TI22 rfl hA.row ?_)
    refine WL.c rfl (o_lt rfl rfl ?_)
    refine WL.nil ?_
    refine W.cond rfl (fun c21 => ?_) (fun c21 => ?_)
    · try simp only [decide_eq_true_eq, decide_eq_false_iff_not, Bool.not_eq_true', Bool.not_eq_false', Bool.and_eq_true, Bool.or_eq_true, Bool.and_eq_false_iff, Bool.or_eq_false_iff] at c21
      have hk1 : k < A.length := by omega
      have hk2 : k < B.length := by omega
      have hAk := hAt _ (List.getElem_mem hk1)
      obtain ⟨tb, to_, tc, rfl, htc, hty⟩ := hA.atk hk1
      obtain ⟨tb2, to2, tc2, rfl, htc2, hty2⟩ := hB.atk hk2
      have hde := drop_map bareD hk1 hk2
      rw [bareD_iff] at hde
      refine W.skip ?_
      refine W.seq ?_
      refine W.block ?_
      refine W.seq ?_
      refine W.region ?_
      refine WL.c rfl (o_fa 0 TI24 rfl TI22 rfl h2 ?_)
      refine WL.c rfl (o_ld TI22 rfl rfl (cell_of hC2 rfl) ?_)
      refine WL.c rfl (o_mvh h5 ?_)
      refine WL.c rfl (o_ixB TI22 TI34 rfl rfl (by omega) ?_)
      refine WL.c rfl (o_ldA TI34 rfl rfl htc rfl ?_)
      refine WL.c rfl (o_alB TI34 ?_)
      intro wa hCa hxa hsa
      refine WL.u (o_stA TI34 rfl (show _ = Value.agg (dcell A[k] (V1 k)).toArray from rfl) rfl (by simp only [dcell, List.toArray, Array.toList, List.all_cons, List.all_nil, sl_one1 hty]; rfl) hCa rfl ?_)
      intro wb6 hC6 hob hsb
      have hxb := Ext.own hxa (Nat.le_refl _) hob
      obtain ⟨b6, hb6⟩ : ∃ b, b = w.heap.size := ⟨_, rfl⟩
      rw [← hb6] at hC6 ⊢
      clear hCa hxa hsa hob hsb
      replace hx := hx.tr hxb
      replace hA := hA.ext hxb
      replace hB := hB.ext hxb
      replace hC2 := hxb.blk hC2 (fun h => h)
      replace hC3 := hxb.blk hC3 (fun h => h)
      replace hty := hty.ext hxb
      replace hty2 := hty2.ext hxb
      replace htc2 := Cells.only htc2 hxb (fun h => h)
      clear hxb
      refine WL.nil ?_
      refine W.seq ?_
      refine W.region ?_
      refine WL.c rfl (o_fa 0 TI24 rfl TI22 rfl h3 ?_)
      refine WL.c rfl (o_ld TI22 rfl rfl (cell_of hC3 rfl) ?_)
      refine WL.c rfl (o_mvh h5 ?_)
      refine WL.c rfl (o_ixB TI22 TI34 rfl rfl (by omega) ?_)
      refine WL.c rfl (o_ldA TI34 rfl rfl htc2 rfl ?_)
      refine WL.c rfl (o_alB TI34 ?_)
      intro wa hCa hxa hsa
      refine WL.u (o_stA TI34 rfl (show _ = Value.agg (dcell B[k] (V2 k)).toArray from rfl) rfl (by simp only [dcell, List.toArray, Array.toList, List.all_cons, List.all_nil, sl_one1 hty2]; rfl) hCa rfl ?_)
      intro wb7 hC7 hob hsb
      have hxb := Ext.own hxa (Nat.le_refl _) hob
      obtain ⟨b7, hb7⟩ : ∃ b, b = wb6.heap.size := ⟨_, rfl⟩
      rw [← hb7] at hC7 ⊢
      clear hCa hxa hsa hob hsb
      replace hx := hx.tr hxb
      replace hA := hA.ext hxb
      replace hB := hB.ext hxb
      replace hC2 := hxb.blk hC2 (fun h => h)
      replace hC3 := hxb.blk hC3 (fun h => h)
      replace hC6 := hxb.blk hC6 (fun h => h)
      replace hty := hty.ext hxb
      replace hty2 := hty2.ext hxb
      clear hxb
      refine WL.nil ?_
      refine W.seq ?_
      refine W.seq ?_
      refine W.region ?_
      refine WL.cut (fun e1 w1 => e1 2 = .pointer (some ⟨b2, 0, none⟩) ∧ e1 3 = .pointer (some ⟨b3, 0, none⟩) ∧ e1 5 = .int .i64 (k : Int) ∧ e1 6 = .pointer (some ⟨b6, 0, none⟩) ∧ e1 7 = .pointer (some ⟨b7, 0, none⟩) ∧ e1 47 = .bool (!(decide (A[k].name = B[k].name) && decide (A[k].ty.length = B[k].ty.length))) ∧ w1 = wb7) ?_ ?_
      · -- region 8
        refine WL.c rfl (o_fa 0 TI34 rfl TI9 rfl rfl ?_)
        refine WL.c rfl (o_ld TI9 rfl rfl (cell_of hC6 rfl) ?_)
        refine WL.c rfl (o_fa 0 TI34 rfl TI9 rfl rfl ?_)
        refine WL.c rfl (o_ld TI9 rfl rfl (cell_of hC7 rfl) ?_)
        refine WL.c rfl (o_neT rfl rfl ?_)
        refine WL.c rfl (o_mvh (show _ = Value.bool _ from rfl) ?_)
        refine WL.sp 5 rfl (fun g39 => ?_) (fun g39 => ?_)
        · skip
          refine WL.s rfl (g39) rfl ?_
          refine WL.s rfl (g39) rfl ?_
          refine WL.s rfl (g39) rfl ?_
          refine WL.s rfl (g39) rfl ?_
          refine WL.s rfl (g39) rfl ?_
          refine WL.s rfl (g39) rfl ?_
          refine WL.s rfl (g39) rfl ?_
          refine WL.c rfl (o_pickT rfl (g39) ?_)
          exact WL.nil (⟨h2, h3, h5, rfl, rfl, congrArg Value.bool (by clear hde hres; (try rw [show decide ((A[k].ty.length : Int) = (B[k].ty.length : Int)) = decide (A[k].ty.length = B[k].ty.length) from dec_iff (by omega)]); generalize decide (A[k].name = B[k].name) = x at *; revert g39; cases x <;> simp), rfl⟩)
        · skip
          refine WL.g rfl (g39) rfl (o_fa 2 TI34 rfl TI32 rfl rfl ?_)
          refine WL.g rfl (g39) rfl (o_ld TI32 rfl rfl (cell_of hC6 rfl) ?_)
          refine WL.g rfl (g39) rfl (o_lenR TI32 rfl hty ?_)
          refine WL.g rfl (g39) rfl (o_fa 2 TI34 rfl TI32 rfl rfl ?_)
          refine WL.g rfl (g39) rfl (o_ld TI32 rfl rfl (cell_of hC7 rfl) ?_)
          refine WL.g rfl (g39) rfl (o_lenR TI32 rfl hty2 ?_)
          refine WL.g rfl (g39) rfl (o_ne rfl rfl ?_)
          refine WL.c rfl (o_pickO rfl rfl ?_)
          exact WL.nil (⟨h2, h3, h5, rfl, rfl, congrArg Value.bool (by clear hde hres; (try rw [show decide ((A[k].ty.length : Int) = (B[k].ty.length : Int)) = decide (A[k].ty.length = B[k].ty.length) from dec_iff (by omega)]); generalize decide (A[k].name = B[k].name) = x at *; revert g39; cases x <;> simp), rfl⟩)
      rintro e w ⟨h2, h3, h5, h6, h7, h47, rfl⟩
      refine W.cond h47 (fun c47 => ?_) (fun c47 => ?_)
      · try simp only [decide_eq_true_eq, decide_eq_false_iff_not, Bool.not_eq_true', Bool.not_eq_false', Bool.and_eq_true, Bool.or_eq_true, Bool.and_eq_false_iff, Bool.or_eq_false_iff] at c47
        refine W.seq ?_
        refine W.region ?_
        refine WL.c rfl (o_ash (show _ = Value.bool _ from rfl) ?_)
        refine WL.nil ?_
        refine W.ret ?_
        refine ret1v rfl (show _ = Value.bool _ from rfl) ?_
        exact ⟨congrArg Value.bool (by rw [hres]; exact (decide_eq_false (fun h => by obtain ⟨⟨a1, a2⟩, -⟩ := hde.1 h; have a3 := congrArg List.length a2; simp only [List.length_map] at a3; simp [a1, a3] at c47)).symm), hx⟩
      · try simp only [decide_eq_true_eq, decide_eq_false_iff_not, Bool.not_eq_true', Bool.not_eq_false', Bool.and_eq_true, Bool.or_eq_true, Bool.and_eq_false_iff, Bool.or_eq_false_iff] at c47
        have hq : A[k].name = B[k].name ∧ A[k].ty.length = B[k].ty.length := by simpa using c47
        obtain ⟨q1, q3⟩ := hq
        have hres2 : decide (A.map bareD = B.map bareD) = decide ((A[k].ty.drop 0).map bareE = (B[k].ty.drop 0).map bareE ∧ (A.drop (k + 1)).map bareD = (B.drop (k + 1)).map bareD) := by rw [hres]; exact dec_iff (hde.trans (by simp [q1]))
        refine W.skip ?_
        refine W.seq ?_
        refine W.region ?_
        refine WL.c rfl (o_ash (show _ = Value.int _ _ from rfl) ?_)
        refine WL.nil ?_
        refine W.block ?_
        refine W.loop (fun e w => ∃ j : Nat, j ≤ A[k].ty.length ∧ e 2 = .pointer (some ⟨b2, 0, none⟩) ∧ e 3 = .pointer (some ⟨b3, 0, none⟩) ∧ e 5 = .int .i64 (k : Int) ∧ e 6 = .pointer (some ⟨b6, 0, none⟩) ∧ e 7 = .pointer (some ⟨b7, 0, none⟩) ∧ e 8 = .int .i64 (j : Int) ∧ w.heap[b2]? = some (.cells #[(Value.slice (some ⟨tb, to_, none⟩) A.length tc)] 24 (0, 0)) ∧ w.heap[b3]? = some (.cells #[(Value.slice (some ⟨tb2, to2, none⟩) B.length tc2)] 24 (0, 0)) ∧ DefR w A (Value.slice (some ⟨tb, to_, none⟩) A.length tc) V1 ∧ DefR w B (Value.slice (some ⟨tb2, to2, none⟩) B.length tc2) V2 ∧ w.heap[b6]? = some (.cells (dcell A[k] (V1 k)).toArray 34 (0, 0)) ∧ w.heap[b7]? = some (.cells (dcell B[k] (V2 k)).toArray 34 (0, 0)) ∧ Sl w 7 (V1 k) A[k].ty.length (exs A[k].ty) ∧ Sl w 7 (V2 k) B[k].ty.length (exs B[k].ty) ∧ decide (A.map bareD = B.map bareD) = decide ((A[k].ty.drop j).map bareE = (B[k].ty.drop j).map bareE ∧ (A.drop (k + 1)).map bareD = (B.drop (k + 1)).map bareD) ∧ Ext w0 w) (fun e w => A[k].ty.length - (intOf (e 8)).toNat) ?_ ?_
        · exact ⟨0, Nat.zero_le _, h2, h3, h5, h6, h7, rfl, hC2, hC3, hA, hB, hC6, hC7, hty, hty2, hres2, hx⟩
        rintro e w ⟨j, hj, h2, h3, h5, h6, h7, h8, hC2, hC3, hA, hB, hC6, hC7, hty, hty2, hres2, hx⟩
        have hm8 := h8
        refine W.seq ?_
        refine W.seq ?_
        refine W.region ?_
        refine WL.c rfl (o_mvh h8 ?_)
        refine WL.c rfl (o_fa 2 TI34 rfl TI32 rfl h6 ?_)
        refine WL.c rfl (o_ld TI32 rfl rfl (cell_of hC6 rfl) ?_)
        refine WL.c rfl (o_lenR TI32 rfl hty ?_)
        refine WL.c rfl (o_lt rfl rfl ?_)
        refine WL.nil ?_
        refine W.cond rfl (fun c52 => ?_) (fun c52 => ?_)
        · try simp only [decide_eq_true_eq, decide_eq_false_iff_not, Bool.not_eq_true', Bool.not_eq_false', Bool.and_eq_true, Bool.or_eq_true, Bool.and_eq_false_iff, Bool.or_eq_false_iff] at c52
          have hj1 : j < A[k].ty.length := by omega
          have hj2 : j < B[k].ty.length := by omega
          have hdj := drop_map bareE hj1 hj2
          obtain ⟨ub, uo, uc, hV1, huc⟩ := Sl.exq hty hj1
          obtain ⟨ub2, uo2, uc2, hV2, huc2⟩ := Sl.exq hty2 hj2
          refine W.skip ?_
          refine W.seq ?_
          refine W.block ?_
          refine W.seq ?_
          refine W.region ?_
          refine WL.c rfl (o_fa 2 TI34 rfl TI32 rfl h6 ?_)
          refine WL.c rfl (o_ld TI32 rfl rfl (cell_of hC6 rfl) ?_)
          refine WL.c rfl (o_mvh h8 ?_)
          refine WL.c rfl (o_ixB (i := j) TI32 TI36 (show _ = _ from hV1) rfl (by omega) ?_)
          refine WL.c rfl (o_ldA TI36 rfl rfl huc rfl ?_)
          refine WL.c rfl (o_alB TI36 ?_)
          intro wa hCa hxa hsa
          refine WL.u (o_stA TI36 rfl (show _ = Value.agg (exV A[k].ty[j]).toArray from rfl) rfl rfl hCa rfl ?_)
          intro wb9 hC9 hob hsb
          have hxb := Ext.own hxa (Nat.le_refl _) hob
          obtain ⟨b9, hb9⟩ : ∃ b, b = w.heap.size := ⟨_, rfl⟩
          rw [← hb9] at hC9 ⊢
          clear hCa hxa hsa hob hsb
          have hxw := hxb
          have hA0 := hA
          have hB0 := hB
          have hty0 := hty
          have hty20 := hty2
          have huc20 := huc2
          have hwz := hxw.size
          have hl2 := (Array.getElem?_eq_some_iff.1 hC2).1
          have hl3 := (Array.getElem?_eq_some_iff.1 hC3).1
          have hl6 := (Array.getElem?_eq_some_iff.1 hC6).1
          have hl7 := (Array.getElem?_eq_some_iff.1 hC7).1
          have hz0 := hx.size
          replace hx := hx.tr hxb
          replace hC2 := hxb.blk hC2 (fun h => h)
          replace hC3 := hxb.blk hC3 (fun h => h)
          replace hC6 := hxb.blk hC6 (fun h => h)
          replace hC7 := hxb.blk hC7 (fun h => h)
          replace hA := hA.ext hxb
          replace hB := hB.ext hxb
          replace hty := hty.ext hxb
          replace hty2 := hty2.ext hxb
          replace huc2 := Cells.only huc2 hxb (fun h => h)
          clear hxb
          refine WL.nil ?_
          refine W.seq ?_
          refine W.region ?_
          refine WL.c rfl (o_fa 2 TI34 rfl TI32 rfl h7 ?_)
          refine WL.c rfl (o_ld TI32 rfl rfl (cell_of hC7 rfl) ?_)
          refine WL.c rfl (o_mvh h8 ?_)
          refine WL.c rfl (o_ixB (i := j) TI32 TI36 (show _ = _ from hV2) rfl (by omega) ?_)
          refine WL.c rfl (o_fa 6 TI36 rfl TI3 rfl rfl ?_)
          refine WL.c rfl (o_ld TI3 rfl rfl (huc2 6 _ rfl) ?_)
          refine WL.c rfl (o_fa 6 TI36 rfl TI3 rfl rfl ?_)
          refine WL.u (o_stB TI3 rfl (show _ = Value.int .i64 B[k].ty[j].at_ from rfl) rfl hC9 (show 6 < 7 by decide) ?_)
          intro w66 hB66 ho66 hs66
          replace hC9 : w66.heap[b9]? = some (.cells (exV { A[k].ty[j] with at_ := B[k].ty[j].at_ }).toArray 36 (0, 0)) := hB66
          have hxo : Ext w0 w66 := hx.trans' ho66 (fun _ h => h) (fun q hq he => by omega)
          have hxq : Only (fun q => q = b9) wb9 w66 := ho66
          replace hC2 := ho66.blk hC2 (by omega)
          replace hC3 := ho66.blk hC3 (by omega)
          replace hC6 := ho66.blk hC6 (by omega)
          replace hC7 := ho66.blk hC7 (by omega)
          have hq9 : ∀ q, q < w.heap.size → ¬ q = b9 := fun q hq he => by omega
          have hww : Only (fun q => q = b9) w w66 := (hxw.mono (fun _ _ h => h.elim)).trans ho66
          replace hA := hA0.only2 hww hq9
          replace hB := hB0.only2 hww hq9
          replace hty := Sl.only2 hty0 hww hq9
          replace hty2 := Sl.only2 hty20 hww hq9
          have hb29 : ub2 < w.heap.size := by have := huc20 0 _ rfl; exact cell_lt this
          replace huc2 : Cells w66 ub2 (uo2 + j * 7) (exV B[k].ty[j]) := Cells.only huc20 hww (by omega)
          replace hx := hxo
          refine WL.nil ?_
          refine W.seq ?_
          refine W.quiet rfl (by kernel_rfl) ?_
          refine WQ.c rfl ((QO.o rfl fun _ => o_ldA TI36 rfl rfl (show Cells _ b9 0 (exV { A[k].ty[j] with at_ := B[k].ty[j].at_ }) from Cells.of hC9 0 _ (by simp)) rfl ⟨rfl, rfl⟩)) ?_
          refine WQ.c rfl ((QO.o rfl fun _ => o_fa 2 TI34 rfl TI32 rfl h7 ⟨rfl, rfl⟩)) ?_
          refine WQ.c rfl ((QO.o rfl fun _ => o_ld TI32 rfl rfl (cell_of hC7 rfl) ⟨rfl, rfl⟩)) ?_
          refine WQ.c rfl ((QO.o rfl fun _ => o_mvh h8 ⟨rfl, rfl⟩)) ?_
          refine WQ.c rfl ((QO.o rfl fun _ => o_ixB (i := j) TI32 TI36 (show _ = _ from hV2) rfl (by omega) ⟨rfl, rfl⟩)) ?_
          refine WQ.c rfl ((QO.o rfl fun _ => o_ldA TI36 rfl rfl huc2 rfl ⟨rfl, rfl⟩)) ?_
          refine WQ.c rfl ((QO.o rfl fun _ => o_neR TI36 (by kernel_rfl) (by kernel_rfl) rfl rfl (.int TI3 (by decide) rfl rfl (.int TI3 (by decide) rfl rfl (.str TI9 (by decide) rfl rfl (.str TI9 (by decide) rfl rfl (.int TI3 (by decide) rfl rfl (.int TI3 (by decide) rfl rfl (.int TI3 (by decide) rfl rfl .nil))))))) ⟨rfl, rfl⟩)) ?_
          refine WQ.nil ?_
          intro nq
          replace hx := hx.tr (Only.drewN w66 nq)
          replace hC2 := (Only.drewN w66 nq).blk hC2 (fun h => h)
          replace hC3 := (Only.drewN w66 nq).blk hC3 (fun h => h)
          replace hC6 := (Only.drewN w66 nq).blk hC6 (fun h => h)
          replace hC7 := (Only.drewN w66 nq).blk hC7 (fun h => h)
          replace hA := hA.ext (Only.drewN w66 nq)
          replace hB := hB.ext (Only.drewN w66 nq)
          replace hty := hty.ext (Only.drewN w66 nq)
          replace hty2 := hty2.ext (Only.drewN w66 nq)
          refine W.cond rfl (fun c73 => ?_) (fun c73 => ?_)
          · try simp only [decide_eq_true_eq, decide_eq_false_iff_not, Bool.not_eq_true', Bool.not_eq_false', Bool.and_eq_true, Bool.or_eq_true, Bool.and_eq_false_iff, Bool.or_eq_false_iff] at c73
            refine W.seq ?_
            refine W.region ?_
            refine WL.c rfl (o_ash (show _ = Value.bool _ from rfl) ?_)
            refine WL.nil ?_
            refine W.ret ?_
            refine ret1v rfl (show _ = Value.bool _ from rfl) ?_
            exact ⟨congrArg Value.bool (by rw [hres2]; exact (decide_eq_false (fun h => by have he := bareE_iff.1 (hdj.1 h.1).1; obtain ⟨a1, a2, a3, a4, a5, a6⟩ := he; simp [a1, a2, a3, a4, a5, a6] at c73)).symm), hx⟩
          · try simp only [decide_eq_true_eq, decide_eq_false_iff_not, Bool.not_eq_true', Bool.not_eq_false', Bool.and_eq_true, Bool.or_eq_true, Bool.and_eq_false_iff, Bool.or_eq_false_iff] at c73
            have heq : bareE A[k].ty[j] = bareE B[k].ty[j] := by simp at c73; obtain ⟨a1, a2, a3, a4, a5, a6⟩ := c73; exact bareE_iff.2 ⟨a1, a2, a3, a4, a5, a6⟩
            refine W.skip ?_
            refine W.region ?_
            refine WL.c rfl (o_mvh h8 ?_)
            refine WL.c rfl (o_addi rfl rfl (by omega) ?_)
            refine WL.c rfl (o_ash (show _ = Value.int _ _ from rfl) ?_)
            refine WL.nil ?_
            refine ⟨⟨j + 1, by omega, h2, h3, h5, h6, h7, rfl, hC2, hC3, hA, hB, hC6, hC7, hty, hty2, ?_, hx⟩, ?_⟩
            · rw [hres2]; exact dec_iff (by rw [hdj, and_assoc]; exact ⟨fun h => h.2, fun h => ⟨heq, h⟩⟩)
            · show A[k].ty.length - ((j : Int) + 1).toNat < _
              rw [hm8]; simp [intOf]; omega
        · try simp only [decide_eq_true_eq, decide_eq_false_iff_not, Bool.not_eq_true', Bool.not_eq_false', Bool.and_eq_true, Bool.or_eq_true, Bool.and_eq_false_iff, Bool.or_eq_false_iff] at c52
          have hj1 : j = A[k].ty.length := by omega
          have hjl : A[k].ty.drop j = [] := by rw [hj1, List.drop_length]
          have hjl2 : B[k].ty.drop j = [] := by rw [hj1, q3, List.drop_length]
          refine W.exit ?_
          refine W.region ?_
          refine WL.c rfl (o_mvh h5 ?_)
          refine WL.c rfl (o_addi rfl rfl (by omega) ?_)
          refine WL.c rfl (o_ash (show _ = Value.int _ _ from rfl) ?_)
          refine WL.nil ?_
          refine ⟨⟨k + 1, by omega, h2, h3, rfl, hC2, hC3, hA, hB, ?_, hx⟩, ?_⟩
          · rw [hres2]; exact dec_iff (by rw [hjl, hjl2]; simp)
          · show A.length - ((k : Int) + 1).toNat < _
            rw [hm5]; simp [intOf]; omega
    · try simp only [decide_eq_true_eq, decide_eq_false_iff_not, Bool.not_eq_true', Bool.not_eq_false', Bool.and_eq_true, Bool.or_eq_true, Bool.and_eq_false_iff, Bool.or_eq_false_iff] at c21
      have hk1 : k = A.length := by omega
      rw [hk1, List.drop_length, hn, List.drop_length] at hres
      refine W.exit ?_
      refine W.seq ?_
      refine W.region ?_
      refine WL.c rfl (o_ash (show _ = Value.bool _ from rfl) ?_)
      refine WL.nil ?_
      refine W.ret ?_
      refine ret1v rfl (show _ = Value.bool _ from rfl) ?_
      exact ⟨congrArg Value.bool (by rw [hres]; simp), hx⟩
end Go.Proofs.YtanimeifmicmoaaDoor

set_option linter.unusedSimpArgs false
set_option linter.unusedVariables false
set_option maxRecDepth 100000
namespace Go.Proofs.YtanimeifmicmoaaDoor
open Go Go.Vc Go.RowKit Go.Proofs

def e1A : Ex := ⟨5, 3, [], [], 0, 1, 0⟩
def e2A : Ex := ⟨1, 2, [], [], 0, 0, 0⟩
def tA : Tr := .node e1A (.cons (.node e2A .nil) .nil)
def dA : List Df := [⟨[97], 0, [e1A, e2A]⟩]
def lA : List DefT := [([97], tA)]
theorem ckA : (chkS dA).2.2 = 0 := by decide +kernel
theorem wsA : ∀ q ∈ lA, DefW q := by
  intro q hq
  simp only [lA, List.mem_cons, List.not_mem_nil, or_false] at hq
  subst hq
  refine ⟨by decide +kernel, ?_⟩
  simp only [tA, Tr.wf, Trs.wf, Trs.len]
  refine ⟨by decide, by decide +kernel, by decide +kernel, rfl, ⟨by decide, by decide +kernel, by decide +kernel, rfl, trivial⟩, trivial⟩
theorem mpA : dA.map (fun d => (d.name, d.ty)) = lA.map (fun q => (q.1, q.2.flat)) := rfl
theorem shA : shDefs lA = [116, 121, 112, 101, 32, 97, 61, 108, 105, 115, 116, 60, 117, 49, 54, 44, 51, 62, 59] := by
  have h3 : digL 3 = [51] := by rw [digL_lt (by decide)]; rfl
  have h16 : digL 16 = [49, 54] := by rw [digL_ge (by decide), digL_lt (by decide)]; rfl
  simp [shDefs, shDef, lA, tA, Tr.sh, Trs.shK, e1A, e2A, h3, h16]
theorem limA : DLim dA := by
  intro d hd
  simp only [dA, List.mem_cons, List.not_mem_nil, or_false] at hd
  subst hd
  refine ⟨by decide, by decide, fun x hx => ?_⟩
  simp only [List.mem_cons, List.not_mem_nil, or_false] at hx
  rcases hx with rfl | rfl <;> exact ⟨by decide, by decide⟩

set_option maxHeartbeats 1000000 in
theorem awake_spec (w0 : World) (hT : Tab w0) (h1H : 1 < w0.heap.size) : Ca Tryd.prog 7 #[] w0 (fun v w' => v = .bool true ∧ Ext w0 w') := by
  refine Ca.of Tryd.func7 Tryd.ntmps7 rfl rfl ?_
  refine W.seq ?_
  refine W.region ?_
  refine WL.c rfl (o_ash (show _ = Value.bool _ from rfl) ?_)
  refine WL.nil ?_
  refine W.seq ?_
  refine W.region ?_
  refine WL.c rfl (o_bldC (cs := [(.int .i64 5), (.int .i64 3), (.string ⟨#[]⟩), (.string ⟨#[]⟩), (.int .i64 0), (.int .i64 1), (.int .i64 0)]) TI36 (Sizes.cons TI3 (Sizes.cons TI3 (Sizes.cons TI9 (Sizes.cons TI9 (Sizes.cons TI3 (Sizes.cons TI3 (Sizes.cons TI3 Sizes.nil))))))) rfl (lcp (show _ = Value.int _ _ from rfl) (lcp (show _ = Value.int _ _ from rfl) (lcp (show _ = Value.int _ _ from rfl) lnp))) rfl rfl ?_)
  refine WL.c rfl (o_bldC (cs := [(.int .i64 1), (.int .i64 2), (.string ⟨#[]⟩), (.string ⟨#[]⟩), (.int .i64 0), (.int .i64 0), (.int .i64 0)]) TI36 (Sizes.cons TI3 (Sizes.cons TI3 (Sizes.cons TI9 (Sizes.cons TI9 (Sizes.cons TI3 (Sizes.cons TI3 (Sizes.cons TI3 Sizes.nil))))))) rfl (lcp (show _ = Value.int _ _ from rfl) (lcp (show _ = Value.int _ _ from rfl) lnp)) rfl rfl ?_)
  refine WL.c rfl (o_bs (cells := (exs [e1A, e2A]).toArray) TI32 TI36 (by simp) (by kernel_rfl) (by simp) ?_)
  have hB6 := heap_alloc_new w0 (.cells (exs [e1A, e2A]).toArray 36)
  have hx := Only.alloc w0 (.cells (exs [e1A, e2A]).toArray 36)
  generalize w0.alloc (.cells (exs [e1A, e2A]).toArray 36) = w6 at hB6 hx ⊢
  obtain ⟨b6, hb6⟩ : ∃ b, b = w0.heap.size := ⟨_, rfl⟩
  rw [← hb6] at hB6 ⊢
  refine WL.c rfl (o_bldC (cs := [(st [97]), (.int .i64 0), _]) TI34 (Sizes.cons TI9 (Sizes.cons TI3 (Sizes.cons TI32 Sizes.nil))) rfl (lcp (show _ = Value.string _ from rfl) (lcp (show _ = Value.slice _ _ _ from rfl) lnp)) rfl rfl ?_)
  refine WL.c rfl (o_bs1 (v := Value.agg #[st [97], .int .i64 0, .slice (some ⟨b6, 0, none⟩) 2 2]) TI22 TI34 (show _ = Value.agg #[st [97], .int .i64 0, .slice (some ⟨b6, 0, none⟩) 2 2] from rfl) (by decide) (by decide) rfl ?_)
  have hB8 : (w6.alloc (.cells (Value.agg #[st [97], .int .i64 0, .slice (some ⟨b6, 0, none⟩) 2 2]).cells 34)).heap[w6.heap.size]? = some (.cells (dcell ⟨[97], 0, [e1A, e2A]⟩ (.slice (some ⟨b6, 0, none⟩) 2 2)).toArray 34 (0, 0)) := heap_alloc_new w6 _
  have hx8 := Only.alloc w6 (.cells (Value.agg #[st [97], .int .i64 0, .slice (some ⟨b6, 0, none⟩) 2 2]).cells 34)
  generalize w6.alloc (.cells (Value.agg #[st [97], .int .i64 0, .slice (some ⟨b6, 0, none⟩) 2 2]).cells 34) = w8 at hB8 hx8 ⊢
  obtain ⟨b8, hb8⟩ : ∃ b, b = w6.heap.size := ⟨_, rfl⟩
  rw [← hb8] at hB8 ⊢
  replace hx := hx.tr hx8
  replace hB6 := hx8.blk hB6 (fun h => h)
  have hD : DefR w8 dA (.slice (some ⟨b8, 0, none⟩) 1 1) (fun _ => .slice (some ⟨b6, 0, none⟩) 2 2) := ⟨⟨rfl, .inr ⟨b8, 0, 1, rfl, Nat.le_refl _, Cells.of hB8 0 _ (fun i v h => by
      have h0 : drows dA (fun _ => Value.slice (some ⟨b6, 0, none⟩) 2 2) = dcell ⟨[97], 0, [e1A, e2A]⟩ (.slice (some ⟨b6, 0, none⟩) 2 2) := rfl
      rw [h0] at h
      simpa using h)⟩⟩, fun j hj => by
    have hj0 : j = 0 := by simp [dA] at hj; omega
    subst hj0
    exact ⟨rfl, .inr ⟨b6, 0, 2, rfl, Nat.le_refl _, Cells.of hB6 0 _ (fun i v h => by
      have h0 : tyD dA 0 = [e1A, e2A] := rfl
      rw [h0] at h
      simpa using h)⟩⟩⟩
  refine WL.c rfl (o_bldC (cs := [_]) TI24 (Sizes.cons TI22 Sizes.nil) rfl (lcp (show _ = Value.slice _ _ _ from rfl) lnp) rfl rfl ?_)
  refine WL.c rfl (o_alB TI24 ?_)
  intro wa hCa hxa hsa
  refine WL.u (o_stA TI24 rfl (show _ = Value.agg #[.slice (some ⟨b8, 0, none⟩) 1 1] from rfl) rfl rfl hCa rfl ?_)
  intro wb hC1 hob hsb
  have hxb := Ext.own hxa (Nat.le_refl _) hob
  obtain ⟨b1, hb1⟩ : ∃ b, b = w8.heap.size := ⟨_, rfl⟩
  rw [← hb1] at hC1 ⊢
  clear hCa hxa hsa hob hsb
  replace hx := hx.tr hxb
  replace hD := hD.ext hxb
  have hxz := hx.size
  refine WL.nil ?_
  refine W.seq ?_
  refine W.region ?_
  refine WL.c rfl (o_ldA TI24 rfl rfl (show Cells _ b1 0 [.slice (some ⟨b8, 0, none⟩) 1 1] from Cells.of hC1 0 _ (by simp)) rfl ?_)
  refine WL.c rfl (o_call Tryd.call9 (lc rfl ln) ((print_spec dA _ _ _ hD limA (hT.ext hx) (by omega) ckA lA wsA mpA (by rw [shA]; decide)).mono ?_))
  rintro v12 w12 ⟨rfl, hx12⟩
  rw [shA, if_neg (by decide)]
  replace hx := hx.tr hx12
  replace hD := hD.ext hx12
  replace hC1 := hx12.blk hC1 (fun h => h)
  refine WL.c rfl (o_mvh (by first | exact (show _ = Value.tuple _ from rfl) | exact rfl) ?_)
  refine WL.c rfl (o_ext rfl rfl ?_)
  refine WL.c rfl (o_ext rfl rfl ?_)
  refine WL.c rfl (o_ash (show _ = Value.string _ from rfl) ?_)
  refine WL.c rfl (o_ash (show _ = Value.int _ _ from rfl) ?_)
  refine WL.nil ?_
  refine W.seq ?_
  refine W.region ?_
  refine WL.c rfl (o_mvh (show _ = Value.string _ from rfl) ?_)
  refine WL.c rfl (o_eqT rfl rfl ?_)
  refine WL.c rfl (o_mvh (show _ = Value.bool _ from rfl) ?_)
  refine WL.g rfl (by decide) rfl (o_mvh (show _ = Value.int _ _ from rfl) ?_)
  refine WL.g rfl (by decide) rfl (o_eq rfl rfl ?_)
  refine WL.c rfl (o_pickA rfl rfl ?_)
  refine WL.c rfl (o_mvh (show _ = Value.bool _ from rfl) ?_)
  refine WL.g rfl (by decide) rfl (o_ldA TI24 rfl rfl (show Cells _ b1 0 [.slice (some ⟨b8, 0, none⟩) 1 1] from Cells.of hC1 0 _ (by simp)) rfl ?_)
  refine WL.g rfl (by decide) rfl (o_ldA TI24 rfl rfl (show Cells _ b1 0 [.slice (some ⟨b8, 0, none⟩) 1 1] from Cells.of hC1 0 _ (by simp)) rfl ?_)
  refine WL.g rfl (by decide) rfl (o_call Tryd.call10 (lc rfl (lc rfl ln)) ((ssame_spec dA dA _ _ _ _ _ hD hD (by decide) (by decide)).mono ?_))
  rintro v24 w24 ⟨rfl, hx24⟩
  replace hx := hx.tr hx24
  replace hD := hD.ext hx24
  replace hC1 := hx24.blk hC1 (fun h => h)
  refine WL.c rfl (o_pickA rfl rfl ?_)
  refine WL.c rfl (o_mvh (show _ = Value.bool _ from rfl) ?_)
  refine WL.g rfl (by simp) rfl (o_ldA TI24 rfl rfl (show Cells _ b1 0 [.slice (some ⟨b8, 0, none⟩) 1 1] from Cells.of hC1 0 _ (by simp)) rfl ?_)
  refine WL.g rfl (by simp) rfl (o_bldC (cs := [(.slice none 0 0)]) TI24 (Sizes.cons TI22 Sizes.nil) rfl lnp rfl rfl ?_)
  refine WL.g rfl (by simp) rfl (o_call Tryd.call10 (lc rfl (lc rfl ln)) ((ssame_spec dA [] _ (.slice none 0 0) _ (fun _ => undef) _ hD ⟨Sl.nil _ _, fun j hj => by simp at hj⟩ (by decide) (by decide)).mono ?_))
  rintro v29 w29 ⟨rfl, hx29⟩
  replace hx := hx.tr hx29
  refine WL.g rfl (by simp) rfl (o_not' rfl ?_)
  refine WL.c rfl (o_pickA rfl rfl ?_)
  refine WL.c rfl (o_ash (show _ = Value.bool _ from rfl) ?_)
  refine WL.nil ?_
  refine W.ret ?_
  refine ret1v rfl (show _ = Value.bool _ from rfl) ?_
  exact ⟨by simp [dA], hx⟩
end Go.Proofs.YtanimeifmicmoaaDoor

set_option linter.unusedSimpArgs false
set_option linter.unusedVariables false
set_option maxRecDepth 100000
namespace Go.Proofs.YtanimeifmicmoaaDoor
open Go Go.Vc Go.RowKit Go.Proofs

theorem bare_plE (T : List Tk) (x : Ex) : bareE (plE T x) = bareE x := by unfold plE; split <;> rfl
mutual
theorem idx_bare {T : List Tk} : ∀ (t : Tr) (i a : Nat), ((t.idx i a).map (plE T)).map bareE = t.flat.map bareE
  | .node y ks, i, a => by
    simp only [Tr.idx, Tr.flat, List.map_cons, bare_plE]
    congr 1
    split
    · exact idxR_bare ks _
    · exact idxK_bare ks _
theorem idxK_bare {T : List Tk} : ∀ (ts : Trs) (i : Nat), ((ts.idxK i).map (plE T)).map bareE = ts.flat.map bareE
  | .nil, _ => rfl
  | .cons t ts, i => by simp only [Trs.idxK, Trs.flat, List.map_append]; rw [idx_bare t, idxK_bare ts]
theorem idxR_bare {T : List Tk} : ∀ (ts : Trs) (i : Nat), ((ts.idxR i).map (plE T)).map bareE = ts.flat.map bareE
  | .nil, _ => rfl
  | .cons t ts, i => by simp only [Trs.idxR, Trs.flat, List.map_append]; rw [idx_bare t, idxR_bare ts]
end
/-- two well-formed trees whose nodes are alike, places aside, print alike -/
theorem bareE_parts {a b : Ex} (h : bareE a = bareE b) : a.kind = b.kind ∧ a.n = b.n ∧ a.name = b.name ∧ a.label = b.label ∧ a.tag = b.tag ∧ a.kids = b.kids := bareE_iff.1 h
mutual
theorem sh_uniq : ∀ (t t2 : Tr) (a a2 : Int) (d d2 : Nat) (r r2 : List Ex), t.wf a d → t2.wf a2 d2 → t.flat.map bareE ++ r = t2.flat.map bareE ++ r2 → t.sh = t2.sh ∧ r = r2 ∧ bareE t.top = bareE t2.top
  | .node y ks, .node y2 ks2, a, a2, d, d2, r, r2, hw, hw2, h => by
    simp only [Tr.flat, List.map_cons, List.cons_append, List.cons.injEq] at h
    obtain ⟨h1, h2⟩ := h
    obtain ⟨e1, e2, e3, e4, e5, e6⟩ := bareE_parts h1
    have hl : ks.len = ks2.len := by
      have q1 : (ks.len : Int) = y.kids := hw.2.2.2.1
      have q2 : (ks2.len : Int) = y2.kids := hw2.2.2.2.1
      omega
    obtain ⟨g1, g2, g3⟩ := shs_uniq ks ks2 _ _ _ _ r r2 hl hw.2.2.2.2 hw2.2.2.2.2 h2
    refine ⟨?_, g3, h1⟩
    simp only [Tr.sh, e1, e2, e3, g1, g2]
theorem shs_uniq : ∀ (ts ts2 : Trs) (a a2 : Int) (d d2 : Nat) (r r2 : List Ex), ts.len = ts2.len → ts.wf a d → ts2.wf a2 d2 → ts.flat.map bareE ++ r = ts2.flat.map bareE ++ r2 → ts.shK = ts2.shK ∧ (∀ s f, ts.shR s f = ts2.shR s f) ∧ r = r2
  | .nil, .nil, _, _, _, _, r, r2, _, _, _, h => ⟨rfl, fun _ _ => rfl, by simpa [Trs.flat] using h⟩
  | .nil, .cons t2 ts2, _, _, _, _, _, _, hl, _, _, _ => by simp [Trs.len] at hl
  | .cons t ts, .nil, _, _, _, _, _, _, hl, _, _, _ => by simp [Trs.len] at hl
  | .cons t ts, .cons t2 ts2, a, a2, d, d2, r, r2, hl, hw, hw2, h => by
    simp only [Trs.flat, List.map_append, List.append_assoc] at h
    obtain ⟨g1, g2, g3⟩ := sh_uniq t t2 a a2 d d2 _ _ hw.1 hw2.1 h
    obtain ⟨k1, k2, k3⟩ := shs_uniq ts ts2 a a2 d d2 r r2 (by simpa [Trs.len] using hl) hw.2 hw2.2 g2
    obtain ⟨e1, e2, e3, e4, e5, e6⟩ := bareE_parts g3
    refine ⟨?_, fun s f => ?_, k3⟩
    · simp only [Trs.shK, g1, k1]
    · simp only [Trs.shR, g1, k2, e4, e5]
end
theorem shDefs_len : ∀ (D : List Df) (l : List DefT), (∀ q ∈ l, DefW q) → D.map (fun d => (d.name, d.ty)) = l.map (fun q => (q.1, q.2.flat)) → (∀ d ∈ D, d.ty.length ≤ 1048576) → (shDefs l).length ≤ D.length * 83887080
  | [], [], _, _, _ => by simp [shDefs]
  | [], q :: m, _, h, _ => by simp at h
  | d :: D, [], _, h, _ => by simp at h
  | d :: D, q :: l, hw, h, hs => by
    simp only [List.map_cons, List.cons.injEq, Prod.mk.injEq] at h
    have h1 := shDefs_len D l (fun x hx => hw x (List.mem_cons_of_mem _ hx)) h.2 (fun x hx => hs x (List.mem_cons_of_mem _ hx))
    have h2 := sh_len q.2 0 0 (hw q (List.mem_cons_self ..)).2
    have h3 := hs d (List.mem_cons_self ..)
    have h4 := (hw q (List.mem_cons_self ..)).1
    rw [h.1.2] at h3
    unfold nameB at h4; simp only [Bool.and_eq_true, decide_eq_true_eq] at h4
    have h6 : (shDefs (q :: l)).length = q.1.length + q.2.sh.length + 7 + (shDefs l).length := by simp [shDefs, shDef]; omega
    rw [h6, List.length_cons]
    omega

end Go.Proofs.YtanimeifmicmoaaDoor

set_option linter.unusedSimpArgs false
set_option linter.unusedVariables false
set_option maxRecDepth 100000
namespace Go.Proofs.YtanimeifmicmoaaDoor
open Go Go.Vc Go.RowKit Go.Proofs

def exMk : Ex := ⟨99, 7, [109, 97, 114, 107], [], 0, 0, 0⟩
def MarkW (w : World) : Prop := ∃ T fr, w.heap[0]? = some (.cells (exV exMk).toArray T fr)
theorem MarkW.only {w w' : World} {F : Nat → Prop} (h : MarkW w) (ho : Only F w w') (hn : ¬ F 0) : MarkW w' := by
  obtain ⟨T, fr, h⟩ := h
  exact ⟨T, fr, ho.blk h hn⟩
theorem MarkW.ext {w w' : World} (h : MarkW w) (ho : Ext w w') : MarkW w' := h.only ho (fun h => h)
theorem MarkW.lt {w : World} (h : MarkW w) : 0 < w.heap.size := by
  obtain ⟨T, fr, h⟩ := h
  exact (Array.getElem?_eq_some_iff.1 h).1
theorem MarkW.cells {w : World} (h : MarkW w) : Cells w 0 0 (exV exMk) := by
  obtain ⟨T, fr, h⟩ := h
  exact Cells.of h 0 _ (by simp)
abbrev rowQ (D : List Df) (j : Nat) : List Value := exs (tyD D j) ++ exV exMk
structure Lend (w : World) (H : Nat) (D : List Df) (gv : Value) (W : Nat → Value) : Prop where
  row : w.ownsRow H 34 3 gv D.length (drows D (fun j => shr (W j)))
  tys : Many w H 36 7 D.length W (lenM D) (rowQ D)
theorem Lend.only {w w' : World} {H : Nat} {D : List Df} {gv : Value} {W : Nat → Value} {F : Nat → Prop} (h : Lend w H D gv W) (ho : Only F w w') (hn : ∀ k, DF gv W D.length k → ¬ F k) : Lend w' H D gv W :=
  ⟨own_only h.row ho (fun k hk => hn k (.inl hk)), h.tys.only ho (fun j hj k hk => hn k (.inr ⟨j, hj, hk⟩))⟩
theorem Lend.ext {w w' : World} {H : Nat} {D : List Df} {gv : Value} {W : Nat → Value} (h : Lend w H D gv W) (ho : Ext w w') : Lend w' H D gv W := h.only ho (fun _ _ h => h)
theorem Lend.defs {w : World} {H : Nat} {D : List Df} {gv : Value} {W : Nat → Value} (h : Lend w H D gv W) : Defs w H D gv (fun j => shr (W j)) :=
  ⟨h.row, ⟨fun j hj => own_shr (h.tys.row j hj) (exs_len _), fun i j hi hj hij k hk => by rw [shr_blk] at hk ⊢; exact h.tys.off i j hi hj hij k hk⟩⟩
theorem own_new0 {w : World} {el s : Nat} : (w.alloc (.cells #[] el)).ownsRow w.heap.size el s (.slice (some ⟨w.heap.size, 0, none⟩) 0 0) 0 [] :=
  ⟨by simp, .inr ⟨w.heap.size, 0, #[], rfl, Nat.le_refl _, heap_alloc_new w _, Nat.le_refl _, by decide, by simp, by simp⟩⟩
theorem own_of0 {w : World} {el s b m : Nat} (h : w.heap[b]? = some (.cells #[] el (0, 0))) (hb : m ≤ b) : w.ownsRow m el s (.slice (some ⟨b, 0, none⟩) 0 0) 0 [] :=
  ⟨by simp, .inr ⟨b, 0, #[], rfl, hb, h, Nat.le_refl _, by decide, by simp, by simp⟩⟩
/-- a row without room, made longer: nothing that was is written -/
theorem ext_of0 {w w' : World} {el s b m : Nat} (hs : 0 < s) (h : w.heap[b]? = some (.cells #[] el (0, 0))) (ho : Only (fun k => (Value.slice (some ⟨b, 0, none⟩) 0 0).ownBlock = some k) w w') (hr : w'.ownsRow m el s (.slice (some ⟨b, 0, none⟩) 0 0) 0 []) : Ext w w' := by
  have hb : w'.heap[b]? = some (.cells #[] el (0, 0)) := by
    obtain ⟨cap, cur, hv, -, hB, -, -, hcs, -⟩ := own_blk hr (g := b) rfl
    cases hv
    have : cur = #[] := by rw [← Array.size_eq_zero_iff, hcs]; simp
    rw [this] at hB; exact hB
  refine ⟨ho.os, ho.tape, ho.output, ho.size, fun k hk _ => ?_⟩
  by_cases e : k = b
  · subst e; rw [h, hb]
  · exact ho.block k hk (fun he => e (by simpa [Value.ownBlock] using he.symm))
theorem drowsK_snoc (D : List Df) (V : Nat → Value) {k : Nat} (v : Value) (hk : k < D.length) : drowsK D (fun j => if j = k then v else V j) (k + 1) = drowsK D V k ++ dcell D[k] v := by
  rw [drowsK_succ, getD_at hk]
theorem lend_snoc {w : World} {H : Nat} {D : List Df} {k m : Nat} {W : Nat → Value} {v : Value} (h : Many w H 36 7 k W (lenM D) (rowQ D)) (hr : w.ownsRow m 36 7 v (lenM D k) (rowQ D k)) (hm : H ≤ m) (hlt : ∀ j, j < k → ∀ b, (W j).ownBlock = some b → b < m) : Many w H 36 7 (k + 1) (fun j => if j = k then v else W j) (lenM D) (rowQ D) := Many.snocG h hr hm hlt rfl rfl

set_option maxHeartbeats 4000000 in
theorem copied_spec (D : List Df) (dv : Value) (V : Nat → Value) (w0 : World) (hD0 : DefR w0 D dv V) (hlim : DOk D) (hMk : MarkW w0) : Ca Tryd.prog 8 #[.agg #[dv]] w0 (fun r w' => ∃ gv U kv W, r = .tuple #[.agg #[gv], .agg #[kv]] ∧ Lend w' w0.heap.size D gv U ∧ Defs w' w0.heap.size D kv W ∧ Ext w0 w') := by
  obtain ⟨BB, hBB⟩ : ∃ B, B = w0.heap.size := ⟨_, rfl⟩
  rw [← hBB]
  have hlen := hlim.len
  have hmk0 := hMk.lt
  refine Ca.of Tryd.func8 Tryd.ntmps8 rfl rfl ?_
  refine W.seq ?_
  refine W.region ?_
  refine WL.c rfl (o_boxB rfl ?_)
  intro w1 hC1 hx1 hs1
  have hx := hx1
  replace hC1 : w1.heap[w0.heap.size]? = some (.cells #[dv] 24 (0, 0)) := hC1
  obtain ⟨c1, hc1⟩ : ∃ c, c = w0.heap.size := ⟨_, rfl⟩
  rw [← hc1] at hC1 ⊢
  refine WL.c rfl (o_alB TI24 ?_)
  intro w2 hC2 hx2 hs2
  replace hC2 : w2.heap[w1.heap.size]? = some (.cells #[.slice none 0 0] 24 (0, 0)) := hC2
  obtain ⟨c2, hc2⟩ : ∃ c, c = w1.heap.size := ⟨_, rfl⟩
  rw [← hc2] at hC2 ⊢
  replace hx := hx.tr hx2
  replace hC1 := hx2.blk hC1 (fun h => h)
  refine WL.c rfl (o_alB TI24 ?_)
  intro w3 hC3 hx3 hs3
  replace hC3 : w3.heap[w2.heap.size]? = some (.cells #[.slice none 0 0] 24 (0, 0)) := hC3
  obtain ⟨c3, hc3⟩ : ∃ c, c = w2.heap.size := ⟨_, rfl⟩
  rw [← hc3] at hC3 ⊢
  replace hx := hx.tr hx3
  replace hC1 := hx3.blk hC1 (fun h => h)
  replace hC2 := hx3.blk hC2 (fun h => h)
  refine WL.nil ?_
  refine W.seq ?_
  refine W.region ?_
  refine WL.c rfl (o_alB TI24 ?_)
  intro w4 hC4 hx4 hs4
  replace hC4 : w4.heap[w3.heap.size]? = some (.cells #[.slice none 0 0] 24 (0, 0)) := hC4
  obtain ⟨c4, hc4⟩ : ∃ c, c = w3.heap.size := ⟨_, rfl⟩
  rw [← hc4] at hC4 ⊢
  replace hx := hx.tr hx4
  replace hC1 := hx4.blk hC1 (fun h => h)
  replace hC2 := hx4.blk hC2 (fun h => h)
  replace hC3 := hx4.blk hC3 (fun h => h)
  refine WL.c rfl (o_alB TI24 ?_)
  intro w5 hC5 hx5 hs5
  replace hC5 : w5.heap[w4.heap.size]? = some (.cells #[.slice none 0 0] 24 (0, 0)) := hC5
  obtain ⟨c5, hc5⟩ : ∃ c, c = w4.heap.size := ⟨_, rfl⟩
  rw [← hc5] at hC5 ⊢
  replace hx := hx.tr hx5
  replace hC1 := hx5.blk hC1 (fun h => h)
  replace hC2 := hx5.blk hC2 (fun h => h)
  replace hC3 := hx5.blk hC3 (fun h => h)
  replace hC4 := hx5.blk hC4 (fun h => h)
  have hb1 : BB ≤ c1 ∧ c1 < c2 ∧ c2 < c3 ∧ c3 < c4 ∧ c4 < c5 := by omega
  clear hs1 hs2 hs3 hs4 hs5 hc1 hc2 hc3 hc4 hc5 hx1 hx2 hx3 hx4 hx5
  refine WL.nil ?_
  refine W.seq ?_
  refine W.seq ?_
  refine W.region ?_
  refine WL.c rfl (o_ash (show _ = Value.int _ _ from rfl) ?_)
  refine WL.nil ?_
  refine W.block ?_
  refine W.loop (fun e w => ∃ (k : Nat) (gv : Value) (U : Nat → Value) (kv : Value) (KW : Nat → Value), k ≤ D.length ∧ e 1 = .pointer (some ⟨c1, 0, none⟩) ∧ e 2 = .pointer (some ⟨c2, 0, none⟩) ∧ e 3 = .pointer (some ⟨c3, 0, none⟩) ∧ e 4 = .pointer (some ⟨c4, 0, none⟩) ∧ e 5 = .pointer (some ⟨c5, 0, none⟩) ∧ e 6 = .int .i64 (k : Int) ∧ w.heap[c1]? = some (.cells #[dv] 24 (0, 0)) ∧ w.heap[c2]? = some (.cells #[.slice none 0 0] 24 (0, 0)) ∧ w.heap[c3]? = some (.cells #[.slice none 0 0] 24 (0, 0)) ∧ w.heap[c4]? = some (.cells #[gv] 24 (0, 0)) ∧ w.heap[c5]? = some (.cells #[kv] 24 (0, 0)) ∧ w.ownsRow BB 34 3 gv k (drowsK D (fun j => shr (U j)) k) ∧ Many w BB 36 7 k U (lenM D) (rowQ D) ∧ w.ownsRow BB 34 3 kv k (drowsK D KW k) ∧ Many w BB 36 7 k KW (fun j => (tyD D j).length) (fun j => exs (tyD D j)) ∧ Dj gv kv ∧ Ext w0 w) (fun e w => D.length - (intOf (e 6)).toNat) ?_ ?_
  · exact ⟨0, .slice none 0 0, fun _ => undef, .slice none 0 0, fun _ => undef, Nat.zero_le _, rfl, rfl, rfl, rfl, rfl, rfl, hC1, hC2, hC3, hC4, hC5, World.ownsRow_nil _ _ _ _, Many.zero, World.ownsRow_nil _ _ _ _, Many.zero, Dj.none, hx⟩
  rintro e w ⟨k, gv, U, kv, KW, hk, h1, h2, h3, h4, h5, h6, hC1, hC2, hC3, hC4, hC5, hrow, htys, krow, ktys, hDj, hx⟩
  have hm6 := h6
  refine W.seq ?_
  refine W.seq ?_
  refine W.region ?_
  refine WL.c rfl (o_mvh h6 ?_)
  refine WL.c rfl (o_fa 0 TI24 rfl TI22 rfl h1 ?_)
  refine WL.c rfl (o_ld TI22 rfl rfl (cell_of hC1 rfl) ?_)
  refine WL.c rfl (o_lenR TI22 rfl (hD0.ext hx).row ?_)
  refine WL.c rfl (o_lt rfl rfl ?_)
  refine WL.nil ?_
  refine W.cond rfl (fun c13 => ?_) (fun c13 => ?_)
  · try simp only [decide_eq_true_eq, decide_eq_false_iff_not, Bool.not_eq_true', Bool.not_eq_false', Bool.and_eq_true, Bool.or_eq_true, Bool.and_eq_false_iff, Bool.or_eq_false_iff] at c13
    have hk1 : k < D.length := by omega
    have hrlt7 : ∀ b, gv.ownBlock = some b → b < w.heap.size := fun b hb => (hrow.lt b hb).2
    obtain ⟨tb, to_, tc, rfl, htc, hty⟩ := (hD0.ext hx).atk hk1
    have htl := hlim.ty _ (List.getElem_mem hk1)
    refine W.skip ?_
    refine W.seq ?_
    refine W.block ?_
    refine W.seq ?_
    refine W.region ?_
    refine WL.c rfl (o_fa 0 TI24 rfl TI22 rfl h1 ?_)
    refine WL.c rfl (o_ld TI22 rfl rfl (cell_of hC1 rfl) ?_)
    refine WL.c rfl (o_mvh h6 ?_)
    refine WL.c rfl (o_ixB TI22 TI34 rfl rfl (by omega) ?_)
    refine WL.c rfl (o_ldA TI34 rfl rfl htc rfl ?_)
    refine WL.c rfl (o_alB TI34 ?_)
    intro wa hCa hxa hsa
    refine WL.u (o_stA TI34 rfl (show _ = Value.agg (dcell D[k] (V k)).toArray from rfl) rfl (by simp only [dcell, List.toArray, Array.toList, List.all_cons, List.all_nil, sl_one1 hty]; rfl) hCa rfl ?_)
    intro wb7 hC7 hob hsb
    have hxb := Ext.own hxa (Nat.le_refl _) hob
    obtain ⟨b7, hb7⟩ : ∃ b, b = w.heap.size := ⟨_, rfl⟩
    rw [← hb7] at hC7 ⊢
    clear hCa hxa hsa hob hsb
    replace hx := hx.tr hxb
    replace hC1 := hxb.blk hC1 (fun h => h)
    replace hC2 := hxb.blk hC2 (fun h => h)
    replace hC3 := hxb.blk hC3 (fun h => h)
    replace hC4 := hxb.blk hC4 (fun h => h)
    replace hC5 := hxb.blk hC5 (fun h => h)
    replace hrow := own_ext hrow hxb
    replace krow := own_ext krow hxb
    replace htys := htys.ext hxb
    replace ktys := ktys.ext hxb
    replace hty := hty.ext hxb
    clear hxb
    refine WL.nil ?_
    refine W.seq ?_
    refine W.region ?_
    refine WL.c rfl (o_bs0 TI32 TI36 ?_)
    have hown21 := own_new0 (w := wb7) (el := 36) (s := 7)
    have hB21 := heap_alloc_new wb7 (.cells #[] 36)
    have hxl := Only.alloc wb7 (.cells #[] 36)
    have hsl : (wb7.alloc (.cells #[] 36)).heap.size = wb7.heap.size + 1 := by show (Array.push _ _).size = _; simp
    generalize wb7.alloc (.cells #[] 36) = w21 at hown21 hB21 hxl hsl ⊢
    obtain ⟨m7, hm7⟩ : ∃ m, m = wb7.heap.size := ⟨_, rfl⟩
    rw [← hm7] at hown21 hB21 hsl ⊢
    have htl2 : ∀ j, j < k → ∀ b, (U j).ownBlock = some b → b < m7 := fun j hj b hb => by rw [hm7]; exact (htys.lt hj hb).2
    have ktl2 : ∀ j, j < k → ∀ b, (KW j).ownBlock = some b → b < m7 := fun j hj b hb => by rw [hm7]; exact (ktys.lt hj hb).2
    have hBm : BB ≤ m7 := by rw [hm7, hBB]; exact hx.size
    replace hx := hx.tr hxl
    replace hC1 := hxl.blk hC1 (fun h => h)
    replace hC2 := hxl.blk hC2 (fun h => h)
    replace hC3 := hxl.blk hC3 (fun h => h)
    replace hC4 := hxl.blk hC4 (fun h => h)
    replace hC5 := hxl.blk hC5 (fun h => h)
    replace hrow := own_ext hrow hxl
    replace krow := own_ext krow hxl
    replace htys := htys.ext hxl
    replace ktys := ktys.ext hxl
    replace hty := hty.ext hxl
    replace hC7 := hxl.blk hC7 (fun h => h)
    clear hxl
    refine WL.c rfl (o_fa 2 TI34 rfl TI32 rfl rfl ?_)
    refine WL.c rfl (o_ld TI32 rfl rfl (cell_of hC7 rfl) ?_)
    refine WL.c rfl (o_apO (m7) TI32 TI36 (show _ = Value.slice _ _ _ from rfl) rfl hown21 hty rfl (by decide) (one_exs _) (by rw [maxLen_eq]; omega) (by omega) (by omega) ?_)
    intro v24 w24 hown24 ho24 hb24 hk24
    rw [Nat.zero_add, List.nil_append] at hown24
    have hx24 : Ext w21 w24 := ext_of0 (by decide) hB21 ho24 hk24.1
    clear ho24 hb24 hk24 hown21 hB21
    replace hx := hx.tr hx24
    replace hC1 := hx24.blk hC1 (fun h => h)
    replace hC2 := hx24.blk hC2 (fun h => h)
    replace hC3 := hx24.blk hC3 (fun h => h)
    replace hC4 := hx24.blk hC4 (fun h => h)
    replace hC5 := hx24.blk hC5 (fun h => h)
    replace hrow := own_ext hrow hx24
    replace krow := own_ext krow hx24
    replace htys := htys.ext hx24
    replace ktys := ktys.ext hx24
    replace hty := hty.ext hx24
    replace hC7 := hx24.blk hC7 (fun h => h)
    have hz24 := hx24.size
    refine WL.c rfl (o_ash (by first | exact (show _ = Value.slice _ _ _ from rfl) | exact rfl) ?_)
    refine WL.nil ?_
    refine W.seq ?_
    refine W.region ?_
    refine WL.c rfl (o_mvh (by first | exact (show _ = Value.slice _ _ _ from rfl) | exact rfl) ?_)
    refine WL.c rfl (o_ldA TI36 rfl rfl (hMk.ext hx).cells rfl ?_)
    refine WL.apO (m7) rfl rfl TI32 TI36 (show _ = Value.agg (exV exMk).toArray from rfl) rfl hown24 (by decide) (by decide) rfl (fun a ha => List.all_eq_true.1 (show List.all _ (fun a => a.oneCell') = true from rfl) a ha) rfl (by rw [maxLen_eq]; omega) (by omega) (by omega) ?_
    intro v28 w28 hown28 ho28 hb28 _
    replace hown28 : w28.ownsRow m7 36 7 v28 (D[k].ty.length + 1) (exs D[k].ty ++ exV exMk) := hown28
    replace ho28 : Only (fun k => v24.ownBlock = some k) w24 w28 := ho28
    have hlt24 : ∀ b, v24.ownBlock = some b → m7 ≤ b := fun b hb => (hown24.lt b hb).1
    replace hC1 := ho28.blk hC1 (fun he => own_off hown24 hC1 (by decide) he)
    replace hC2 := ho28.blk hC2 (fun he => own_off hown24 hC2 (by decide) he)
    replace hC3 := ho28.blk hC3 (fun he => own_off hown24 hC3 (by decide) he)
    replace hC4 := ho28.blk hC4 (fun he => own_off hown24 hC4 (by decide) he)
    replace hC5 := ho28.blk hC5 (fun he => own_off hown24 hC5 (by decide) he)
    replace hC7 := ho28.blk hC7 (fun he => own_off hown24 hC7 (by decide) he)
    replace hrow := own_only hrow ho28 (own_row_off hown24 hrow (by decide))
    replace krow := own_only krow ho28 (own_row_off hown24 krow (by decide))
    replace htys := htys.only ho28 (fun j hj b hb hF => by have := hlt24 b hF; have := htl2 j hj b hb; omega)
    replace ktys := ktys.only ho28 (fun j hj b hb hF => by have := hlt24 b hF; have := ktl2 j hj b hb; omega)
    replace hty := (hD0.ext (hx.trans' ho28 (fun _ h => h) (fun b hb he => by have := hlt24 b he; omega))).tys k hk1
    rw [tyD_at hk1] at hty
    replace hx := hx.trans' ho28 (fun _ h => h) (fun b hb he => by have := hlt24 b he; omega)
    have hz28 := ho28.size
    clear ho28 hb28 hown24 hx24
    obtain ⟨g, cap, rfl, hgb⟩ := own_some hown28 (by omega)
    refine WL.c rfl (o_ash (by first | exact (show _ = Value.slice _ _ _ from rfl) | exact rfl) ?_)
    refine WL.nil ?_
    refine W.seq ?_
    obtain ⟨wd, hwd⟩ : ∃ wd, wd = w28.drew := ⟨_, rfl⟩
    have hxd : Ext w28 wd := hwd ▸ Only.drew w28
    replace hx := hx.tr hxd
    replace hC1 := hxd.blk hC1 (fun h => h)
    replace hC2 := hxd.blk hC2 (fun h => h)
    replace hC3 := hxd.blk hC3 (fun h => h)
    replace hC4 := hxd.blk hC4 (fun h => h)
    replace hC5 := hxd.blk hC5 (fun h => h)
    replace hrow := own_ext hrow hxd
    replace krow := own_ext krow hxd
    replace htys := htys.ext hxd
    replace ktys := ktys.ext hxd
    replace hty := hty.ext hxd
    replace hC7 := hxd.blk hC7 (fun h => h)
    replace hown28 := own_ext hown28 hxd
    have hzd := hxd.size
    refine W.drawT 13 (Ext) [(1, fun v _ => v = _), (2, fun v _ => v = _), (3, fun v _ => v = _), (4, fun v _ => v = _), (5, fun v _ => v = _), (6, fun v _ => v = _), (7, fun v _ => v = _), (8, fun v _ => v = _)] rfl (by kernel_rfl) (Only.refl No) (fun _ _ _ h k => h.trans k) ⟨Mono.eq, Mono.eq, Mono.eq, Mono.eq, Mono.eq, Mono.eq, Mono.eq, Mono.eq, trivial⟩ ⟨h1, h2, h3, h4, h5, h6, rfl, rfl, trivial⟩ ?_
    refine WD.p rfl (fun e w hR hh => by obtain ⟨h4, -⟩ := hh; exact SG.n (o_fa 0 TI24 rfl TI22 rfl h4 ⟨rfl, Only.refl No _⟩)) ?_
    refine WD.p rfl (fun e w hR hh => by obtain ⟨h29, -⟩ := hh; rw [← hwd] at hR; exact SG.n (o_ld TI22 rfl h29 (cell_of (hR.blk hC4 (fun h => h)) rfl) ⟨rfl, Only.refl No _⟩)) ?_
    refine WD.p rfl (fun e w hR hh => by obtain ⟨h7, -⟩ := hh; exact SG.n (o_fa 0 TI34 rfl TI9 rfl h7 ⟨rfl, Only.refl No _⟩)) ?_
    refine WD.p rfl (fun e w hR hh => by obtain ⟨h31, -⟩ := hh; rw [← hwd] at hR; exact SG.n (o_ld TI9 rfl h31 (cell_of (hR.blk hC7 (fun h => h)) rfl) ⟨rfl, Only.refl No _⟩)) ?_
    refine WD.p rfl (fun e w hR hh => by obtain ⟨h7, -⟩ := hh; exact SG.n (o_fa 1 TI34 rfl TI3 rfl h7 ⟨rfl, Only.refl No _⟩)) ?_
    refine WD.p rfl (fun e w hR hh => by obtain ⟨h33, -⟩ := hh; rw [← hwd] at hR; exact SG.n (o_ld TI3 rfl h33 (cell_of (hR.blk hC7 (fun h => h)) rfl) ⟨rfl, Only.refl No _⟩)) ?_
    refine WD.p rfl (fun e w hR hh => by obtain ⟨h8, -⟩ := hh; exact SG.n (o_mvh h8 ⟨rfl, Only.refl No _⟩)) ?_
    refine WD.p rfl (fun e w hR hh => by obtain ⟨h7, -⟩ := hh; exact SG.n (o_fa 2 TI34 rfl TI32 rfl h7 ⟨rfl, Only.refl No _⟩)) ?_
    refine WD.p rfl (fun e w hR hh => by obtain ⟨h36, -⟩ := hh; rw [← hwd] at hR; exact SG.n (o_ld TI32 rfl h36 (cell_of (hR.blk hC7 (fun h => h)) rfl) ⟨rfl, Only.refl No _⟩)) ?_
    refine WD.p rfl (fun e w hR hh => by obtain ⟨h37, -⟩ := hh; rw [← hwd] at hR; exact SG.n (o_lenR TI32 h37 (hty.ext hR) ⟨rfl, Only.refl No _⟩)) ?_
    refine WD.p rfl (fun e w hR hh => by obtain ⟨h38, h35, -⟩ := hh; exact SG.n (o_slv (h := D[k].ty.length) TI32 TI36 h35 Lo.n (Hi.s h38) (Nat.zero_le _) (by obtain ⟨_, _, hv, hh⟩ := own_form hown28; cases hv; omega) ⟨sliced0 _ _ _ _, Only.refl No _⟩)) ?_
    refine WD.p rfl (fun e w hR hh => by obtain ⟨h39, h34, h32, -⟩ := hh; exact SG.n (o_bldC (cs := [_, _, _]) TI34 (Sizes.cons TI9 (Sizes.cons TI3 (Sizes.cons TI32 Sizes.nil))) rfl (lcp h32 (lcp h34 (lcp h39 lnp))) rfl rfl ⟨rfl, Only.refl No _⟩)) ?_
    refine WD.q (fun u w => w.ownsRow wd.heap.size 34 3 u 1 (dcell D[k] (.slice (some ⟨g, 0, none⟩) D[k].ty.length cap))) (fun u w w2 hR hh => own_ext hh hR) rfl (fun e w hR hh => by obtain ⟨h40, -⟩ := hh; rw [← hwd] at hR; exact SG.n (o_bs1 TI22 TI34 h40 (by decide) (by decide) rfl ⟨own_mono (own_new1 rfl) hR.size, Only.alloc w _⟩)) ?_
    rintro e w hR ⟨h41, h40, h39, h38, h37, h36, h35, h34, h33, h32, h31, h30, h29, h1, h2, h3, h4, h5, h6, h7, h8, -⟩
    rw [← hwd] at hR
    replace hx := hx.tr hR
    replace hC1 := hR.blk hC1 (fun h => h)
    replace hC2 := hR.blk hC2 (fun h => h)
    replace hC3 := hR.blk hC3 (fun h => h)
    replace hC4 := hR.blk hC4 (fun h => h)
    replace hC5 := hR.blk hC5 (fun h => h)
    replace hrow := own_ext hrow hR
    replace krow := own_ext krow hR
    replace htys := htys.ext hR
    replace ktys := ktys.ext hR
    replace hty := hty.ext hR
    replace hC7 := hR.blk hC7 (fun h => h)
    replace hown28 := own_ext hown28 hR
    have hzR8 := hR.size
    refine WL.c rfl (o_apO (BB) TI22 TI34 h30 rfl hrow (Sl.own h41) rfl (by decide) (by simp [dcell, Value.oneCell', st]) (by rw [maxLen_eq]; omega) (by omega) (by rw [hBB]; exact hx.size) ?_)
    intro v42 w42 hrow42 ho42 hb42 _
    have hrl : ∀ b, gv.ownBlock = some b → BB ≤ b := fun b hb => (hrow.lt b hb).1
    have hkl : ∀ b, kv.ownBlock = some b → b < w.heap.size := fun b hb => (krow.lt b hb).2
    replace hC1 := ho42.blk hC1 (fun he => own_off hrow hC1 (by decide) he)
    replace hC2 := ho42.blk hC2 (fun he => own_off hrow hC2 (by decide) he)
    replace hC3 := ho42.blk hC3 (fun he => own_off hrow hC3 (by decide) he)
    replace hC4 := ho42.blk hC4 (fun he => own_off hrow hC4 (by decide) he)
    replace hC5 := ho42.blk hC5 (fun he => own_off hrow hC5 (by decide) he)
    replace hC7 := ho42.blk hC7 (fun he => by have := hrlt7 _ he; omega)
    replace htys := htys.other hrow (by decide) ho42
    replace ktys := ktys.other hrow (by decide) ho42
    replace hown28 := own_only hown28 ho42 (fun b hb hF => own_row_off hrow hown28 (by decide) b hb hF)
    replace krow := own_only krow ho42 hDj.symm
    have hDj1 : Dj v42 kv := hDj.step hb42 hkl
    replace hx := hx.trans' ho42 (fun _ h => h) (fun b hb he => by have := hrl b he; omega)
    have hz42 := ho42.size
    clear hrow ho42 hb42
    refine WL.c rfl (o_fa 0 TI24 rfl TI22 rfl h4 ?_)
    refine WL.u (o_stB TI22 rfl (show _ = v42 from rfl) (own_one hrow42) hC4 (show 0 < 1 by decide) ?_)
    intro w43 hC4n ho43 hs43
    replace hrow42 := own_only hrow42 ho43 (fun b hb he => by subst he; exact own_off hrow42 hC4 (by decide) hb)
    replace krow := own_only krow ho43 (fun b hb he => by subst he; exact own_off krow hC4 (by decide) hb)
    replace htys := htys.only ho43 (fun j hj b hb he => by subst he; exact own_off (htys.row j hj) hC4 (by decide) hb)
    replace ktys := ktys.only ho43 (fun j hj b hb he => by subst he; exact own_off (ktys.row j hj) hC4 (by decide) hb)
    replace hown28 := own_only hown28 ho43 (fun b hb he => by subst he; exact own_off hown28 hC4 (by decide) hb)
    replace hC1 := ho43.blk hC1 (by omega)
    replace hC2 := ho43.blk hC2 (by omega)
    replace hC3 := ho43.blk hC3 (by omega)
    replace hC5 := ho43.blk hC5 (by omega)
    have h47 : c4 ≠ b7 := fun he => by rw [← he] at hC7; rw [hC4] at hC7; simp only [Option.some.injEq, Obj.cells.injEq] at hC7; exact absurd hC7.2.1 (by decide)
    replace hC7 := ho43.blk hC7 (fun he => h47 he.symm)
    replace hC4 : w43.heap[c4]? = some (.cells #[v42] 24 (0, 0)) := hC4n
    replace hx := hx.trans' ho43 (fun _ h => h) (fun b hb he => by omega)
    have hty43 := (hD0.ext hx).tys k hk1
    rw [tyD_at hk1] at hty43
    have htys3 := lend_snoc (D := D) htys (by rw [lenM, rowQ, tyD_at hk1]; exact hown28) hBm htl2
    clear htys hown28 ho43 hC4n hty
    have htys := htys3
    have hrow := hrow42
    have hty := hty43
    clear htys3 hrow42 hty43
    refine WL.nil ?_
    obtain ⟨we, hwe⟩ : ∃ we, we = w43.drew := ⟨_, rfl⟩
    have hxe : Ext w43 we := hwe ▸ Only.drew w43
    replace hx := hx.tr hxe
    replace hC1 := hxe.blk hC1 (fun h => h)
    replace hC2 := hxe.blk hC2 (fun h => h)
    replace hC3 := hxe.blk hC3 (fun h => h)
    replace hC4 := hxe.blk hC4 (fun h => h)
    replace hC5 := hxe.blk hC5 (fun h => h)
    replace hrow := own_ext hrow hxe
    replace krow := own_ext krow hxe
    replace htys := htys.ext hxe
    replace ktys := ktys.ext hxe
    replace hty := hty.ext hxe
    replace hC7 := hxe.blk hC7 (fun h => h)
    have hze := hxe.size
    have hDj := hDj1
    refine W.drawT 12 (Ext) [(1, fun v _ => v = _), (2, fun v _ => v = _), (3, fun v _ => v = _), (4, fun v _ => v = _), (5, fun v _ => v = _), (6, fun v _ => v = _), (7, fun v _ => v = _)] rfl (by kernel_rfl) (Only.refl No) (fun _ _ _ h k => h.trans k) ⟨Mono.eq, Mono.eq, Mono.eq, Mono.eq, Mono.eq, Mono.eq, Mono.eq, trivial⟩ ⟨h1, h2, h3, h4, h5, h6, h7, trivial⟩ ?_
    refine WD.p rfl (fun e w hR hh => by obtain ⟨h5, -⟩ := hh; exact SG.n (o_fa 0 TI24 rfl TI22 rfl h5 ⟨rfl, Only.refl No _⟩)) ?_
    refine WD.p rfl (fun e w hR hh => by obtain ⟨h44, -⟩ := hh; rw [← hwe] at hR; exact SG.n (o_ld TI22 rfl h44 (cell_of (hR.blk hC5 (fun h => h)) rfl) ⟨rfl, Only.refl No _⟩)) ?_
    refine WD.p rfl (fun e w hR hh => by obtain ⟨h7, -⟩ := hh; exact SG.n (o_fa 0 TI34 rfl TI9 rfl h7 ⟨rfl, Only.refl No _⟩)) ?_
    refine WD.p rfl (fun e w hR hh => by obtain ⟨h46, -⟩ := hh; rw [← hwe] at hR; exact SG.n (o_ld TI9 rfl h46 (cell_of (hR.blk hC7 (fun h => h)) rfl) ⟨rfl, Only.refl No _⟩)) ?_
    refine WD.p rfl (fun e w hR hh => by obtain ⟨h7, -⟩ := hh; exact SG.n (o_fa 1 TI34 rfl TI3 rfl h7 ⟨rfl, Only.refl No _⟩)) ?_
    refine WD.p rfl (fun e w hR hh => by obtain ⟨h48, -⟩ := hh; rw [← hwe] at hR; exact SG.n (o_ld TI3 rfl h48 (cell_of (hR.blk hC7 (fun h => h)) rfl) ⟨rfl, Only.refl No _⟩)) ?_
    refine WD.q (fun u w => ∃ b, we.heap.size ≤ b ∧ u = .slice (some ⟨b, 0, none⟩) 0 0 ∧ w.heap[b]? = some (.cells #[] 36 (0, 0))) (fun u w w2 hR hh => by obtain ⟨b, a1, a2, a3⟩ := hh; exact ⟨b, a1, a2, hR.blk a3 (fun h => h)⟩) rfl (fun e w hR hh => by skip; rw [← hwe] at hR; exact SG.n (o_bs0 TI32 TI36 ⟨⟨_, hR.size, rfl, heap_alloc_new _ _⟩, Only.alloc _ _⟩)) ?_
    refine WD.p rfl (fun e w hR hh => by obtain ⟨h7, -⟩ := hh; exact SG.n (o_fa 2 TI34 rfl TI32 rfl h7 ⟨rfl, Only.refl No _⟩)) ?_
    refine WD.p rfl (fun e w hR hh => by obtain ⟨h51, -⟩ := hh; rw [← hwe] at hR; exact SG.n (o_ld TI32 rfl h51 (cell_of (hR.blk hC7 (fun h => h)) rfl) ⟨rfl, Only.refl No _⟩)) ?_
    refine WD.q (fun u w => w.ownsRow we.heap.size 36 7 u D[k].ty.length (exs D[k].ty)) (fun u w w2 hR hh => own_ext hh hR) rfl (fun e w hR hh => by obtain ⟨h52, h50, -⟩ := hh; rw [← hwe] at hR; obtain ⟨b5, q1, q2, q3⟩ := h50; exact SG.n (o_apO (we.heap.size) TI32 TI36 q2 h52 (own_of0 q3 q1) (hty.ext hR) rfl (by decide) (one_exs _) (by rw [maxLen_eq]; omega) (by omega) hR.size (fun v1 w1 a1 a2 a3 a4 => ⟨by rw [Nat.zero_add, List.nil_append] at a1; exact a1, ext_of0 (by decide) q3 a2 a4.1⟩))) ?_
    refine WD.q (fun u w => ∃ kk, u = .agg (dcell D[k] kk).toArray ∧ w.ownsRow we.heap.size 36 7 kk D[k].ty.length (exs D[k].ty)) (fun u w w2 hR hh => by obtain ⟨kk, a1, a2⟩ := hh; exact ⟨kk, a1, own_ext a2 hR⟩) rfl (fun e w hR hh => by obtain ⟨h53, h49, h47, -⟩ := hh; exact SG.n (o_bldC (cs := [_, _, _]) TI34 (Sizes.cons TI9 (Sizes.cons TI3 (Sizes.cons TI32 Sizes.nil))) rfl (lcp h47 (lcp h49 (lcp rfl lnp))) (by simp only [List.all_cons, List.all_nil]; rw [show ev e (.tmp 53) = e 53 from rfl, own_one h53]; rfl) rfl ⟨⟨_, rfl, h53⟩, Only.refl No _⟩)) ?_
    refine WD.q (fun u w => ∃ kk, w.ownsRow we.heap.size 34 3 u 1 (dcell D[k] kk) ∧ w.ownsRow we.heap.size 36 7 kk D[k].ty.length (exs D[k].ty)) (fun u w w2 hR hh => by obtain ⟨kk, a1, a2⟩ := hh; exact ⟨kk, own_ext a1 hR, own_ext a2 hR⟩) rfl (fun e w hR hh => by obtain ⟨h54, -⟩ := hh; rw [← hwe] at hR; obtain ⟨kk, q1, q2⟩ := h54; exact SG.n (o_bs1 TI22 TI34 q1 (by decide) (by decide) rfl ⟨⟨kk, own_mono (own_new1 rfl) hR.size, own_ext q2 (Only.alloc _ _)⟩, Only.alloc w _⟩)) ?_
    rintro e w hR ⟨h55, h54, h53, h52, h51, h50, h49, h48, h47, h46, h45, h44, h1, h2, h3, h4, h5, h6, h7, -⟩
    rw [← hwe] at hR
    replace hx := hx.tr hR
    replace hC1 := hR.blk hC1 (fun h => h)
    replace hC2 := hR.blk hC2 (fun h => h)
    replace hC3 := hR.blk hC3 (fun h => h)
    replace hC4 := hR.blk hC4 (fun h => h)
    replace hC5 := hR.blk hC5 (fun h => h)
    replace hrow := own_ext hrow hR
    replace krow := own_ext krow hR
    replace htys := htys.ext hR
    replace ktys := ktys.ext hR
    replace hty := hty.ext hR
    replace hC7 := hR.blk hC7 (fun h => h)
    obtain ⟨kk, hr55, hkk⟩ := h55
    have hkl5 : ∀ b, v42.ownBlock = some b → b < w.heap.size := fun b hb => (hrow.lt b hb).2
    have hzR := hR.size
    refine WL.c rfl (o_apO (BB) TI22 TI34 h45 rfl krow (Sl.own hr55) rfl (by decide) (by intro a ha; simp only [dcell, List.mem_cons, List.not_mem_nil, or_false] at ha; rcases ha with rfl | rfl | rfl; rfl; rfl; exact own_one hkk) (by rw [maxLen_eq]; omega) (by omega) (by rw [hBB]; exact hx.size) ?_)
    intro v56 w56 krow56 ho56 hb56 _
    have hrl : ∀ b, kv.ownBlock = some b → BB ≤ b := fun b hb => (krow.lt b hb).1
    replace hC1 := ho56.blk hC1 (fun he => own_off krow hC1 (by decide) he)
    replace hC2 := ho56.blk hC2 (fun he => own_off krow hC2 (by decide) he)
    replace hC3 := ho56.blk hC3 (fun he => own_off krow hC3 (by decide) he)
    replace hC4 := ho56.blk hC4 (fun he => own_off krow hC4 (by decide) he)
    replace hC5 := ho56.blk hC5 (fun he => own_off krow hC5 (by decide) he)
    replace htys := htys.other krow (by decide) ho56
    replace ktys := ktys.other krow (by decide) ho56
    replace hkk := own_only hkk ho56 (fun b hb hF => own_row_off krow hkk (by decide) b hb hF)
    replace hrow := own_only hrow ho56 hDj
    have hDj2 : Dj v42 v56 := (hDj.symm.step hb56 hkl5).symm
    replace hx := hx.trans' ho56 (fun _ h => h) (fun b hb he => by have := hrl b he; omega)
    clear krow ho56 hb56
    refine WL.c rfl (o_fa 0 TI24 rfl TI22 rfl h5 ?_)
    refine WL.u (o_stB TI22 rfl (show _ = v56 from rfl) (own_one krow56) hC5 (show 0 < 1 by decide) ?_)
    intro w57 hC5n ho57 hs57
    replace krow56 := own_only krow56 ho57 (fun b hb he => by subst he; exact own_off krow56 hC5 (by decide) hb)
    replace hrow := own_only hrow ho57 (fun b hb he => by subst he; exact own_off hrow hC5 (by decide) hb)
    replace htys := htys.only ho57 (fun j hj b hb he => by subst he; exact own_off (htys.row j hj) hC5 (by decide) hb)
    replace ktys := ktys.only ho57 (fun j hj b hb he => by subst he; exact own_off (ktys.row j hj) hC5 (by decide) hb)
    replace hkk := own_only hkk ho57 (fun b hb he => by subst he; exact own_off hkk hC5 (by decide) hb)
    replace hC1 := ho57.blk hC1 (by omega)
    replace hC2 := ho57.blk hC2 (by omega)
    replace hC3 := ho57.blk hC3 (by omega)
    replace hC4 := ho57.blk hC4 (by omega)
    replace hC5 : w57.heap[c5]? = some (.cells #[v56] 24 (0, 0)) := hC5n
    replace hx := hx.trans' ho57 (fun _ h => h) (fun b hb he => by omega)
    have ktys3 := Many.snocG (X := fun j => exs (tyD D j)) (n := fun j => (tyD D j).length) ktys hkk (by omega) (fun j hj b hb => by have := ktl2 j hj b hb; omega) (by simp only [tyD_at hk1]) (by simp only [tyD_at hk1])
    clear ktys
    have ktys := ktys3
    have krow := krow56
    clear ktys3 krow56
    refine WL.nil ?_
    refine W.region ?_
    refine WL.c rfl (o_mvh h6 ?_)
    refine WL.c rfl (o_addi rfl rfl (by omega) ?_)
    refine WL.c rfl (o_ash (show _ = Value.int _ _ from rfl) ?_)
    refine WL.nil ?_
    refine ⟨⟨k + 1, v42, fun j => if j = k then (.slice (some ⟨g, 0, none⟩) (D[k].ty.length + 1) cap) else U j, v56, fun j => if j = k then kk else KW j, by omega, h1, h2, h3, h4, h5, rfl, hC1, hC2, hC3, hC4, hC5, ?_, htys, ?_, ktys, hDj2, hx⟩, ?_⟩
    · rw [show (fun j => shr (if j = k then (.slice (some ⟨g, 0, none⟩) (D[k].ty.length + 1) cap) else U j)) = (fun j => if j = k then shr (.slice (some ⟨g, 0, none⟩) (D[k].ty.length + 1) cap) else (fun j => shr (U j)) j) from by funext j; split <;> rfl, drowsK_snoc _ _ _ hk1]
      exact hrow
    · rw [drowsK_snoc _ _ _ hk1]; exact krow
    · show D.length - ((k : Int) + 1).toNat < _
      rw [hm6]; simp [intOf]; omega
  · try simp only [decide_eq_true_eq, decide_eq_false_iff_not, Bool.not_eq_true', Bool.not_eq_false', Bool.and_eq_true, Bool.or_eq_true, Bool.and_eq_false_iff, Bool.or_eq_false_iff] at c13
    have hk1 : k = D.length := by omega
    subst hk1
    refine W.exit ?_
    refine W.seq ?_
    refine W.cut (fun e1 w1 => ∃ ww, Ext w0 ww ∧ w1.heap[c2]? = some (.cells #[gv] 24 (0, 0)) ∧ w1.heap[c3]? = some (.cells #[kv] 24 (0, 0)) ∧ e1 2 = .pointer (some ⟨c2, 0, none⟩) ∧ e1 3 = .pointer (some ⟨c3, 0, none⟩) ∧ Lend w1 BB D gv U ∧ Defs w1 BB D kv KW ∧ Ext w0 w1) ?_ ?_
    · -- region 10
      refine W.enum rfl ?_
      have hxd := Only.drew w
      have hLe : Lend w BB D gv U := ⟨hrow, htys⟩
      have hDe : Defs w BB D kv KW := ⟨krow, ktys⟩
      clear hrow htys krow ktys
      replace hC2 := hxd.blk hC2 (fun h => h)
      replace hC3 := hxd.blk hC3 (fun h => h)
      replace hC4 := hxd.blk hC4 (fun h => h)
      replace hC5 := hxd.blk hC5 (fun h => h)
      replace hLe := hLe.ext hxd
      replace hDe := hDe.ext hxd
      replace hx := hx.tr hxd
      clear hxd
      generalize w.drew = wf at *
      have hxf := hx
      have hLo : ∀ b (cs : Array Value), ∀ {w : World}, Lend w BB D gv U → w.heap[b]? = some (.cells cs 24 (0, 0)) → ∀ k, DF gv U D.length k → ¬ k = b := fun b cs {w} hL hB k hk he => by
        subst he
        rcases hk with hk | ⟨j, hj, hk⟩
        · exact own_off hL.row hB (by decide) hk
        · exact own_off (hL.tys.row j hj) hB (by decide) hk
      have hDo : ∀ b (cs : Array Value), ∀ {w : World}, Defs w BB D kv KW → w.heap[b]? = some (.cells cs 24 (0, 0)) → ∀ k, DF kv KW D.length k → ¬ k = b := fun b cs {w} hL hB k hk he => by
        subst he
        rcases hk with hk | ⟨j, hj, hk⟩
        · exact own_off hL.row hB (by decide) hk
        · exact own_off (hL.tys.row j hj) hB (by decide) hk
      refine WA.step (r := [0, 1]) (by kernel_rfl) (by decide) (all2 ?_ ?_)
      · skip
        refine WO.c rfl rfl (o_ldA TI24 rfl h4 (show Cells _ c4 0 [gv] from Cells.of hC4 0 _ (by simp)) rfl ?_)
        refine WA.step (r := [1, 2]) (by kernel_rfl) (by decide) (all2 ?_ ?_)
        · skip
          refine WO.c rfl rfl (o_ldA TI24 rfl h5 (show Cells _ c5 0 [kv] from Cells.of hC5 0 _ (by simp)) rfl ?_)
          refine WA.step (r := [2]) (by kernel_rfl) (by decide) (all1 ?_)
          refine WO.u rfl (o_stA TI24 h2 (show _ = Value.agg #[gv] from rfl) rfl (by simp [own_one hLe.row]) hC2 rfl ?_)
          intro wz hC2z ho hsz
          replace hLe := hLe.only ho (hLo _ _ hLe hC2)
          replace hDe := hDe.only ho (hDo _ _ hDe hC2)
          replace hC3 := ho.blk hC3 (by omega)
          replace hC4 := ho.blk hC4 (by omega)
          replace hC5 := ho.blk hC5 (by omega)
          replace hC2 : wz.heap[c2]? = some (.cells #[gv] 24 (0, 0)) := hC2z
          replace hx := hx.trans' ho (fun _ h => h) (fun b hb he => by omega)
          refine WA.step (r := [3]) (by kernel_rfl) (by decide) (all1 ?_)
          refine WO.u rfl (o_stA TI24 h3 (show _ = Value.agg #[kv] from rfl) rfl (by simp [own_one hDe.row]) hC3 rfl ?_)
          intro wy hC3z ho hsz3
          replace hLe := hLe.only ho (hLo _ _ hLe hC3)
          replace hDe := hDe.only ho (hDo _ _ hDe hC3)
          replace hC2 := ho.blk hC2 (by omega)
          replace hC4 := ho.blk hC4 (by omega)
          replace hC5 := ho.blk hC5 (by omega)
          replace hC3 : wy.heap[c3]? = some (.cells #[kv] 24 (0, 0)) := hC3z
          replace hx := hx.trans' ho (fun _ h => h) (fun b hb he => by omega)
          refine WA.done (by kernel_rfl) ?_
          exact ⟨wf, hxf, hC2, hC3, h2, h3, hLe, hDe, hx⟩
        · skip
          refine WO.u rfl (o_stA TI24 h2 (show _ = Value.agg #[gv] from rfl) rfl (by simp [own_one hLe.row]) hC2 rfl ?_)
          intro wz hC2z ho hsz
          replace hLe := hLe.only ho (hLo _ _ hLe hC2)
          replace hDe := hDe.only ho (hDo _ _ hDe hC2)
          replace hC3 := ho.blk hC3 (by omega)
          replace hC4 := ho.blk hC4 (by omega)
          replace hC5 := ho.blk hC5 (by omega)
          replace hC2 : wz.heap[c2]? = some (.cells #[gv] 24 (0, 0)) := hC2z
          replace hx := hx.trans' ho (fun _ h => h) (fun b hb he => by omega)
          refine WA.step (r := [1]) (by kernel_rfl) (by decide) (all1 ?_)
          refine WO.c rfl rfl (o_ldA TI24 rfl h5 (show Cells _ c5 0 [kv] from Cells.of hC5 0 _ (by simp)) rfl ?_)
          refine WA.step (r := [3]) (by kernel_rfl) (by decide) (all1 ?_)
          refine WO.u rfl (o_stA TI24 h3 (show _ = Value.agg #[kv] from rfl) rfl (by simp [own_one hDe.row]) hC3 rfl ?_)
          intro wy hC3z ho hsz3
          replace hLe := hLe.only ho (hLo _ _ hLe hC3)
          replace hDe := hDe.only ho (hDo _ _ hDe hC3)
          replace hC2 := ho.blk hC2 (by omega)
          replace hC4 := ho.blk hC4 (by omega)
          replace hC5 := ho.blk hC5 (by omega)
          replace hC3 : wy.heap[c3]? = some (.cells #[kv] 24 (0, 0)) := hC3z
          replace hx := hx.trans' ho (fun _ h => h) (fun b hb he => by omega)
          refine WA.done (by kernel_rfl) ?_
          exact ⟨wf, hxf, hC2, hC3, h2, h3, hLe, hDe, hx⟩
      · skip
        refine WO.c rfl rfl (o_ldA TI24 rfl h5 (show Cells _ c5 0 [kv] from Cells.of hC5 0 _ (by simp)) rfl ?_)
        refine WA.step (r := [0]) (by kernel_rfl) (by decide) (all1 ?_)
        refine WO.c rfl rfl (o_ldA TI24 rfl h4 (show Cells _ c4 0 [gv] from Cells.of hC4 0 _ (by simp)) rfl ?_)
        refine WA.step (r := [2]) (by kernel_rfl) (by decide) (all1 ?_)
        refine WO.u rfl (o_stA TI24 h2 (show _ = Value.agg #[gv] from rfl) rfl (by simp [own_one hLe.row]) hC2 rfl ?_)
        intro wz hC2z ho hsz
        replace hLe := hLe.only ho (hLo _ _ hLe hC2)
        replace hDe := hDe.only ho (hDo _ _ hDe hC2)
        replace hC3 := ho.blk hC3 (by omega)
        replace hC4 := ho.blk hC4 (by omega)
        replace hC5 := ho.blk hC5 (by omega)
        replace hC2 : wz.heap[c2]? = some (.cells #[gv] 24 (0, 0)) := hC2z
        replace hx := hx.trans' ho (fun _ h => h) (fun b hb he => by omega)
        refine WA.step (r := [3]) (by kernel_rfl) (by decide) (all1 ?_)
        refine WO.u rfl (o_stA TI24 h3 (show _ = Value.agg #[kv] from rfl) rfl (by simp [own_one hDe.row]) hC3 rfl ?_)
        intro wy hC3z ho hsz3
        replace hLe := hLe.only ho (hLo _ _ hLe hC3)
        replace hDe := hDe.only ho (hDo _ _ hDe hC3)
        replace hC2 := ho.blk hC2 (by omega)
        replace hC4 := ho.blk hC4 (by omega)
        replace hC5 := ho.blk hC5 (by omega)
        replace hC3 : wy.heap[c3]? = some (.cells #[kv] 24 (0, 0)) := hC3z
        replace hx := hx.trans' ho (fun _ h => h) (fun b hb he => by omega)
        refine WA.done (by kernel_rfl) ?_
        exact ⟨wf, hxf, hC2, hC3, h2, h3, hLe, hDe, hx⟩
    rintro e w ⟨ww, hxw, hC2, hC3, h2, h3, hLe, hDe, hx⟩
    refine W.ret ?_
    refine retAA rfl TI24 rfl TI24 rfl h2 h3 (show Cells _ c2 0 [gv] from Cells.of hC2 0 _ (by simp)) rfl (show Cells _ c3 0 [kv] from Cells.of hC3 0 _ (by simp)) rfl ?_
    exact ⟨gv, U, kv, KW, rfl, hLe, hDe, hx⟩
end Go.Proofs.YtanimeifmicmoaaDoor

set_option linter.unusedSimpArgs false
set_option linter.unusedVariables false
set_option maxRecDepth 100000
namespace Go.Proofs.YtanimeifmicmoaaDoor
open Go Go.Vc Go.RowKit Go.Proofs

structure LendR (w : World) (D : List Df) (gv : Value) (U : Nat → Value) : Prop where
  rd : DefR w D gv (fun j => shr (U j))
  full : ∀ j, j < D.length → ∃ g c, U j = .slice (some ⟨g, 0, none⟩) (lenM D j) c ∧ lenM D j ≤ c ∧ Cells w g 0 (rowQ D j)
theorem Lend.rd {w : World} {H : Nat} {D : List Df} {gv : Value} {U : Nat → Value} (h : Lend w H D gv U) : LendR w D gv U := by
  refine ⟨h.defs.rd, fun j hj => ?_⟩
  have hr := h.tys.row j hj
  obtain ⟨g, cap, hU, hgb⟩ := own_some hr (by rw [lenM]; omega)
  have hfm := own_form hr
  obtain ⟨bb, cc, hv, hh⟩ := hfm
  have hs := Sl.own hr
  rw [hU] at hv hs
  cases hv
  refine ⟨g, cap, hU, by omega, ?_⟩
  rcases hs.val with ⟨hz, h0⟩ | ⟨b, o, c, he, hnc, hc⟩
  · exact absurd hz (by rw [lenM]; omega)
  · cases he; exact hc
theorem LendR.ext {w w' : World} {D : List Df} {gv : Value} {U : Nat → Value} (h : LendR w D gv U) (ho : Ext w w') : LendR w' D gv U :=
  ⟨h.rd.ext ho, fun j hj => by obtain ⟨g, c, h1, h2, h3⟩ := h.full j hj; exact ⟨g, c, h1, h2, Cells.only h3 ho (fun h => h)⟩⟩

set_option maxHeartbeats 2000000 in
theorem kept_spec (D : List Df) (gv dv : Value) (U V : Nat → Value) (w0 : World) (hL : LendR w0 D gv U) (hD : DefR w0 D dv V) (hMk : MarkW w0) (hlim : DOk D) : Ca Tryd.prog 13 #[.agg #[gv], .agg #[dv]] w0 (fun v w' => v = .bool true ∧ Ext w0 w') := by
  have hlen := hlim.len
  refine Ca.of Tryd.func13 Tryd.ntmps13 rfl rfl ?_
  refine W.seq ?_
  refine W.region ?_
  refine WL.c rfl (o_boxB rfl ?_)
  intro w2 hC2 hx2 hs2
  obtain ⟨b2, hb2⟩ : ∃ b, b = w0.heap.size := ⟨_, rfl⟩
  rw [← hb2] at hC2 ⊢
  replace hC2 : w2.heap[b2]? = some (.cells ([gv]).toArray 24 (0, 0)) := hC2
  have hx := hx2
  replace hL := hL.ext hx2
  replace hD := hD.ext hx2
  replace hMk := hMk.ext hx2
  refine WL.c rfl (o_boxB rfl ?_)
  intro w3 hC3 hx3 hs3
  obtain ⟨b3, hb3⟩ : ∃ b, b = w2.heap.size := ⟨_, rfl⟩
  rw [← hb3] at hC3 ⊢
  replace hC3 : w3.heap[b3]? = some (.cells ([dv]).toArray 24 (0, 0)) := hC3
  replace hx := hx.tr hx3
  replace hC2 := hx3.blk hC2 (fun h => h)
  replace hL := hL.ext hx3
  replace hD := hD.ext hx3
  replace hMk := hMk.ext hx3
  refine WL.c rfl (o_ash (show _ = Value.bool _ from rfl) ?_)
  refine WL.nil ?_
  refine W.seq ?_
  refine W.seq ?_
  refine W.region ?_
  refine WL.c rfl (o_fa 0 TI24 rfl TI22 rfl rfl ?_)
  refine WL.c rfl (o_ld TI22 rfl rfl (cell_of hC2 rfl) ?_)
  refine WL.c rfl (o_lenR TI22 rfl hL.rd.row ?_)
  refine WL.c rfl (o_fa 0 TI24 rfl TI22 rfl rfl ?_)
  refine WL.c rfl (o_ld TI22 rfl rfl (cell_of hC3 rfl) ?_)
  refine WL.c rfl (o_lenR TI22 rfl hD.row ?_)
  refine WL.c rfl (o_ne rfl rfl ?_)
  refine WL.nil ?_
  refine W.condF' rfl (by simp) ?_
  refine W.skip ?_
  refine W.seq ?_
  refine W.seq ?_
  refine W.region ?_
  refine WL.c rfl (o_ash (show _ = Value.int _ _ from rfl) ?_)
  refine WL.nil ?_
  refine W.block ?_
  refine W.loop (fun e w => ∃ k : Nat, k ≤ D.length ∧ e 2 = .pointer (some ⟨b2, 0, none⟩) ∧ e 3 = .pointer (some ⟨b3, 0, none⟩) ∧ e 5 = .int .i64 (k : Int) ∧ w.heap[b2]? = some (.cells #[gv] 24 (0, 0)) ∧ w.heap[b3]? = some (.cells #[dv] 24 (0, 0)) ∧ LendR w D gv U ∧ DefR w D dv V ∧ MarkW w ∧ Ext w0 w) (fun e w => D.length - (intOf (e 5)).toNat) ?_ ?_
  · exact ⟨0, Nat.zero_le _, rfl, rfl, rfl, hC2, hC3, hL, hD, hMk, hx⟩
  rintro e w ⟨k, hk, h2, h3, h5, hC2, hC3, hL, hD, hMk, hx⟩
  have hm5 := h5
  refine W.seq ?_
  refine W.seq ?_
  refine W.region ?_
  refine WL.c rfl (o_mvh h5 ?_)
  refine WL.c rfl (o_fa 0 TI24 rfl TI22 rfl h2 ?_)
  refine WL.c rfl (o_ld TI22 rfl rfl (cell_of hC2 rfl) ?_)
  refine WL.c rfl (o_lenR TI22 rfl hL.rd.row ?_)
  refine WL.c rfl (o_lt rfl rfl ?_)
  refine WL.nil ?_
  refine W.cond rfl (fun c20 => ?_) (fun c20 => ?_)
  · try simp only [decide_eq_true_eq, decide_eq_false_iff_not, Bool.not_eq_true', Bool.not_eq_false', Bool.and_eq_true, Bool.or_eq_true, Bool.and_eq_false_iff, Bool.or_eq_false_iff] at c20
    have hk1 : k < D.length := by omega
    have htl := hlim.ty _ (List.getElem_mem hk1)
    obtain ⟨tb, to_, tc, rfl, htc, hty⟩ := hL.rd.atk hk1
    obtain ⟨tb2, to2, tc2, rfl, htc2, hty2⟩ := hD.atk hk1
    obtain ⟨g, cc, hU, hcc, hfull⟩ := hL.full k hk1
    rw [lenM, tyD_at hk1] at hU hcc
    rw [rowQ, tyD_at hk1] at hfull
    rw [hU, shr_s] at htc hty
    refine W.skip ?_
    refine W.seq ?_
    refine W.block ?_
    refine W.seq ?_
    refine W.region ?_
    refine WL.c rfl (o_fa 0 TI24 rfl TI22 rfl h2 ?_)
    refine WL.c rfl (o_ld TI22 rfl rfl (cell_of hC2 rfl) ?_)
    refine WL.c rfl (o_mvh h5 ?_)
    refine WL.c rfl (o_ixB TI22 TI34 rfl rfl (by omega) ?_)
    refine WL.c rfl (o_ldA TI34 rfl rfl htc rfl ?_)
    refine WL.c rfl (o_alB TI34 ?_)
    intro wa hCa hxa hsa
    refine WL.u (o_stA TI34 rfl (show _ = Value.agg (dcell D[k] (Value.slice (some ⟨g, 0, none⟩) D[k].ty.length cc)).toArray from rfl) rfl (by simp only [dcell, List.toArray, Array.toList, List.all_cons, List.all_nil, sl_one1 hty]; rfl) hCa rfl ?_)
    intro wb6 hC6 hob hsb
    have hxb := Ext.own hxa (Nat.le_refl _) hob
    obtain ⟨b6, hb6⟩ : ∃ b, b = w.heap.size := ⟨_, rfl⟩
    rw [← hb6] at hC6 ⊢
    clear hCa hxa hsa hob hsb
    replace hx := hx.tr hxb
    replace hC2 := hxb.blk hC2 (fun h => h)
    replace hC3 := hxb.blk hC3 (fun h => h)
    replace hL := hL.ext hxb
    replace hD := hD.ext hxb
    replace hMk := hMk.ext hxb
    replace hty := hty.ext hxb
    replace hty2 := hty2.ext hxb
    replace htc := Cells.only htc hxb (fun h => h)
    replace htc2 := Cells.only htc2 hxb (fun h => h)
    replace hfull := Cells.only hfull hxb (fun h => h)
    clear hxb
    refine WL.nil ?_
    refine W.seq ?_
    refine W.region ?_
    refine WL.c rfl (o_fa 0 TI24 rfl TI22 rfl h3 ?_)
    refine WL.c rfl (o_ld TI22 rfl rfl (cell_of hC3 rfl) ?_)
    refine WL.c rfl (o_mvh h5 ?_)
    refine WL.c rfl (o_ixB TI22 TI34 rfl rfl (by omega) ?_)
    refine WL.c rfl (o_ldA TI34 rfl rfl htc2 rfl ?_)
    refine WL.c rfl (o_alB TI34 ?_)
    intro wa hCa hxa hsa
    refine WL.u (o_stA TI34 rfl (show _ = Value.agg (dcell D[k] (V k)).toArray from rfl) rfl (by simp only [dcell, List.toArray, Array.toList, List.all_cons, List.all_nil, sl_one1 hty2]; rfl) hCa rfl ?_)
    intro wb7 hC7 hob hsb
    have hxb := Ext.own hxa (Nat.le_refl _) hob
    obtain ⟨b7, hb7⟩ : ∃ b, b = wb6.heap.size := ⟨_, rfl⟩
    rw [← hb7] at hC7 ⊢
    clear hCa hxa hsa hob hsb
    replace hx := hx.tr hxb
    replace hC2 := hxb.blk hC2 (fun h => h)
    replace hC3 := hxb.blk hC3 (fun h => h)
    replace hL := hL.ext hxb
    replace hD := hD.ext hxb
    replace hMk := hMk.ext hxb
    replace hC6 := hxb.blk hC6 (fun h => h)
    replace hty := hty.ext hxb
    replace hty2 := hty2.ext hxb
    replace htc := Cells.only htc hxb (fun h => h)
    replace htc2 := Cells.only htc2 hxb (fun h => h)
    replace hfull := Cells.only hfull hxb (fun h => h)
    clear hxb
    refine WL.nil ?_
    refine W.seq ?_
    refine W.seq ?_
    refine W.region ?_
    refine WL.c rfl (o_fa 0 TI34 rfl TI9 rfl rfl ?_)
    refine WL.c rfl (o_ld TI9 rfl rfl (cell_of hC6 rfl) ?_)
    refine WL.c rfl (o_fa 0 TI34 rfl TI9 rfl rfl ?_)
    refine WL.c rfl (o_ld TI9 rfl rfl (cell_of hC7 rfl) ?_)
    refine WL.c rfl (o_neT rfl rfl ?_)
    refine WL.c rfl (o_mvh (show _ = Value.bool _ from rfl) ?_)
    refine WL.g rfl (by simp) rfl (o_fa 1 TI34 rfl TI3 rfl rfl ?_)
    refine WL.g rfl (by simp) rfl (o_ld TI3 rfl rfl (cell_of hC6 rfl) ?_)
    refine WL.g rfl (by simp) rfl (o_fa 1 TI34 rfl TI3 rfl rfl ?_)
    refine WL.g rfl (by simp) rfl (o_ld TI3 rfl rfl (cell_of hC7 rfl) ?_)
    refine WL.g rfl (by simp) rfl (o_ne rfl rfl ?_)
    refine WL.c rfl (o_pickO rfl rfl ?_)
    refine WL.c rfl (o_mvh (show _ = Value.bool _ from rfl) ?_)
    refine WL.g rfl (by simp) rfl (o_fa 2 TI34 rfl TI32 rfl rfl ?_)
    refine WL.g rfl (by simp) rfl (o_ld TI32 rfl rfl (cell_of hC6 rfl) ?_)
    refine WL.g rfl (by simp) rfl (o_lenR TI32 rfl hty ?_)
    refine WL.g rfl (by simp) rfl (o_fa 2 TI34 rfl TI32 rfl rfl ?_)
    refine WL.g rfl (by simp) rfl (o_ld TI32 rfl rfl (cell_of hC7 rfl) ?_)
    refine WL.g rfl (by simp) rfl (o_lenR TI32 rfl hty2 ?_)
    refine WL.g rfl (by simp) rfl (o_ne rfl rfl ?_)
    refine WL.c rfl (o_pickO rfl rfl ?_)
    refine WL.nil ?_
    refine W.condF' rfl (by simp) ?_
    refine W.skip ?_
    refine W.seq ?_
    refine W.seq ?_
    refine W.region ?_
    refine WL.c rfl (o_ash (show _ = Value.int _ _ from rfl) ?_)
    refine WL.nil ?_
    refine W.block ?_
    refine W.loop (fun e w => ∃ j : Nat, j ≤ D[k].ty.length ∧ e 2 = .pointer (some ⟨b2, 0, none⟩) ∧ e 3 = .pointer (some ⟨b3, 0, none⟩) ∧ e 5 = .int .i64 (k : Int) ∧ e 6 = .pointer (some ⟨b6, 0, none⟩) ∧ e 7 = .pointer (some ⟨b7, 0, none⟩) ∧ e 8 = .int .i64 (j : Int) ∧ w.heap[b2]? = some (.cells #[(Value.slice (some ⟨tb, to_, none⟩) D.length tc)] 24 (0, 0)) ∧ w.heap[b3]? = some (.cells #[(Value.slice (some ⟨tb2, to2, none⟩) D.length tc2)] 24 (0, 0)) ∧ LendR w D (Value.slice (some ⟨tb, to_, none⟩) D.length tc) U ∧ DefR w D (Value.slice (some ⟨tb2, to2, none⟩) D.length tc2) V ∧ MarkW w ∧ w.heap[b6]? = some (.cells (dcell D[k] (Value.slice (some ⟨g, 0, none⟩) D[k].ty.length cc)).toArray 34 (0, 0)) ∧ w.heap[b7]? = some (.cells (dcell D[k] (V k)).toArray 34 (0, 0)) ∧ Sl w 7 (Value.slice (some ⟨g, 0, none⟩) D[k].ty.length cc) D[k].ty.length (exs D[k].ty) ∧ Sl w 7 (V k) D[k].ty.length (exs D[k].ty) ∧ Cells w g 0 (exs D[k].ty ++ exV exMk) ∧ Ext w0 w) (fun e w => D[k].ty.length - (intOf (e 8)).toNat) ?_ ?_
    · exact ⟨0, Nat.zero_le _, h2, h3, h5, rfl, rfl, rfl, hC2, hC3, hL, hD, hMk, hC6, hC7, hty, hty2, hfull, hx⟩
    rintro e w ⟨j, hj, h2, h3, h5, h6, h7, h8, hC2, hC3, hL, hD, hMk, hC6, hC7, hty, hty2, hfull, hx⟩
    have hm8 := h8
    refine W.seq ?_
    refine W.seq ?_
    refine W.region ?_
    refine WL.c rfl (o_mvh h8 ?_)
    refine WL.c rfl (o_fa 2 TI34 rfl TI32 rfl h6 ?_)
    refine WL.c rfl (o_ld TI32 rfl rfl (cell_of hC6 rfl) ?_)
    refine WL.c rfl (o_lenR TI32 rfl hty ?_)
    refine WL.c rfl (o_lt rfl rfl ?_)
    refine WL.nil ?_
    refine W.cond rfl (fun c58 => ?_) (fun c58 => ?_)
    · try simp only [decide_eq_true_eq, decide_eq_false_iff_not, Bool.not_eq_true', Bool.not_eq_false', Bool.and_eq_true, Bool.or_eq_true, Bool.and_eq_false_iff, Bool.or_eq_false_iff] at c58
      have hj1 : j < D[k].ty.length := by omega
      obtain ⟨ub, uo, uc, hV1, huc⟩ := Sl.exq hty hj1
      obtain ⟨ub2, uo2, uc2, hV2, huc2⟩ := Sl.exq hty2 hj1
      refine W.skip ?_
      refine W.seq ?_
      refine W.block ?_
      refine W.seq ?_
      refine W.quiet rfl (by kernel_rfl) ?_
      refine WQ.c rfl ((QO.o rfl fun _ => o_fa 2 TI34 rfl TI32 rfl h6 ⟨rfl, rfl⟩)) ?_
      refine WQ.c rfl ((QO.o rfl fun _ => o_ld TI32 rfl rfl (cell_of hC6 rfl) ⟨rfl, rfl⟩)) ?_
      refine WQ.c rfl ((QO.o rfl fun _ => o_mvh h8 ⟨rfl, rfl⟩)) ?_
      refine WQ.c rfl ((QO.o rfl fun _ => o_ixB (i := j) TI32 TI36 (show _ = _ from hV1) rfl (by omega) ⟨rfl, rfl⟩)) ?_
      refine WQ.c rfl ((QO.o rfl fun _ => o_ldA TI36 rfl rfl huc rfl ⟨rfl, rfl⟩)) ?_
      refine WQ.c rfl ((QO.o rfl fun _ => o_fa 2 TI34 rfl TI32 rfl h7 ⟨rfl, rfl⟩)) ?_
      refine WQ.c rfl ((QO.o rfl fun _ => o_ld TI32 rfl rfl (cell_of hC7 rfl) ⟨rfl, rfl⟩)) ?_
      refine WQ.c rfl ((QO.o rfl fun _ => o_mvh h8 ⟨rfl, rfl⟩)) ?_
      refine WQ.c rfl ((QO.o rfl fun _ => o_ixB (i := j) TI32 TI36 (show _ = _ from hV2) rfl (by omega) ⟨rfl, rfl⟩)) ?_
      refine WQ.c rfl ((QO.o rfl fun _ => o_ldA TI36 rfl rfl huc2 rfl ⟨rfl, rfl⟩)) ?_
      refine WQ.c rfl ((QO.o rfl fun _ => o_neR TI36 (by kernel_rfl) (by kernel_rfl) rfl rfl (.int TI3 (by decide) rfl rfl (.int TI3 (by decide) rfl rfl (.str TI9 (by decide) rfl rfl (.str TI9 (by decide) rfl rfl (.int TI3 (by decide) rfl rfl (.int TI3 (by decide) rfl rfl (.int TI3 (by decide) rfl rfl .nil))))))) ⟨rfl, rfl⟩)) ?_
      refine WQ.nil ?_
      intro nq
      replace hx := hx.tr (Only.drewN w nq)
      replace hC2 := (Only.drewN w nq).blk hC2 (fun h => h)
      replace hC3 := (Only.drewN w nq).blk hC3 (fun h => h)
      replace hL := hL.ext (Only.drewN w nq)
      replace hD := hD.ext (Only.drewN w nq)
      replace hMk := hMk.ext (Only.drewN w nq)
      replace hC6 := (Only.drewN w nq).blk hC6 (fun h => h)
      replace hC7 := (Only.drewN w nq).blk hC7 (fun h => h)
      replace hty := hty.ext (Only.drewN w nq)
      replace hty2 := hty2.ext (Only.drewN w nq)
      refine W.condF' rfl (by simp) ?_
      refine W.skip ?_
      refine W.region ?_
      refine WL.c rfl (o_mvh h8 ?_)
      refine WL.c rfl (o_addi rfl rfl (by omega) ?_)
      refine WL.c rfl (o_ash (show _ = Value.int _ _ from rfl) ?_)
      refine WL.nil ?_
      refine ⟨⟨j + 1, by omega, h2, h3, h5, h6, h7, rfl, hC2, hC3, hL, hD, hMk, hC6, hC7, hty, hty2, hfull, hx⟩, ?_⟩
      show D[k].ty.length - ((j : Int) + 1).toNat < _
      rw [hm8]; simp [intOf]; omega
    · try simp only [decide_eq_true_eq, decide_eq_false_iff_not, Bool.not_eq_true', Bool.not_eq_false', Bool.and_eq_true, Bool.or_eq_true, Bool.and_eq_false_iff, Bool.or_eq_false_iff] at c58
      have hj1 : j = D[k].ty.length := by omega
      have hmkc : Cells w g (0 + D[k].ty.length * 7) (exV exMk) := fun i v hi => by have h1 := hfull (D[k].ty.length * 7 + i) v (by rw [List.getElem?_append_right (by rw [exs_len]; omega), exs_len, Nat.add_sub_cancel_left]; exact hi); rwa [← Nat.add_assoc] at h1
      refine W.exit ?_
      refine W.seq ?_
      refine W.quiet rfl (by kernel_rfl) ?_
      refine WQ.c rfl ((QO.o rfl fun _ => o_fa 2 TI34 rfl TI32 rfl h6 ⟨rfl, rfl⟩)) ?_
      refine WQ.c rfl ((QO.o rfl fun _ => o_ld TI32 rfl rfl (cell_of hC6 rfl) ⟨rfl, rfl⟩)) ?_
      refine WQ.c rfl ((QO.o rfl fun _ => o_fa 2 TI34 rfl TI32 rfl h6 ⟨rfl, rfl⟩)) ?_
      refine WQ.c rfl ((QO.o rfl fun _ => o_ld TI32 rfl rfl (cell_of hC6 rfl) ⟨rfl, rfl⟩)) ?_
      refine WQ.c rfl ((QO.r fun _ => r_lenR TI32 rfl hty)) ?_
      refine WQ.c rfl ((QO.o rfl fun _ => o_addi rfl rfl (by omega) ⟨rfl, rfl⟩)) ?_
      refine WQ.c rfl ((QO.o rfl fun _ => o_slv (h := D[k].ty.length + 1) TI32 TI36 rfl Lo.n (Hi.s rfl) (Nat.zero_le _) (by omega) ⟨rfl, (sliced0 _ _ _ _).symm⟩)) ?_
      refine WQ.c rfl ((QO.o rfl fun _ => o_fa 2 TI34 rfl TI32 rfl h6 ⟨rfl, rfl⟩)) ?_
      refine WQ.c rfl ((QO.o rfl fun _ => o_ld TI32 rfl rfl (cell_of hC6 rfl) ⟨rfl, rfl⟩)) ?_
      refine WQ.c rfl ((QO.r fun _ => r_lenR TI32 rfl hty)) ?_
      refine WQ.c rfl ((QO.o rfl fun _ => o_ixB (i := D[k].ty.length) TI32 TI36 (show _ = Value.slice (some ⟨g, 0, none⟩) (D[k].ty.length + 1) cc from rfl) rfl (by omega) ⟨rfl, rfl⟩)) ?_
      refine WQ.c rfl ((QO.o rfl fun _ => o_ldA TI36 rfl rfl hmkc rfl ⟨rfl, rfl⟩)) ?_
      refine WQ.c rfl ((QO.o rfl fun _ => o_ldA TI36 rfl rfl hMk.cells rfl ⟨rfl, rfl⟩)) ?_
      refine WQ.c rfl ((QO.o rfl fun _ => o_neR TI36 (by kernel_rfl) (by kernel_rfl) rfl rfl (.int TI3 (by decide) rfl rfl (.int TI3 (by decide) rfl rfl (.str TI9 (by decide) rfl rfl (.str TI9 (by decide) rfl rfl (.int TI3 (by decide) rfl rfl (.int TI3 (by decide) rfl rfl (.int TI3 (by decide) rfl rfl .nil))))))) ⟨rfl, rfl⟩)) ?_
      refine WQ.nil ?_
      intro nq
      replace hx := hx.tr (Only.drewN w nq)
      replace hC2 := (Only.drewN w nq).blk hC2 (fun h => h)
      replace hC3 := (Only.drewN w nq).blk hC3 (fun h => h)
      replace hL := hL.ext (Only.drewN w nq)
      replace hD := hD.ext (Only.drewN w nq)
      replace hMk := hMk.ext (Only.drewN w nq)
      refine W.condF' rfl (by simp) ?_
      refine W.skip ?_
      refine W.region ?_
      refine WL.c rfl (o_mvh h5 ?_)
      refine WL.c rfl (o_addi rfl rfl (by omega) ?_)
      refine WL.c rfl (o_ash (show _ = Value.int _ _ from rfl) ?_)
      refine WL.nil ?_
      refine ⟨⟨k + 1, by omega, h2, h3, rfl, hC2, hC3, hL, hD, hMk, hx⟩, ?_⟩
      show D.length - ((k : Int) + 1).toNat < _
      rw [hm5]; simp [intOf]; omega
  · try simp only [decide_eq_true_eq, decide_eq_false_iff_not, Bool.not_eq_true', Bool.not_eq_false', Bool.and_eq_true, Bool.or_eq_true, Bool.and_eq_false_iff, Bool.or_eq_false_iff] at c20
    have hk1 : k = D.length := by omega
    refine W.exit ?_
    refine W.seq ?_
    refine W.region ?_
    refine WL.c rfl (o_ash (show _ = Value.bool _ from rfl) ?_)
    refine WL.nil ?_
    refine W.ret ?_
    refine ret1v rfl (show _ = Value.bool _ from rfl) ?_
    exact ⟨rfl, hx⟩
end Go.Proofs.YtanimeifmicmoaaDoor

set_option linter.unusedSimpArgs false
set_option linter.unusedVariables false
set_option maxRecDepth 100000
namespace Go.Proofs.YtanimeifmicmoaaDoor
open Go Go.Vc Go.RowKit Go.Proofs

theorem print_any (D : List Df) (hlim : DOk D) (hszD : ∀ d ∈ D, d.ty.length ≤ 1048576) : ∃ tx er, (∀ dv V w0, DefR w0 D dv V → Tab w0 → 1 < w0.heap.size → Ca Tryd.prog 9 #[.agg #[dv]] w0 (fun u w' => u = .tuple #[st tx, .int .i64 er] ∧ Ext w0 w')) ∧ (∀ dv V w0, DefR w0 D dv V → Tab w0 → Ca Tryd.prog 11 #[.agg #[dv]] w0 (fun u w' => u = .tuple #[st tx, .int .i64 er] ∧ Ext w0 w')) := by
  by_cases hck : (chkS D).2.2 = 0
  · obtain ⟨h256, l, hws, hmap⟩ := chkS_trees hck
    have hbl : (shDefs l).length ≤ 140737488355328 := by
      have h1 := shDefs_len D l hws hmap hszD
      have h2 : D.length * 83887080 ≤ 256 * 83887080 := Nat.mul_le_mul_right _ h256
      omega
    by_cases h65 : 65536 < (shDefs l).length
    · refine ⟨[], 4, fun dv V w0 hD hT h1 => (print_spec D dv V w0 hD hlim.lim hT h1 hck l hws hmap hbl).mono ?_, fun dv V w0 hD hT => (rprint_spec D dv V w0 hD hlim.lim hT hck l hws hmap hbl).mono ?_⟩ <;>
      · rintro v w ⟨rfl, hx⟩
        rw [if_pos h65]
        exact ⟨rfl, hx⟩
    · refine ⟨shDefs l, 0, fun dv V w0 hD hT h1 => (print_spec D dv V w0 hD hlim.lim hT h1 hck l hws hmap hbl).mono ?_, fun dv V w0 hD hT => (rprint_spec D dv V w0 hD hlim.lim hT hck l hws hmap hbl).mono ?_⟩ <;>
      · rintro v w ⟨rfl, hx⟩
        rw [if_neg h65]
        exact ⟨rfl, hx⟩
  · exact ⟨[], ((chkS D).2.2 : Int), fun dv V w0 hD hT h1 => print_bad D dv V w0 hD hlim.lim hck, fun dv V w0 hD hT => rprint_bad D dv V w0 hD hlim.lim hck⟩

set_option maxHeartbeats 2000000 in
theorem sexact_walk (w0 : World) (D1 : List Df) (dv1 : Value) (V1 : Nat → Value) (hD1 : DefR w0 D1 dv1 V1) (hlim1 : DOk D1) (hsz1 : ∀ d ∈ D1, d.ty.length ≤ 1048576) (D2 : List Df) (dv2 : Value) (V2 : Nat → Value) (hD2 : DefR w0 D2 dv2 V2) (hlim2 : DOk D2) (hsz2 : ∀ d ∈ D2, d.ty.length ≤ 1048576) (hT : Tab w0) (h1H : 1 < w0.heap.size) (hMk : MarkW w0) : Ca Tryd.prog 3 #[.agg #[dv1], .agg #[dv2]] w0 (fun v w' => v = .bool true ∧ Ext w0 w') := by
  have hn1 := hlim1.len
  have hn2 := hlim2.len
  have ht1 : ∀ d ∈ D1, d.ty.length ≤ 4611686018427387904 := fun d hd => by have := hsz1 d hd; omega
  obtain ⟨tx, er, hP1, hP2⟩ := print_any D1 hlim1 hsz1
  have ht2 : ∀ d ∈ D2, d.ty.length ≤ 4611686018427387904 := fun d hd => by have := hsz2 d hd; omega
  refine Ca.of Tryd.func3 Tryd.ntmps3 rfl rfl ?_
  refine W.seq ?_
  refine W.region ?_
  refine WL.c rfl (o_boxB rfl ?_)
  intro w2 hC2 hx2 hs2
  obtain ⟨b2, hb2⟩ : ∃ b, b = w0.heap.size := ⟨_, rfl⟩
  rw [← hb2] at hC2 ⊢
  replace hC2 : w2.heap[b2]? = some (.cells ([dv1]).toArray 24 (0, 0)) := hC2
  have hx := hx2
  replace hD1 := hD1.ext hx2
  replace hD2 := hD2.ext hx2
  replace hT := hT.ext hx2
  replace hMk := hMk.ext hx2
  refine WL.c rfl (o_boxB rfl ?_)
  intro w3 hC3 hx3 hs3
  obtain ⟨b3, hb3⟩ : ∃ b, b = w2.heap.size := ⟨_, rfl⟩
  rw [← hb3] at hC3 ⊢
  replace hC3 : w3.heap[b3]? = some (.cells ([dv2]).toArray 24 (0, 0)) := hC3
  replace hx := hx.tr hx3
  replace hC2 := hx3.blk hC2 (fun h => h)
  replace hD1 := hD1.ext hx3
  replace hD2 := hD2.ext hx3
  replace hT := hT.ext hx3
  replace hMk := hMk.ext hx3
  refine WL.c rfl (o_ash (show _ = Value.bool _ from rfl) ?_)
  refine WL.nil ?_
  refine W.seq ?_
  refine W.seq ?_
  refine W.region ?_
  refine WL.c rfl (o_call Tryd.call7 ln ((awake_spec _ hT (by have := hx.size; omega)).mono ?_))
  rintro v17 w17 ⟨rfl, hx17⟩
  replace hx := hx.tr hx17
  replace hC2 := hx17.blk hC2 (fun h => h)
  replace hC3 := hx17.blk hC3 (fun h => h)
  replace hD1 := hD1.ext hx17
  replace hD2 := hD2.ext hx17
  replace hT := hT.ext hx17
  replace hMk := hMk.ext hx17
  refine WL.c rfl (o_not' rfl ?_)
  refine WL.nil ?_
  refine W.condF' rfl (rfl) ?_
  refine W.skip ?_
  refine W.seq ?_
  refine W.region ?_
  refine WL.c rfl (o_ldA TI24 rfl rfl (show Cells _ b2 0 [dv1] from Cells.of hC2 0 _ (by simp)) rfl ?_)
  refine WL.c rfl (o_call Tryd.call8 (lc rfl ln) ((copied_spec D1 dv1 V1 _ hD1 hlim1 hMk).mono ?_))
  rintro v21 w21 ⟨gv21, U21, kv21, KW21, rfl, hLe21, hDe21, hxp21⟩
  replace hx := hx.tr hxp21
  replace hC2 := hxp21.blk hC2 (fun h => h)
  replace hC3 := hxp21.blk hC3 (fun h => h)
  replace hD1 := hD1.ext hxp21
  replace hD2 := hD2.ext hxp21
  replace hT := hT.ext hxp21
  replace hMk := hMk.ext hxp21
  have og21 := own_one hLe21.row
  have ok21 := own_one hDe21.row
  have hL21 := hLe21.rd
  have hK21 := hDe21.rd
  clear hLe21 hDe21 hxp21
  refine WL.c rfl (o_mvh (by first | exact (show _ = Value.tuple _ from rfl) | exact rfl) ?_)
  refine WL.c rfl (o_ext rfl rfl ?_)
  refine WL.c rfl (o_ext rfl rfl ?_)
  refine WL.c rfl (o_alB TI24 ?_)
  intro wa hCs hxs hss
  refine WL.c rfl (o_alB TI24 ?_)
  intro wb hCf hxf hsf
  replace hCs := hxf.blk hCs (fun h => h)
  refine WL.u (o_stA TI24 rfl (show _ = Value.agg #[gv21] from rfl) rfl (by simp [og21]) hCs rfl ?_)
  intro wc hB5 hos hsz
  replace hCf := hos.blk hCf (by omega)
  refine WL.u (o_stA TI24 rfl (show _ = Value.agg #[kv21] from rfl) rfl (by simp [ok21]) hCf rfl ?_)
  intro w6z hB6 hof hsz2
  replace hB5 := hof.blk hB5 (by omega)
  have hxn : Ext w21 w6z := ((hxs.tr hxf).trans' hos (fun _ h => h) (fun k hk he => by omega)).trans' hof (fun _ h => h) (fun k hk he => by omega)
  obtain ⟨b5, hb5⟩ : ∃ b, b = w21.heap.size := ⟨_, rfl⟩
  obtain ⟨b6, hb6⟩ : ∃ b, b = wa.heap.size := ⟨_, rfl⟩
  rw [← hb5] at hB5 ⊢
  rw [← hb6] at hB6 ⊢
  replace hB5 : w6z.heap[b5]? = some (.cells #[gv21] 24 (0, 0)) := hB5
  replace hB6 : w6z.heap[b6]? = some (.cells #[kv21] 24 (0, 0)) := hB6
  clear hCs hCf hos hof
  replace hx := hx.tr hxn
  replace hC2 := hxn.blk hC2 (fun h => h)
  replace hC3 := hxn.blk hC3 (fun h => h)
  replace hD1 := hD1.ext hxn
  replace hD2 := hD2.ext hxn
  replace hT := hT.ext hxn
  replace hMk := hMk.ext hxn
  replace hL21 := hL21.ext hxn
  replace hK21 := hK21.ext hxn
  clear hxn
  refine WL.nil ?_
  refine W.seq ?_
  refine W.region ?_
  refine WL.c rfl (o_ldA TI24 rfl rfl (show Cells _ b3 0 [dv2] from Cells.of hC3 0 _ (by simp)) rfl ?_)
  refine WL.c rfl (o_call Tryd.call8 (lc rfl ln) ((copied_spec D2 dv2 V2 _ hD2 hlim2 hMk).mono ?_))
  rintro v26 w26 ⟨gv26, U26, kv26, KW26, rfl, hLe26, hDe26, hxp26⟩
  replace hx := hx.tr hxp26
  replace hC2 := hxp26.blk hC2 (fun h => h)
  replace hC3 := hxp26.blk hC3 (fun h => h)
  replace hD1 := hD1.ext hxp26
  replace hD2 := hD2.ext hxp26
  replace hT := hT.ext hxp26
  replace hMk := hMk.ext hxp26
  replace hB5 := hxp26.blk hB5 (fun h => h)
  replace hB6 := hxp26.blk hB6 (fun h => h)
  replace hL21 := hL21.ext hxp26
  replace hK21 := hK21.ext hxp26
  have og26 := own_one hLe26.row
  have ok26 := own_one hDe26.row
  have hL26 := hLe26.rd
  have hK26 := hDe26.rd
  clear hLe26 hDe26 hxp26
  refine WL.c rfl (o_mvh (by first | exact (show _ = Value.tuple _ from rfl) | exact rfl) ?_)
  refine WL.c rfl (o_ext rfl rfl ?_)
  refine WL.c rfl (o_ext rfl rfl ?_)
  refine WL.c rfl (o_alB TI24 ?_)
  intro wa hCs hxs hss
  refine WL.c rfl (o_alB TI24 ?_)
  intro wb hCf hxf hsf
  replace hCs := hxf.blk hCs (fun h => h)
  refine WL.u (o_stA TI24 rfl (show _ = Value.agg #[gv26] from rfl) rfl (by simp [og26]) hCs rfl ?_)
  intro wc hB7 hos hsz
  replace hCf := hos.blk hCf (by omega)
  refine WL.u (o_stA TI24 rfl (show _ = Value.agg #[kv26] from rfl) rfl (by simp [ok26]) hCf rfl ?_)
  intro w8z hB8 hof hsz2
  replace hB7 := hof.blk hB7 (by omega)
  have hxn : Ext w26 w8z := ((hxs.tr hxf).trans' hos (fun _ h => h) (fun k hk he => by omega)).trans' hof (fun _ h => h) (fun k hk he => by omega)
  obtain ⟨b7, hb7⟩ : ∃ b, b = w26.heap.size := ⟨_, rfl⟩
  obtain ⟨b8, hb8⟩ : ∃ b, b = wa.heap.size := ⟨_, rfl⟩
  rw [← hb7] at hB7 ⊢
  rw [← hb8] at hB8 ⊢
  replace hB7 : w8z.heap[b7]? = some (.cells #[gv26] 24 (0, 0)) := hB7
  replace hB8 : w8z.heap[b8]? = some (.cells #[kv26] 24 (0, 0)) := hB8
  clear hCs hCf hos hof
  replace hx := hx.tr hxn
  replace hC2 := hxn.blk hC2 (fun h => h)
  replace hC3 := hxn.blk hC3 (fun h => h)
  replace hD1 := hD1.ext hxn
  replace hD2 := hD2.ext hxn
  replace hT := hT.ext hxn
  replace hMk := hMk.ext hxn
  replace hB5 := hxn.blk hB5 (fun h => h)
  replace hB6 := hxn.blk hB6 (fun h => h)
  replace hL21 := hL21.ext hxn
  replace hK21 := hK21.ext hxn
  replace hL26 := hL26.ext hxn
  replace hK26 := hK26.ext hxn
  clear hxn
  refine WL.nil ?_
  refine W.seq ?_
  refine W.region ?_
  refine WL.c rfl (o_ldA TI24 rfl rfl (show Cells _ b5 0 [gv21] from Cells.of hB5 0 _ (by simp)) rfl ?_)
  refine WL.c rfl (o_call Tryd.call9 (lc rfl ln) ((hP1 _ _ _ hL21.rd hT (by have := hx.size; omega)).mono ?_))
  rintro v31 w31 ⟨rfl, hx31⟩
  replace hx := hx.tr hx31
  replace hC2 := hx31.blk hC2 (fun h => h)
  replace hC3 := hx31.blk hC3 (fun h => h)
  replace hD1 := hD1.ext hx31
  replace hD2 := hD2.ext hx31
  replace hT := hT.ext hx31
  replace hMk := hMk.ext hx31
  replace hB5 := hx31.blk hB5 (fun h => h)
  replace hB6 := hx31.blk hB6 (fun h => h)
  replace hL21 := hL21.ext hx31
  replace hK21 := hK21.ext hx31
  replace hB7 := hx31.blk hB7 (fun h => h)
  replace hB8 := hx31.blk hB8 (fun h => h)
  replace hL26 := hL26.ext hx31
  replace hK26 := hK26.ext hx31
  refine WL.c rfl (o_mvh (by first | exact (show _ = Value.tuple _ from rfl) | exact rfl) ?_)
  refine WL.c rfl (o_ext rfl rfl ?_)
  refine WL.c rfl (o_ext rfl rfl ?_)
  refine WL.c rfl (o_ash (show _ = Value.string _ from rfl) ?_)
  refine WL.c rfl (o_ash (show _ = Value.int _ _ from rfl) ?_)
  refine WL.nil ?_
  refine W.seq ?_
  refine W.region ?_
  refine WL.c rfl (o_ldA TI24 rfl rfl (show Cells _ b5 0 [gv21] from Cells.of hB5 0 _ (by simp)) rfl ?_)
  refine WL.c rfl (o_ldA TI24 rfl rfl (show Cells _ b7 0 [gv26] from Cells.of hB7 0 _ (by simp)) rfl ?_)
  refine WL.c rfl (o_call Tryd.call10 (lc rfl (lc rfl ln)) ((ssame_spec D1 D2 gv21 gv26 _ _ _ hL21.rd hL26.rd (by omega) ht1).mono ?_))
  rintro v36 w36 ⟨rfl, hx36⟩
  replace hx := hx.tr hx36
  replace hC2 := hx36.blk hC2 (fun h => h)
  replace hC3 := hx36.blk hC3 (fun h => h)
  replace hD1 := hD1.ext hx36
  replace hD2 := hD2.ext hx36
  replace hT := hT.ext hx36
  replace hMk := hMk.ext hx36
  replace hB5 := hx36.blk hB5 (fun h => h)
  replace hB6 := hx36.blk hB6 (fun h => h)
  replace hL21 := hL21.ext hx36
  replace hK21 := hK21.ext hx36
  replace hB7 := hx36.blk hB7 (fun h => h)
  replace hB8 := hx36.blk hB8 (fun h => h)
  replace hL26 := hL26.ext hx36
  replace hK26 := hK26.ext hx36
  refine WL.c rfl (o_ash (show _ = Value.bool _ from rfl) ?_)
  refine WL.nil ?_
  refine W.seq ?_
  refine W.region ?_
  refine WL.c rfl (o_ldA TI24 rfl rfl (show Cells _ b7 0 [gv26] from Cells.of hB7 0 _ (by simp)) rfl ?_)
  refine WL.c rfl (o_ldA TI24 rfl rfl (show Cells _ b5 0 [gv21] from Cells.of hB5 0 _ (by simp)) rfl ?_)
  refine WL.c rfl (o_call Tryd.call10 (lc rfl (lc rfl ln)) ((ssame_spec D2 D1 gv26 gv21 _ _ _ hL26.rd hL21.rd (by omega) ht2).mono ?_))
  rintro v39 w39 ⟨rfl, hx39⟩
  rw [show decide (D2.map bareD = D1.map bareD) = decide (D1.map bareD = D2.map bareD) from dec_iff eq_comm]
  replace hx := hx.tr hx39
  replace hC2 := hx39.blk hC2 (fun h => h)
  replace hC3 := hx39.blk hC3 (fun h => h)
  replace hD1 := hD1.ext hx39
  replace hD2 := hD2.ext hx39
  replace hT := hT.ext hx39
  replace hMk := hMk.ext hx39
  replace hB5 := hx39.blk hB5 (fun h => h)
  replace hB6 := hx39.blk hB6 (fun h => h)
  replace hL21 := hL21.ext hx39
  replace hK21 := hK21.ext hx39
  replace hB7 := hx39.blk hB7 (fun h => h)
  replace hB8 := hx39.blk hB8 (fun h => h)
  replace hL26 := hL26.ext hx39
  replace hK26 := hK26.ext hx39
  refine WL.c rfl (o_ash (show _ = Value.bool _ from rfl) ?_)
  refine WL.nil ?_
  refine W.seq ?_
  refine W.region ?_
  refine WL.c rfl (o_ldA TI24 rfl rfl (show Cells _ b5 0 [gv21] from Cells.of hB5 0 _ (by simp)) rfl ?_)
  refine WL.c rfl (o_ldA TI24 rfl rfl (show Cells _ b5 0 [gv21] from Cells.of hB5 0 _ (by simp)) rfl ?_)
  refine WL.c rfl (o_call Tryd.call10 (lc rfl (lc rfl ln)) ((ssame_spec D1 D1 gv21 gv21 _ _ _ hL21.rd hL21.rd (by omega) ht1).mono ?_))
  rintro v42 w42 ⟨rfl, hx42⟩
  rw [show decide (D1.map bareD = D1.map bareD) = true from by simp]
  replace hx := hx.tr hx42
  replace hC2 := hx42.blk hC2 (fun h => h)
  replace hC3 := hx42.blk hC3 (fun h => h)
  replace hD1 := hD1.ext hx42
  replace hD2 := hD2.ext hx42
  replace hT := hT.ext hx42
  replace hMk := hMk.ext hx42
  replace hB5 := hx42.blk hB5 (fun h => h)
  replace hB6 := hx42.blk hB6 (fun h => h)
  replace hL21 := hL21.ext hx42
  replace hK21 := hK21.ext hx42
  replace hB7 := hx42.blk hB7 (fun h => h)
  replace hB8 := hx42.blk hB8 (fun h => h)
  replace hL26 := hL26.ext hx42
  replace hK26 := hK26.ext hx42
  refine WL.c rfl (o_ash (show _ = Value.bool _ from rfl) ?_)
  refine WL.nil ?_
  refine W.seq ?_
  refine W.region ?_
  refine WL.c rfl (o_ldA TI24 rfl rfl (show Cells _ b6 0 [kv21] from Cells.of hB6 0 _ (by simp)) rfl ?_)
  refine WL.c rfl (o_call Tryd.call11 (lc rfl ln) ((hP2 _ _ _ hK21 hT).mono ?_))
  rintro v45 w45 ⟨rfl, hx45⟩
  replace hx := hx.tr hx45
  replace hC2 := hx45.blk hC2 (fun h => h)
  replace hC3 := hx45.blk hC3 (fun h => h)
  replace hD1 := hD1.ext hx45
  replace hD2 := hD2.ext hx45
  replace hT := hT.ext hx45
  replace hMk := hMk.ext hx45
  replace hB5 := hx45.blk hB5 (fun h => h)
  replace hB6 := hx45.blk hB6 (fun h => h)
  replace hL21 := hL21.ext hx45
  replace hK21 := hK21.ext hx45
  replace hB7 := hx45.blk hB7 (fun h => h)
  replace hB8 := hx45.blk hB8 (fun h => h)
  replace hL26 := hL26.ext hx45
  replace hK26 := hK26.ext hx45
  refine WL.c rfl (o_mvh (by first | exact (show _ = Value.tuple _ from rfl) | exact rfl) ?_)
  refine WL.c rfl (o_ext rfl rfl ?_)
  refine WL.c rfl (o_ext rfl rfl ?_)
  refine WL.c rfl (o_ash (show _ = Value.string _ from rfl) ?_)
  refine WL.c rfl (o_ash (show _ = Value.int _ _ from rfl) ?_)
  refine WL.nil ?_
  refine W.seq ?_
  refine W.region ?_
  refine WL.c rfl (o_ldA TI24 rfl rfl (show Cells _ b6 0 [kv21] from Cells.of hB6 0 _ (by simp)) rfl ?_)
  refine WL.c rfl (o_ldA TI24 rfl rfl (show Cells _ b8 0 [kv26] from Cells.of hB8 0 _ (by simp)) rfl ?_)
  refine WL.c rfl (o_call Tryd.call12 (lc rfl (lc rfl ln)) ((rsame_spec D1 D2 kv21 kv26 _ _ _ hK21 hK26 (by omega) ht1).mono ?_))
  rintro v50 w50 ⟨rfl, hx50⟩
  replace hx := hx.tr hx50
  replace hC2 := hx50.blk hC2 (fun h => h)
  replace hC3 := hx50.blk hC3 (fun h => h)
  replace hD1 := hD1.ext hx50
  replace hD2 := hD2.ext hx50
  replace hT := hT.ext hx50
  replace hMk := hMk.ext hx50
  replace hB5 := hx50.blk hB5 (fun h => h)
  replace hB6 := hx50.blk hB6 (fun h => h)
  replace hL21 := hL21.ext hx50
  replace hK21 := hK21.ext hx50
  replace hB7 := hx50.blk hB7 (fun h => h)
  replace hB8 := hx50.blk hB8 (fun h => h)
  replace hL26 := hL26.ext hx50
  replace hK26 := hK26.ext hx50
  refine WL.c rfl (o_ash (show _ = Value.bool _ from rfl) ?_)
  refine WL.nil ?_
  refine W.seq ?_
  refine W.region ?_
  refine WL.c rfl (o_mvh (show _ = Value.string _ from rfl) ?_)
  refine WL.c rfl (o_mvh (show _ = Value.string _ from rfl) ?_)
  refine WL.c rfl (o_eqT rfl rfl ?_)
  refine WL.c rfl (o_mvh (show _ = Value.bool _ from rfl) ?_)
  refine WL.g rfl (by simp) rfl (o_mvh (show _ = Value.int _ _ from rfl) ?_)
  refine WL.g rfl (by simp) rfl (o_mvh (show _ = Value.int _ _ from rfl) ?_)
  refine WL.g rfl (by simp) rfl (o_eq rfl rfl ?_)
  refine WL.c rfl (o_pickA rfl rfl ?_)
  refine WL.c rfl (o_mvh (show _ = Value.bool _ from rfl) ?_)
  refine WL.g rfl (by simp) rfl (o_mvh (show _ = Value.bool _ from rfl) ?_)
  refine WL.g rfl (by simp) rfl (o_mvh (show _ = Value.bool _ from rfl) ?_)
  refine WL.g rfl (by simp) rfl (o_eqB TI4 rfl rfl ?_)
  refine WL.c rfl (o_pickA rfl rfl ?_)
  refine WL.c rfl (o_mvh (show _ = Value.bool _ from rfl) ?_)
  refine WL.g rfl (by simp) rfl (o_mvh (show _ = Value.bool _ from rfl) ?_)
  refine WL.g rfl (by simp) rfl (o_mvh (show _ = Value.bool _ from rfl) ?_)
  refine WL.g rfl (by simp) rfl (o_eqB TI4 rfl rfl ?_)
  refine WL.c rfl (o_pickA rfl rfl ?_)
  refine WL.c rfl (o_mvh (show _ = Value.bool _ from rfl) ?_)
  refine WL.g rfl (by simp) rfl (o_mvh (show _ = Value.bool _ from rfl) ?_)
  refine WL.c rfl (o_pickA rfl rfl ?_)
  refine WL.c rfl (o_mvh (show _ = Value.bool _ from rfl) ?_)
  refine WL.g rfl (by simp) rfl (o_ldA TI24 rfl rfl (show Cells _ b5 0 [gv21] from Cells.of hB5 0 _ (by simp)) rfl ?_)
  refine WL.g rfl (by simp) rfl (o_ldA TI24 rfl rfl (show Cells _ b6 0 [kv21] from Cells.of hB6 0 _ (by simp)) rfl ?_)
  refine WL.g rfl (by simp) rfl (o_call Tryd.call13 (lc rfl (lc rfl ln)) ((kept_spec D1 gv21 kv21 _ _ _ hL21 hK21 hMk hlim1).mono ?_))
  rintro v75 w75 ⟨rfl, hx75⟩
  replace hx := hx.tr hx75
  replace hC2 := hx75.blk hC2 (fun h => h)
  replace hC3 := hx75.blk hC3 (fun h => h)
  replace hD1 := hD1.ext hx75
  replace hD2 := hD2.ext hx75
  replace hT := hT.ext hx75
  replace hMk := hMk.ext hx75
  replace hB5 := hx75.blk hB5 (fun h => h)
  replace hB6 := hx75.blk hB6 (fun h => h)
  replace hL21 := hL21.ext hx75
  replace hK21 := hK21.ext hx75
  replace hB7 := hx75.blk hB7 (fun h => h)
  replace hB8 := hx75.blk hB8 (fun h => h)
  replace hL26 := hL26.ext hx75
  replace hK26 := hK26.ext hx75
  refine WL.c rfl (o_pickA rfl rfl ?_)
  refine WL.c rfl (o_mvh (show _ = Value.bool _ from rfl) ?_)
  refine WL.g rfl (by simp) rfl (o_ldA TI24 rfl rfl (show Cells _ b7 0 [gv26] from Cells.of hB7 0 _ (by simp)) rfl ?_)
  refine WL.g rfl (by simp) rfl (o_ldA TI24 rfl rfl (show Cells _ b8 0 [kv26] from Cells.of hB8 0 _ (by simp)) rfl ?_)
  refine WL.g rfl (by simp) rfl (o_call Tryd.call13 (lc rfl (lc rfl ln)) ((kept_spec D2 gv26 kv26 _ _ _ hL26 hK26 hMk hlim2).mono ?_))
  rintro v80 w80 ⟨rfl, hx80⟩
  replace hx := hx.tr hx80
  replace hC2 := hx80.blk hC2 (fun h => h)
  replace hC3 := hx80.blk hC3 (fun h => h)
  replace hD1 := hD1.ext hx80
  replace hD2 := hD2.ext hx80
  replace hT := hT.ext hx80
  replace hMk := hMk.ext hx80
  replace hB5 := hx80.blk hB5 (fun h => h)
  replace hB6 := hx80.blk hB6 (fun h => h)
  replace hL21 := hL21.ext hx80
  replace hK21 := hK21.ext hx80
  replace hB7 := hx80.blk hB7 (fun h => h)
  replace hB8 := hx80.blk hB8 (fun h => h)
  replace hL26 := hL26.ext hx80
  replace hK26 := hK26.ext hx80
  refine WL.c rfl (o_pickA rfl rfl ?_)
  refine WL.c rfl (o_ash (show _ = Value.bool _ from rfl) ?_)
  refine WL.nil ?_
  refine W.ret ?_
  refine ret1v rfl (show _ = Value.bool _ from rfl) ?_
  exact ⟨congrArg Value.bool (by simp), hx⟩
end Go.Proofs.YtanimeifmicmoaaDoor

set_option linter.unusedSimpArgs false
set_option linter.unusedVariables false
set_option maxRecDepth 100000
namespace Go.Proofs.YtanimeifmicmoaaDoor
open Go Go.Vc Go.RowKit Go.Proofs

/-- its bulk is bounded -/
def Blk {H : Type} (d : DataW H) : Prop := Rows.uptoBulk d ≤ 1048576
theorem bulk_mem {H : Type} : ∀ {l : List (DataW H)} {d : DataW H}, d ∈ l → Rows.uptoBulk d ≤ Rows.uptoBulkAll l
  | d0 :: l, d, h => by
    rw [Rows.uptoBulkAll]
    rcases List.mem_cons.1 h with rfl | h
    · omega
    · have := bulk_mem h; omega
theorem bulk_pos {H : Type} (d : DataW H) : 1 ≤ Rows.uptoBulk d := by
  cases d with
  | lit x => cases x <;> simp [Rows.uptoBulk]
  | _ => simp [Rows.uptoBulk]
theorem bulk_len {H : Type} : ∀ l : List (DataW H), l.length ≤ Rows.uptoBulkAll l
  | [] => Nat.zero_le _
  | d :: l => by rw [Rows.uptoBulkAll, List.length_cons]; have := bulk_len l; have := bulk_pos d; omega
theorem Blk.elem {H : Type} {elems spare : List (DataW H)} {d : DataW H} (h : Blk (.slice elems spare)) (hd : d ∈ elems) : Blk d := by
  have := bulk_mem hd; unfold Blk at h ⊢; rw [Rows.uptoBulk] at h; omega
theorem Blk.part {H : Type} {parts : List (DataW H)} {i : Nat} {d : DataW H} (h : Blk (.agg parts)) (hd : parts[i]? = some d) : Blk d := by
  have := bulk_mem (List.mem_of_getElem? hd); unfold Blk at h ⊢; rw [Rows.uptoBulk] at h; omega
theorem Blk.size {H : Type} {elems spare : List (DataW H)} (h : Blk (.slice elems spare)) : elems.length ≤ 1048576 := by
  have := bulk_len elems; unfold Blk at h; rw [Rows.uptoBulk] at h; omega
section
variable {H : Type} {enc : TypeId × Value → H} {P : Program} {W : World} {held : Bool}
/-- a slice of what is opened by 'hc' -/
theorem open_rowsQ {α : Type} {t e : TypeId} (s : Nat) (cells : α → List Value) (p : α → Prop) (hu : P.underlying t = some (.slice e)) (hs : P.cellsOf e = s) (hs0 : 0 < s) (hlen : ∀ o, (cells o).length = s)
    (hc : ∀ (n : Nat) (cs : List Value) (y : DataW H × List MemPlace), DataW.trod enc P W 0 (fun _ => true) held n e cs = some y → Blk y.1 → ∃ o, cs = cells o ∧ p o)
    {fuel : Nat} {v : Value} {x : DataW H × List MemPlace} (h : DataW.trod enc P W 0 (fun _ => true) held fuel t [v] = some x) (hz : Blk x.1) :
    ∃ os : List α, os.length ≤ maxLen ∧ Sl W s v os.length (os.flatMap cells) ∧ ∀ o ∈ os, p o := by
  rcases DataW.trod_slice hu h with ⟨hcs, hd⟩ | ⟨a, len, cap, elems, rest, n, -, hcs, hx, -, hl, hm, hle, hel, -, -⟩
  · simp only [List.cons.injEq, and_true] at hcs
    subst hcs
    exact ⟨[], Nat.zero_le _, Sl.nil W s, fun o h => by cases h⟩
  · simp only [List.cons.injEq, and_true] at hcs
    subst hcs
    subst hx
    have key : ∀ i, i < len → ∃ o : α, (∀ j v, (cells o)[j]? = some v → W.cell? (a.add (i * s + j)) = some v) ∧ p o := by
      intro i hi
      have he := hel i hi
      rw [List.getElem?_eq_getElem (by omega), hs, Option.bind_eq_some_iff] at he
      obtain ⟨cs, h1, h2⟩ := he
      obtain ⟨-, h4, h5⟩ := World.cells?_some h1
      obtain ⟨o, ho, hp⟩ := hc n cs _ h2 (hz.elem (List.mem_map.2 ⟨_, List.getElem_mem (by omega), rfl⟩))
      subst ho
      refine ⟨o, fun j v hj => ?_, hp⟩
      have hjs : j < s := by have := (List.getElem?_eq_some_iff.1 hj).1; rw [hlen] at this; exact this
      have := h5 j hjs
      rw [← hj, ← this, addr_add]
    obtain ⟨os, ho1, ho2⟩ := list_of _ len key
    refine ⟨os, by omega, ⟨?_, ?_⟩, fun o ho => ?_⟩
    · clear ho2 ho1
      induction os with
      | nil => simp
      | cons o os ih => rw [List.flatMap_cons, List.length_append, hlen, ih, List.length_cons, Nat.add_mul]; omega
    · by_cases h0 : len = 0
      · subst h0; exact .inl ⟨ho1, _, _, rfl⟩
      · obtain ⟨b, off, spot⟩ := a
        have h00 := (ho2 0 (by omega)).1 0 ((cells (os[0]'(by omega)))[0]'(by rw [hlen]; exact hs0)) (List.getElem?_eq_getElem _)
        have hsp : spot = none := by simpa [Addr.add] using World.cell?_spot h00
        subst hsp
        refine .inr ⟨b, off, cap, by rw [ho1], by omega, fun idx u hu => ?_⟩
        obtain ⟨i, j, hi, h1, h2⟩ := flatMap_get hlen os idx u hu
        have h3 := (ho2 i hi).1 j u h2
        rw [h1, ← h3, add_none]
    · obtain ⟨i, hi, rfl⟩ := List.getElem_of_mem ho
      exact (ho2 i hi).2
/-- a struct's field -/
theorem open_fieldQ {t u : TypeId} {fs : Array Field} {f : Field} (i off s : Nat) (hu : P.underlying t = some (.struct fs)) (hf : fs[i]? = some f) (ht : f.type = u) (ho : f.offset = off) (hs : P.cellsOf u = s) {fuel : Nat} {cs : List Value} {x : DataW H × List MemPlace}
    (h : DataW.trod enc P W 0 (fun _ => true) held fuel t cs = some x) (hz : Blk x.1) : ∃ n y, DataW.trod enc P W 0 (fun _ => true) held n u ((cs.drop off).take s) = some y ∧ Blk y.1 := by
  subst ht ho hs
  obtain ⟨xs, n, -, hx, -, hl, hall⟩ := DataW.trod_struct hu h
  have hi : i < fs.size := (Array.getElem?_eq_some_iff.1 hf).1
  have h1 := hall i f hf
  rw [List.getElem?_eq_getElem (by omega)] at h1
  refine ⟨n, _, h1, ?_⟩
  subst hx
  refine hz.part (i := i) ?_
  · rw [List.getElem?_map, List.getElem?_eq_getElem (by omega)]; rfl

theorem rows_lenQ {t e : TypeId} (hu : P.underlying t = some (.slice e)) {fuel : Nat} {a : Option Addr} {n c : Nat} {x : DataW H × List MemPlace}
    (h : DataW.trod enc P W 0 (fun _ => true) held fuel t [.slice a n c] = some x) (hz : Blk x.1) : n ≤ 1048576 := by
  rcases DataW.trod_slice hu h with ⟨hcs, hd⟩ | ⟨a', len, cap, elems, rest, k, -, hcs, hx, -, hl, hm, hle, hel, -, -⟩
  · simp only [List.cons.injEq, and_true, Value.slice.injEq] at hcs
    omega
  · simp only [List.cons.injEq, and_true, Value.slice.injEq] at hcs
    subst hx
    have h1 := hz.size
    simp only [List.length_map, List.length_take] at h1
    omega
theorem open_exprQ {n : Nat} {cs : List Value} {y : DataW H × List MemPlace} (h : DataW.trod enc Tryd.prog W 0 (fun _ => true) held n 36 cs = some y) (hz : Blk y.1) : ∃ x : Ex, cs = exV x ∧ ExOk x := by
  have hl := open_struct_len (s := 7) Tryd.underlying36 (by kernel_rfl) h
  obtain ⟨a, b, c, d, e, f, g, rfl⟩ := seven_cells hl
  obtain ⟨n0, y0, h0, -⟩ := open_fieldQ 0 0 1 Tryd.underlying36 rfl rfl rfl (by kernel_rfl) h hz
  obtain ⟨n1, y1, h1, -⟩ := open_fieldQ 1 1 1 Tryd.underlying36 rfl rfl rfl (by kernel_rfl) h hz
  obtain ⟨n2, y2, h2, -⟩ := open_fieldQ 2 2 1 Tryd.underlying36 rfl rfl rfl (by kernel_rfl) h hz
  obtain ⟨n3, y3, h3, -⟩ := open_fieldQ 3 3 1 Tryd.underlying36 rfl rfl rfl (by kernel_rfl) h hz
  obtain ⟨n4, y4, h4, -⟩ := open_fieldQ 4 4 1 Tryd.underlying36 rfl rfl rfl (by kernel_rfl) h hz
  obtain ⟨n5, y5, h5, -⟩ := open_fieldQ 5 5 1 Tryd.underlying36 rfl rfl rfl (by kernel_rfl) h hz
  obtain ⟨n6, y6, h6, -⟩ := open_fieldQ 6 6 1 Tryd.underlying36 rfl rfl rfl (by kernel_rfl) h hz
  obtain ⟨k0, e0, -, -⟩ := DataW.trod_int Tryd.underlying3 h0
  obtain ⟨k1, e1, -, -⟩ := DataW.trod_int Tryd.underlying3 h1
  obtain ⟨k2, e2, -, l2⟩ := DataW.trod_string Tryd.underlying9 h2
  obtain ⟨k3, e3, -, l3⟩ := DataW.trod_string Tryd.underlying9 h3
  obtain ⟨k4, e4, -, -⟩ := DataW.trod_int Tryd.underlying3 h4
  obtain ⟨k5, e5, -, -⟩ := DataW.trod_int Tryd.underlying3 h5
  obtain ⟨k6, e6, -, -⟩ := DataW.trod_int Tryd.underlying3 h6
  simp only [List.drop_zero, List.drop_succ_cons, List.take_succ_cons, List.take_zero, List.cons.injEq, and_true] at e0 e1 e2 e3 e4 e5 e6
  refine ⟨⟨k0, k1, k2.data.toList, k3.data.toList, k4, k5, k6⟩, ?_, size_list l2, size_list l3⟩
  rw [e0, e1, e2, e3, e4, e5, e6, str_list, str_list]
  rfl

theorem open_exprsQ {n : Nat} {v : Value} {y : DataW H × List MemPlace} (h : DataW.trod enc Tryd.prog W 0 (fun _ => true) held n 32 [v] = some y) (hz : Blk y.1) :
    ∃ l : List Ex, Sl W 7 v l.length (exs l) ∧ l.length ≤ 1048576 ∧ ∀ x ∈ l, ExOk x := by
  obtain ⟨l, -, h1, h2⟩ := open_rowsQ 7 exV ExOk Tryd.underlying32 (by kernel_rfl) (by decide) (fun _ => rfl) (fun n cs y hy hz => open_exprQ hy hz) (v := v) h hz
  refine ⟨l, h1, ?_, h2⟩
  obtain ⟨a, c, rfl⟩ := h1.isSlice
  exact rows_lenQ Tryd.underlying32 h hz
def DfOkQ (W : World) (o : DfV) : Prop := Sl W 7 o.2 o.1.ty.length (exs o.1.ty) ∧ o.1.name.length ≤ 9223372036854775807 ∧ o.1.ty.length ≤ 1048576 ∧ ∀ x ∈ o.1.ty, ExOk x
theorem open_defQ {n : Nat} {cs : List Value} {y : DataW H × List MemPlace} (h : DataW.trod enc Tryd.prog W 0 (fun _ => true) held n 34 cs = some y) (hz : Blk y.1) : ∃ o : DfV, cs = dfV o ∧ DfOkQ W o := by
  have hl := open_struct_len (s := 3) Tryd.underlying34 (by kernel_rfl) h
  obtain ⟨a, b, c, rfl⟩ := three_cells hl
  obtain ⟨n0, y0, h0, -⟩ := open_fieldQ 0 0 1 Tryd.underlying34 rfl rfl rfl (by kernel_rfl) h hz
  obtain ⟨n1, y1, h1, -⟩ := open_fieldQ 1 1 1 Tryd.underlying34 rfl rfl rfl (by kernel_rfl) h hz
  obtain ⟨n2, y2, h2, z2⟩ := open_fieldQ 2 2 1 Tryd.underlying34 rfl rfl rfl (by kernel_rfl) h hz
  obtain ⟨k0, e0, -, l0⟩ := DataW.trod_string Tryd.underlying9 h0
  obtain ⟨k1, e1, -, -⟩ := DataW.trod_int Tryd.underlying3 h1
  obtain ⟨l, hS, hb, hok⟩ := open_exprsQ h2 z2
  simp only [List.drop_zero, List.drop_succ_cons, List.take_succ_cons, List.take_zero, List.cons.injEq, and_true] at e0 e1
  refine ⟨(⟨k0.data.toList, k1, l⟩, c), ?_, hS, size_list l0, hb, hok⟩
  rw [e0, e1, str_list]
  rfl
theorem open_sourceQ {n : Nat} {cs : List Value} {y : DataW H × List MemPlace} (h : DataW.trod enc Tryd.prog W 0 (fun _ => true) held n 24 cs = some y) (hz : Blk y.1) : ∃ D dv V, cs = [dv] ∧ DefR W D dv V ∧ DOk D ∧ ∀ d ∈ D, d.ty.length ≤ 1048576 := by
  have hl := open_struct_len (s := 1) Tryd.underlying24 (by kernel_rfl) h
  obtain ⟨a, rfl⟩ := List.length_eq_one_iff.1 hl
  obtain ⟨n0, y0, h0, z0⟩ := open_fieldQ 0 0 1 Tryd.underlying24 rfl rfl rfl (by kernel_rfl) h hz
  simp only [List.drop_zero, List.take_succ_cons, List.take_zero] at h0
  obtain ⟨os, -, h1, h2⟩ := open_rowsQ 3 dfV (DfOkQ W) Tryd.underlying22 (by kernel_rfl) (by decide) (fun _ => rfl) (fun n cs y hy hz => open_defQ hy hz) (v := a) h0 z0
  have hb : os.length * 48 ≤ 140737488351232 := by
    obtain ⟨b, c, rfl⟩ := h1.isSlice
    have := rows_lenQ Tryd.underlying22 h0 z0
    omega
  have hg : ∀ j (hj : j < os.length), (os.map Prod.fst).getD j df0 = os[j].1 := fun j hj => by simp [List.getD_eq_getElem?_getD, hj]
  have hr : drows (os.map Prod.fst) (fun j => (os.getD j (df0, undef)).2) = os.flatMap dfV := by
    rw [drows, List.length_map]
    have : ∀ (n : Nat), n ≤ os.length → ((List.range n).flatMap fun j => dcell ((os.map Prod.fst).getD j df0) ((os.getD j (df0, undef)).2)) = (os.take n).flatMap dfV := by
      intro n
      induction n with
      | zero => intro _; rfl
      | succ n ih =>
        intro hn
        rw [List.range_succ, List.flatMap_append, ih (by omega), List.flatMap_singleton, hg n hn, List.take_add_one, List.flatMap_append]
        simp [List.getD_eq_getElem?_getD, List.getElem?_eq_getElem (show n < os.length by omega), dfV]
    rw [this _ (Nat.le_refl _), List.take_length]
  refine ⟨os.map Prod.fst, a, fun j => (os.getD j (df0, undef)).2, rfl, ⟨?_, fun j hj => ?_⟩, ⟨by rw [List.length_map]; exact hb, ?_, ?_, ?_⟩, ?_⟩
  · rw [hr, List.length_map]; exact h1
  · have hj' : j < os.length := by simpa using hj
    have := h2 os[j] (List.getElem_mem hj')
    rw [tyD, hg j hj']
    have e : (os.getD j (df0, undef)) = os[j] := by simp [List.getD_eq_getElem?_getD, hj']
    rw [e]
    exact this.1
  all_goals
    intro d hd
    obtain ⟨o, ho, rfl⟩ := List.mem_map.1 hd
    obtain ⟨-, g1, g2, g3⟩ := h2 o ho
    first | omega | exact g1 | exact g3
end

end Go.Proofs.YtanimeifmicmoaaDoor
