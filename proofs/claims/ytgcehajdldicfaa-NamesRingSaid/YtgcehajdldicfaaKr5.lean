/-
  Walks and lemmas. Written by program out of specs of mine.
-/
import Derived.WalkKit
import Derived.WalkSpells
import Derived.WalkLawsBesides
import Derived.Deep.Quiet
import Derived.StillTail
import Derived.StringKeys
import Derived.Laws.StructEq
import Derived.Laws.Externs
import Derived.Laws.Tables
import Derived.Scope
import Derived.Test.YtgcehajdldicfaaProg
import Derived.Laws.AppendOwn
import Derived.Maps.AppendAt
import Derived.Recover
import Derived.Lib.Bytealg
import Derived.SizedLaws
import Derived.ChangeArms
import Derived.ChangeSlices
import Derived.Maps.OwnSet
import Derived.Test.YtgcehajdldicfaaRows
import Derived.ProofKit
import Derived.OpenShut
import Derived.ShutString
import Derived.ChangeOld
import Derived.Below
import Derived.Test.YtgcehajdldicfaaKr4
set_option linter.unusedSimpArgs false
set_option linter.unusedVariables false
set_option maxRecDepth 100000
set_option linter.unusedSimpArgs false
set_option linter.unusedVariables false
set_option maxRecDepth 100000
namespace Go.Proofs.Ytgcehajdldicfaa
open Go Go.Vc Go.RowKit Go.Proofs

theorem ring_cases (n : Nat) (er a b : Int) : ¬ er = 0 ∨ (er = 0 ∧ a < 0) ∨ (er = 0 ∧ 0 ≤ a ∧ (n : Int) ≤ a) ∨ (er = 0 ∧ ∃ d : Nat, d < n ∧ a = (d : Int) ∧ b < 0) ∨ (er = 0 ∧ ∃ d : Nat, d < n ∧ a = (d : Int) ∧ 0 ≤ b ∧ (n : Int) ≤ b) ∨ (er = 0 ∧ ∃ d t : Nat, d < n ∧ t < n ∧ a = (d : Int) ∧ b = (t : Int)) := by
  by_cases h0 : er = 0
  · right
    by_cases h1 : a < 0
    · exact .inl ⟨h0, h1⟩
    · by_cases h2 : (n : Int) ≤ a
      · exact .inr (.inl ⟨h0, by omega, h2⟩)
      · by_cases h3 : b < 0
        · exact .inr (.inr (.inl ⟨h0, a.toNat, by omega, by omega, h3⟩))
        · by_cases h4 : (n : Int) ≤ b
          · exact .inr (.inr (.inr (.inl ⟨h0, a.toNat, by omega, by omega, by omega, h4⟩)))
          · exact .inr (.inr (.inr (.inr ⟨h0, a.toNat, b.toNat, by omega, by omega, by omega, by omega⟩)))
  · exact .inl h0
theorem node_cases (L : List Ex) (n : Int) : n < 0 ∨ (0 ≤ n ∧ (L.length : Int) ≤ n) ∨ (∃ j : Nat, ∃ hj : j < L.length, n = (j : Int) ∧ ¬ L[j].kind = 9) ∨ ∃ j : Nat, ∃ hj : j < L.length, n = (j : Int) ∧ L[j].kind = 9 := by
  by_cases h1 : n < 0
  · exact .inl h1
  · by_cases h2 : (L.length : Int) ≤ n
    · exact .inr (.inl ⟨by omega, h2⟩)
    · have hj : n.toNat < L.length := by omega
      by_cases h9 : L[n.toNat].kind = 9
      · exact .inr (.inr (.inr ⟨n.toNat, hj, by omega, h9⟩))
      · exact .inr (.inr (.inl ⟨n.toNat, hj, by omega, h9⟩))
theorem turn_eq {D : List Df} {d j to : Nat} (hj : j < (tyD D d).length) (ht : to < D.length) : turnE D d j to = setE D d j { (tyD D d)[j] with name := D[to].name } := by
  unfold turnE
  rw [List.getD_eq_getElem?_getD, List.getElem?_eq_getElem hj, Option.getD_some, getD_at ht]

set_option maxHeartbeats 4000000 in
theorem ring_walk (w0 : World) (D : List Df) (dv : Value) (V : Nat → Value) (hD : DefR w0 D dv V) (hlim : DOk D) (a1 : Int) (_ : -9223372036854775808 ≤ a1 ∧ a1 ≤ 9223372036854775807) (a2 : Int) (_ : -9223372036854775808 ≤ a2 ∧ a2 ≤ 9223372036854775807) (a3 : Int) (_ : -9223372036854775808 ≤ a3 ∧ a3 ≤ 9223372036854775807) : Ca Try.prog 7 #[.agg #[dv], .int .i64 a1, .int .i64 a2, .int .i64 a3] w0 (fun v w' => v = .bool true ∧ Ext w0 w') := by
  have hlen := hlim.len
  have hD00 := hD
  obtain ⟨er, at_, hf⟩ : ∃ er at_, flt D = (er, at_) := ⟨_, _, rfl⟩
  refine Ca.of Try.func7 Try.ntmps7 rfl rfl ?_
  refine W.seq ?_
  refine W.region ?_
  refine WL.c rfl (o_boxB rfl ?_)
  intro w4 hC4 hx4 hs4
  obtain ⟨b4, hb4⟩ : ∃ b, b = w0.heap.size := ⟨_, rfl⟩
  rw [← hb4] at hC4 ⊢
  replace hC4 : w4.heap[b4]? = some (.cells ([dv]).toArray 24 (0, 0)) := hC4
  have hx := hx4
  replace hD := hD.ext hx4
  refine WL.c rfl (o_ash (show _ = Value.bool _ from rfl) ?_)
  refine WL.nil ?_
  refine W.seq ?_
  refine W.seq ?_
  refine W.region ?_
  refine WL.c rfl (o_call Try.call9 ln ((n8_first _).mono ?_))
  rintro v13 w13 ⟨rfl, hx13⟩
  replace hx := hx.tr hx13
  replace hD := hD.ext hx13
  replace hC4 := hx13.blk hC4 (fun h => h)
  refine WL.c rfl (o_not' rfl ?_)
  refine WL.nil ?_
  refine W.condF' rfl (by simp) ?_
  refine W.skip ?_
  refine W.seq ?_
  refine W.seq ?_
  rcases ring_cases D.length er a1 a3 with q1 | ⟨q1, q2⟩ | ⟨q1, q2, q3⟩ | ⟨q1, d, hd, rfl, q2⟩ | ⟨q1, d, hd, rfl, q2, q3⟩ | ⟨q1, d, t, hd, ht, rfl, rfl⟩
  · skip
    skip
    refine W.region ?_
    refine WL.c rfl (o_ldA TI24 rfl rfl (show Cells _ b4 0 [dv] from Cells.of hC4 0 _ (by simp)) rfl ?_)
    refine WL.c rfl (o_call Try.call12 (lc rfl ln) ((check_call D dv V _ hD hlim hf).mono ?_))
    rintro v16 w16 ⟨rfl, hx16⟩
    replace hx := hx.tr hx16
    replace hD := hD.ext hx16
    replace hC4 := hx16.blk hC4 (fun h => h)
    refine WL.c rfl (o_fldT TI32 rfl rfl rfl TI30 rfl rfl rfl ?_)
    refine WL.c rfl (o_ne rfl rfl ?_)
    refine WL.c rfl (o_mvh (show _ = Value.bool _ from rfl) ?_)
    refine WL.s rfl (by simp [q1]) rfl ?_
    refine WL.s rfl (by simp [q1]) rfl ?_
    refine WL.c rfl (o_pickT rfl (by simp [q1]) ?_)
    refine WL.c rfl (o_mvh (show _ = Value.bool _ from rfl) ?_)
    refine WL.s rfl (rfl) rfl ?_
    refine WL.s rfl (rfl) rfl ?_
    refine WL.s rfl (rfl) rfl ?_
    refine WL.s rfl (rfl) rfl ?_
    refine WL.s rfl (rfl) rfl ?_
    refine WL.c rfl (o_pickT rfl (rfl) ?_)
    refine WL.c rfl (o_mvh (show _ = Value.bool _ from rfl) ?_)
    refine WL.s rfl (rfl) rfl ?_
    refine WL.s rfl (rfl) rfl ?_
    refine WL.c rfl (o_pickT rfl (rfl) ?_)
    refine WL.c rfl (o_mvh (show _ = Value.bool _ from rfl) ?_)
    refine WL.s rfl (rfl) rfl ?_
    refine WL.s rfl (rfl) rfl ?_
    refine WL.s rfl (rfl) rfl ?_
    refine WL.s rfl (rfl) rfl ?_
    refine WL.s rfl (rfl) rfl ?_
    refine WL.c rfl (o_pickT rfl (rfl) ?_)
    refine WL.nil ?_
    refine W.condT' rfl (rfl) ?_
    refine W.seq ?_
    refine W.region ?_
    refine WL.c rfl (o_ash (show _ = Value.bool _ from rfl) ?_)
    refine WL.nil ?_
    refine W.ret ?_
    refine ret1v rfl (show _ = Value.bool _ from rfl) ?_
    exact ⟨rfl, hx⟩
  · skip
    skip
    refine W.region ?_
    refine WL.c rfl (o_ldA TI24 rfl rfl (show Cells _ b4 0 [dv] from Cells.of hC4 0 _ (by simp)) rfl ?_)
    refine WL.c rfl (o_call Try.call12 (lc rfl ln) ((check_call D dv V _ hD hlim hf).mono ?_))
    rintro v16 w16 ⟨rfl, hx16⟩
    replace hx := hx.tr hx16
    replace hD := hD.ext hx16
    replace hC4 := hx16.blk hC4 (fun h => h)
    refine WL.c rfl (o_fldT TI32 rfl rfl rfl TI30 rfl rfl rfl ?_)
    refine WL.c rfl (o_ne rfl rfl ?_)
    refine WL.c rfl (o_mvh (show _ = Value.bool _ from rfl) ?_)
    refine WL.g rfl (by simp [q1]) rfl (o_mvh (show _ = Value.int _ _ from rfl) ?_)
    refine WL.g rfl (by simp [q1]) rfl (o_lt rfl rfl ?_)
    refine WL.c rfl (o_pickO rfl rfl ?_)
    refine WL.c rfl (o_mvh (show _ = Value.bool _ from rfl) ?_)
    refine WL.s rfl (by simp [q1] <;> omega) rfl ?_
    refine WL.s rfl (by simp [q1] <;> omega) rfl ?_
    refine WL.s rfl (by simp [q1] <;> omega) rfl ?_
    refine WL.s rfl (by simp [q1] <;> omega) rfl ?_
    refine WL.s rfl (by simp [q1] <;> omega) rfl ?_
    refine WL.c rfl (o_pickT rfl (by simp [q1] <;> omega) ?_)
    refine WL.c rfl (o_mvh (show _ = Value.bool _ from rfl) ?_)
    refine WL.s rfl (rfl) rfl ?_
    refine WL.s rfl (rfl) rfl ?_
    refine WL.c rfl (o_pickT rfl (rfl) ?_)
    refine WL.c rfl (o_mvh (show _ = Value.bool _ from rfl) ?_)
    refine WL.s rfl (rfl) rfl ?_
    refine WL.s rfl (rfl) rfl ?_
    refine WL.s rfl (rfl) rfl ?_
    refine WL.s rfl (rfl) rfl ?_
    refine WL.s rfl (rfl) rfl ?_
    refine WL.c rfl (o_pickT rfl (rfl) ?_)
    refine WL.nil ?_
    refine W.condT' rfl (rfl) ?_
    refine W.seq ?_
    refine W.region ?_
    refine WL.c rfl (o_ash (show _ = Value.bool _ from rfl) ?_)
    refine WL.nil ?_
    refine W.ret ?_
    refine ret1v rfl (show _ = Value.bool _ from rfl) ?_
    exact ⟨rfl, hx⟩
  · skip
    skip
    refine W.region ?_
    refine WL.c rfl (o_ldA TI24 rfl rfl (show Cells _ b4 0 [dv] from Cells.of hC4 0 _ (by simp)) rfl ?_)
    refine WL.c rfl (o_call Try.call12 (lc rfl ln) ((check_call D dv V _ hD hlim hf).mono ?_))
    rintro v16 w16 ⟨rfl, hx16⟩
    replace hx := hx.tr hx16
    replace hD := hD.ext hx16
    replace hC4 := hx16.blk hC4 (fun h => h)
    refine WL.c rfl (o_fldT TI32 rfl rfl rfl TI30 rfl rfl rfl ?_)
    refine WL.c rfl (o_ne rfl rfl ?_)
    refine WL.c rfl (o_mvh (show _ = Value.bool _ from rfl) ?_)
    refine WL.g rfl (by simp [q1]) rfl (o_mvh (show _ = Value.int _ _ from rfl) ?_)
    refine WL.g rfl (by simp [q1]) rfl (o_lt rfl rfl ?_)
    refine WL.c rfl (o_pickO rfl rfl ?_)
    refine WL.c rfl (o_mvh (show _ = Value.bool _ from rfl) ?_)
    refine WL.g rfl (by simp [q1] <;> omega) rfl (o_mvh (show _ = Value.int _ _ from rfl) ?_)
    refine WL.g rfl (by simp [q1] <;> omega) rfl (o_fa 0 TI24 rfl TI22 rfl rfl ?_)
    refine WL.g rfl (by simp [q1] <;> omega) rfl (o_ld TI22 rfl rfl (cell_of hC4 rfl) ?_)
    refine WL.g rfl (by simp [q1] <;> omega) rfl (o_lenR TI22 rfl hD.row ?_)
    refine WL.g rfl (by simp [q1] <;> omega) rfl (o_ge rfl rfl ?_)
    refine WL.c rfl (o_pickO rfl rfl ?_)
    refine WL.c rfl (o_mvh (show _ = Value.bool _ from rfl) ?_)
    refine WL.s rfl (by simp [q1] <;> omega) rfl ?_
    refine WL.s rfl (by simp [q1] <;> omega) rfl ?_
    refine WL.c rfl (o_pickT rfl (by simp [q1] <;> omega) ?_)
    refine WL.c rfl (o_mvh (show _ = Value.bool _ from rfl) ?_)
    refine WL.s rfl (rfl) rfl ?_
    refine WL.s rfl (rfl) rfl ?_
    refine WL.s rfl (rfl) rfl ?_
    refine WL.s rfl (rfl) rfl ?_
    refine WL.s rfl (rfl) rfl ?_
    refine WL.c rfl (o_pickT rfl (rfl) ?_)
    refine WL.nil ?_
    refine W.condT' rfl (rfl) ?_
    refine W.seq ?_
    refine W.region ?_
    refine WL.c rfl (o_ash (show _ = Value.bool _ from rfl) ?_)
    refine WL.nil ?_
    refine W.ret ?_
    refine ret1v rfl (show _ = Value.bool _ from rfl) ?_
    exact ⟨rfl, hx⟩
  · skip
    skip
    refine W.region ?_
    refine WL.c rfl (o_ldA TI24 rfl rfl (show Cells _ b4 0 [dv] from Cells.of hC4 0 _ (by simp)) rfl ?_)
    refine WL.c rfl (o_call Try.call12 (lc rfl ln) ((check_call D dv V _ hD hlim hf).mono ?_))
    rintro v16 w16 ⟨rfl, hx16⟩
    replace hx := hx.tr hx16
    replace hD := hD.ext hx16
    replace hC4 := hx16.blk hC4 (fun h => h)
    refine WL.c rfl (o_fldT TI32 rfl rfl rfl TI30 rfl rfl rfl ?_)
    refine WL.c rfl (o_ne rfl rfl ?_)
    refine WL.c rfl (o_mvh (show _ = Value.bool _ from rfl) ?_)
    refine WL.g rfl (by simp [q1]) rfl (o_mvh (show _ = Value.int _ _ from rfl) ?_)
    refine WL.g rfl (by simp [q1]) rfl (o_lt rfl rfl ?_)
    refine WL.c rfl (o_pickO rfl rfl ?_)
    refine WL.c rfl (o_mvh (show _ = Value.bool _ from rfl) ?_)
    refine WL.g rfl (by simp [q1] <;> omega) rfl (o_mvh (show _ = Value.int _ _ from rfl) ?_)
    refine WL.g rfl (by simp [q1] <;> omega) rfl (o_fa 0 TI24 rfl TI22 rfl rfl ?_)
    refine WL.g rfl (by simp [q1] <;> omega) rfl (o_ld TI22 rfl rfl (cell_of hC4 rfl) ?_)
    refine WL.g rfl (by simp [q1] <;> omega) rfl (o_lenR TI22 rfl hD.row ?_)
    refine WL.g rfl (by simp [q1] <;> omega) rfl (o_ge rfl rfl ?_)
    refine WL.c rfl (o_pickO rfl rfl ?_)
    refine WL.c rfl (o_mvh (show _ = Value.bool _ from rfl) ?_)
    refine WL.g rfl (by simp [q1] <;> omega) rfl (o_mvh (show _ = Value.int _ _ from rfl) ?_)
    refine WL.g rfl (by simp [q1] <;> omega) rfl (o_lt rfl rfl ?_)
    refine WL.c rfl (o_pickO rfl rfl ?_)
    refine WL.c rfl (o_mvh (show _ = Value.bool _ from rfl) ?_)
    refine WL.s rfl (by simp [q1] <;> omega) rfl ?_
    refine WL.s rfl (by simp [q1] <;> omega) rfl ?_
    refine WL.s rfl (by simp [q1] <;> omega) rfl ?_
    refine WL.s rfl (by simp [q1] <;> omega) rfl ?_
    refine WL.s rfl (by simp [q1] <;> omega) rfl ?_
    refine WL.c rfl (o_pickT rfl (by simp [q1] <;> omega) ?_)
    refine WL.nil ?_
    refine W.condT' rfl (rfl) ?_
    refine W.seq ?_
    refine W.region ?_
    refine WL.c rfl (o_ash (show _ = Value.bool _ from rfl) ?_)
    refine WL.nil ?_
    refine W.ret ?_
    refine ret1v rfl (show _ = Value.bool _ from rfl) ?_
    exact ⟨rfl, hx⟩
  · skip
    skip
    refine W.region ?_
    refine WL.c rfl (o_ldA TI24 rfl rfl (show Cells _ b4 0 [dv] from Cells.of hC4 0 _ (by simp)) rfl ?_)
    refine WL.c rfl (o_call Try.call12 (lc rfl ln) ((check_call D dv V _ hD hlim hf).mono ?_))
    rintro v16 w16 ⟨rfl, hx16⟩
    replace hx := hx.tr hx16
    replace hD := hD.ext hx16
    replace hC4 := hx16.blk hC4 (fun h => h)
    refine WL.c rfl (o_fldT TI32 rfl rfl rfl TI30 rfl rfl rfl ?_)
    refine WL.c rfl (o_ne rfl rfl ?_)
    refine WL.c rfl (o_mvh (show _ = Value.bool _ from rfl) ?_)
    refine WL.g rfl (by simp [q1]) rfl (o_mvh (show _ = Value.int _ _ from rfl) ?_)
    refine WL.g rfl (by simp [q1]) rfl (o_lt rfl rfl ?_)
    refine WL.c rfl (o_pickO rfl rfl ?_)
    refine WL.c rfl (o_mvh (show _ = Value.bool _ from rfl) ?_)
    refine WL.g rfl (by simp [q1] <;> omega) rfl (o_mvh (show _ = Value.int _ _ from rfl) ?_)
    refine WL.g rfl (by simp [q1] <;> omega) rfl (o_fa 0 TI24 rfl TI22 rfl rfl ?_)
    refine WL.g rfl (by simp [q1] <;> omega) rfl (o_ld TI22 rfl rfl (cell_of hC4 rfl) ?_)
    refine WL.g rfl (by simp [q1] <;> omega) rfl (o_lenR TI22 rfl hD.row ?_)
    refine WL.g rfl (by simp [q1] <;> omega) rfl (o_ge rfl rfl ?_)
    refine WL.c rfl (o_pickO rfl rfl ?_)
    refine WL.c rfl (o_mvh (show _ = Value.bool _ from rfl) ?_)
    refine WL.g rfl (by simp [q1] <;> omega) rfl (o_mvh (show _ = Value.int _ _ from rfl) ?_)
    refine WL.g rfl (by simp [q1] <;> omega) rfl (o_lt rfl rfl ?_)
    refine WL.c rfl (o_pickO rfl rfl ?_)
    refine WL.c rfl (o_mvh (show _ = Value.bool _ from rfl) ?_)
    refine WL.g rfl (by simp [q1] <;> omega) rfl (o_mvh (show _ = Value.int _ _ from rfl) ?_)
    refine WL.g rfl (by simp [q1] <;> omega) rfl (o_fa 0 TI24 rfl TI22 rfl rfl ?_)
    refine WL.g rfl (by simp [q1] <;> omega) rfl (o_ld TI22 rfl rfl (cell_of hC4 rfl) ?_)
    refine WL.g rfl (by simp [q1] <;> omega) rfl (o_lenR TI22 rfl hD.row ?_)
    refine WL.g rfl (by simp [q1] <;> omega) rfl (o_ge rfl rfl ?_)
    refine WL.c rfl (o_pickO rfl rfl ?_)
    refine WL.nil ?_
    refine W.condT' rfl (by simp [q1] <;> omega) ?_
    refine W.seq ?_
    refine W.region ?_
    refine WL.c rfl (o_ash (show _ = Value.bool _ from rfl) ?_)
    refine WL.nil ?_
    refine W.ret ?_
    refine ret1v rfl (show _ = Value.bool _ from rfl) ?_
    exact ⟨rfl, hx⟩
  · skip
    have hG := good_of (flt_good hf q1)
    refine W.region ?_
    refine WL.c rfl (o_ldA TI24 rfl rfl (show Cells _ b4 0 [dv] from Cells.of hC4 0 _ (by simp)) rfl ?_)
    refine WL.c rfl (o_call Try.call12 (lc rfl ln) ((check_call D dv V _ hD hlim hf).mono ?_))
    rintro v16 w16 ⟨rfl, hx16⟩
    replace hx := hx.tr hx16
    replace hD := hD.ext hx16
    replace hC4 := hx16.blk hC4 (fun h => h)
    refine WL.c rfl (o_fldT TI32 rfl rfl rfl TI30 rfl rfl rfl ?_)
    refine WL.c rfl (o_ne rfl rfl ?_)
    refine WL.c rfl (o_mvh (show _ = Value.bool _ from rfl) ?_)
    refine WL.g rfl (by simp [q1]) rfl (o_mvh (show _ = Value.int _ _ from rfl) ?_)
    refine WL.g rfl (by simp [q1]) rfl (o_lt rfl rfl ?_)
    refine WL.c rfl (o_pickO rfl rfl ?_)
    refine WL.c rfl (o_mvh (show _ = Value.bool _ from rfl) ?_)
    refine WL.g rfl (by simp [q1] <;> omega) rfl (o_mvh (show _ = Value.int _ _ from rfl) ?_)
    refine WL.g rfl (by simp [q1] <;> omega) rfl (o_fa 0 TI24 rfl TI22 rfl rfl ?_)
    refine WL.g rfl (by simp [q1] <;> omega) rfl (o_ld TI22 rfl rfl (cell_of hC4 rfl) ?_)
    refine WL.g rfl (by simp [q1] <;> omega) rfl (o_lenR TI22 rfl hD.row ?_)
    refine WL.g rfl (by simp [q1] <;> omega) rfl (o_ge rfl rfl ?_)
    refine WL.c rfl (o_pickO rfl rfl ?_)
    refine WL.c rfl (o_mvh (show _ = Value.bool _ from rfl) ?_)
    refine WL.g rfl (by simp [q1] <;> omega) rfl (o_mvh (show _ = Value.int _ _ from rfl) ?_)
    refine WL.g rfl (by simp [q1] <;> omega) rfl (o_lt rfl rfl ?_)
    refine WL.c rfl (o_pickO rfl rfl ?_)
    refine WL.c rfl (o_mvh (show _ = Value.bool _ from rfl) ?_)
    refine WL.g rfl (by simp [q1] <;> omega) rfl (o_mvh (show _ = Value.int _ _ from rfl) ?_)
    refine WL.g rfl (by simp [q1] <;> omega) rfl (o_fa 0 TI24 rfl TI22 rfl rfl ?_)
    refine WL.g rfl (by simp [q1] <;> omega) rfl (o_ld TI22 rfl rfl (cell_of hC4 rfl) ?_)
    refine WL.g rfl (by simp [q1] <;> omega) rfl (o_lenR TI22 rfl hD.row ?_)
    refine WL.g rfl (by simp [q1] <;> omega) rfl (o_ge rfl rfl ?_)
    refine WL.c rfl (o_pickO rfl rfl ?_)
    refine WL.nil ?_
    refine W.condF' rfl (by simp [q1] <;> omega) ?_
    refine W.skip ?_
    refine W.seq ?_
    refine W.region ?_
    refine WL.c rfl (o_ldA TI24 rfl rfl (show Cells _ b4 0 [dv] from Cells.of hC4 0 _ (by simp)) rfl ?_)
    refine WL.c rfl (o_call Try.call11 (lc rfl ln) ((n8_lent D dv V _ hD hlim).mono ?_))
    rintro v42 w42 ⟨gv, U, rfl, hL, hx42⟩
    have hz16 := hx.size
    replace hx := hx.tr hx42
    replace hD := hD.ext hx42
    replace hC4 := hx42.blk hC4 (fun h => h)
    refine WL.c rfl (o_alB TI24 ?_)
    intro wa hC9a hx9 hs9
    refine WL.u (o_stA TI24 rfl (show _ = Value.agg #[shr gv] from rfl) rfl (by simp [own_one hL.defs.row]) hC9a rfl ?_)
    intro wb hC9 ho9 hs9b
    have hxn := Ext.own hx9 (Nat.le_refl _) ho9
    obtain ⟨c9, hc9⟩ : ∃ c, c = w42.heap.size := ⟨_, rfl⟩
    have hz9 : w0.heap.size ≤ c9 := by rw [hc9]; exact hx.size
    rw [← hc9] at hC9 ⊢
    clear hC9a hx9 hs9 ho9 hs9b
    replace hx := hx.tr hxn
    replace hD := hD.ext hxn
    replace hC4 := hxn.blk hC4 (fun h => h)
    replace hL := hL.ext hxn
    refine WL.nil ?_
    refine W.seq ?_
    obtain ⟨tb, to_, tc, hv1, htc1, hty1⟩ := hL.defs.rd.atk hd
    obtain ⟨gg, capg, hgv, -⟩ := own_some hL.row (by omega)
    obtain ⟨g2, cap2, hU, hgb2⟩ := own_some (hL.tys.row d hd) (by show 0 < (tyD D d).length + 1; omega)
    have hU' : shr (U d) = .slice (some ⟨g2, 0, none⟩) (tyD D d).length cap2 := by rw [hU]; rfl
    replace hty1 := hL.defs.rd.tys d hd
    rw [hv1] at hC9
    rw [hU'] at htc1 hty1
    refine W.region ?_
    refine WL.c rfl (o_fa 0 TI24 rfl TI22 rfl rfl ?_)
    refine WL.c rfl (o_ld TI22 rfl rfl (cell_of hC9 rfl) ?_)
    refine WL.c rfl (o_mvh (show _ = Value.int _ _ from rfl) ?_)
    refine WL.c rfl (o_ixB (i := d) TI22 TI39 (show _ = Value.slice (some ⟨tb, to_, none⟩) D.length tc from rfl) (show _ = Value.int .i64 (d : Int) from rfl) (by omega) ?_)
    refine WL.c rfl (o_fa 2 TI39 rfl TI37 rfl rfl ?_)
    refine WL.c rfl (o_ld TI37 rfl rfl (htc1 2 _ rfl) ?_)
    refine WL.c rfl (o_ash (by first | exact (show _ = Value.slice _ _ _ from rfl) | exact rfl) ?_)
    refine WL.nil ?_
    refine W.seq ?_
    refine W.seq ?_
    rcases node_cases (tyD D d) a2 with q2 | ⟨q2, q3⟩ | ⟨j, hj, rfl, h9⟩ | ⟨j, hj, rfl, h9⟩
    · skip
      skip
      refine W.region ?_
      refine WL.c rfl (o_mvh (show _ = Value.int _ _ from rfl) ?_)
      refine WL.c rfl (o_lt rfl rfl ?_)
      refine WL.c rfl (o_mvh (show _ = Value.bool _ from rfl) ?_)
      refine WL.s rfl (by simp <;> omega) rfl ?_
      refine WL.s rfl (by simp <;> omega) rfl ?_
      refine WL.s rfl (by simp <;> omega) rfl ?_
      refine WL.s rfl (by simp <;> omega) rfl ?_
      refine WL.c rfl (o_pickT rfl (by simp <;> omega) ?_)
      refine WL.c rfl (o_mvh (show _ = Value.bool _ from rfl) ?_)
      refine WL.s rfl (rfl) rfl ?_
      refine WL.s rfl (rfl) rfl ?_
      refine WL.s rfl (rfl) rfl ?_
      refine WL.s rfl (rfl) rfl ?_
      refine WL.s rfl (rfl) rfl ?_
      refine WL.s rfl (rfl) rfl ?_
      refine WL.c rfl (o_pickT rfl (rfl) ?_)
      refine WL.nil ?_
      refine W.condT' rfl (rfl) ?_
      refine W.seq ?_
      refine W.region ?_
      refine WL.c rfl (o_ash (show _ = Value.bool _ from rfl) ?_)
      refine WL.nil ?_
      refine W.ret ?_
      refine ret1v rfl (show _ = Value.bool _ from rfl) ?_
      exact ⟨rfl, hx⟩
    · skip
      skip
      refine W.region ?_
      refine WL.c rfl (o_mvh (show _ = Value.int _ _ from rfl) ?_)
      refine WL.c rfl (o_lt rfl rfl ?_)
      refine WL.c rfl (o_mvh (show _ = Value.bool _ from rfl) ?_)
      refine WL.g rfl (by simp <;> omega) rfl (o_mvh (show _ = Value.int _ _ from rfl) ?_)
      refine WL.g rfl (by simp <;> omega) rfl (o_mvh (by first | exact (show _ = Value.slice _ _ _ from rfl) | exact rfl) ?_)
      refine WL.g rfl (by simp <;> omega) rfl (o_lenR TI37 rfl hty1 ?_)
      refine WL.g rfl (by simp <;> omega) rfl (o_ge rfl rfl ?_)
      refine WL.c rfl (o_pickO rfl rfl ?_)
      refine WL.c rfl (o_mvh (show _ = Value.bool _ from rfl) ?_)
      refine WL.s rfl (by simp <;> omega) rfl ?_
      refine WL.s rfl (by simp <;> omega) rfl ?_
      refine WL.s rfl (by simp <;> omega) rfl ?_
      refine WL.s rfl (by simp <;> omega) rfl ?_
      refine WL.s rfl (by simp <;> omega) rfl ?_
      refine WL.s rfl (by simp <;> omega) rfl ?_
      refine WL.c rfl (o_pickT rfl (by simp <;> omega) ?_)
      refine WL.nil ?_
      refine W.condT' rfl (rfl) ?_
      refine W.seq ?_
      refine W.region ?_
      refine WL.c rfl (o_ash (show _ = Value.bool _ from rfl) ?_)
      refine WL.nil ?_
      refine W.ret ?_
      refine ret1v rfl (show _ = Value.bool _ from rfl) ?_
      exact ⟨rfl, hx⟩
    · skip
      obtain ⟨ub, uo, uc, hve, huc⟩ := Sl.exq hty1 hj
      cases hve
      refine W.region ?_
      refine WL.c rfl (o_mvh (show _ = Value.int _ _ from rfl) ?_)
      refine WL.c rfl (o_lt rfl rfl ?_)
      refine WL.c rfl (o_mvh (show _ = Value.bool _ from rfl) ?_)
      refine WL.g rfl (by simp <;> omega) rfl (o_mvh (show _ = Value.int _ _ from rfl) ?_)
      refine WL.g rfl (by simp <;> omega) rfl (o_mvh (by first | exact (show _ = Value.slice _ _ _ from rfl) | exact rfl) ?_)
      refine WL.g rfl (by simp <;> omega) rfl (o_lenR TI37 rfl hty1 ?_)
      refine WL.g rfl (by simp <;> omega) rfl (o_ge rfl rfl ?_)
      refine WL.c rfl (o_pickO rfl rfl ?_)
      refine WL.c rfl (o_mvh (show _ = Value.bool _ from rfl) ?_)
      refine WL.g rfl (by simp <;> omega) rfl (o_mvh (by first | exact (show _ = Value.slice _ _ _ from rfl) | exact rfl) ?_)
      refine WL.g rfl (by simp <;> omega) rfl (o_mvh (show _ = Value.int _ _ from rfl) ?_)
      refine WL.g rfl (by simp <;> omega) rfl (o_ixB (i := j) TI37 TI26 (show _ = Value.slice (some ⟨g2, 0, none⟩) (tyD D d).length cap2 from rfl) (show _ = Value.int .i64 (j : Int) from rfl) (by omega) ?_)
      refine WL.g rfl (by simp <;> omega) rfl (o_fa 0 TI26 rfl TI3 rfl rfl ?_)
      refine WL.g rfl (by simp <;> omega) rfl (o_ld TI3 rfl rfl (huc 0 _ rfl) ?_)
      refine WL.g rfl (by simp <;> omega) rfl (o_ne rfl rfl ?_)
      refine WL.c rfl (o_pickO rfl rfl ?_)
      refine WL.nil ?_
      refine W.condT' rfl (by simp [h9] <;> omega) ?_
      refine W.seq ?_
      refine W.region ?_
      refine WL.c rfl (o_ash (show _ = Value.bool _ from rfl) ?_)
      refine WL.nil ?_
      refine W.ret ?_
      refine ret1v rfl (show _ = Value.bool _ from rfl) ?_
      exact ⟨rfl, hx⟩
    · skip
      obtain ⟨ub, uo, uc, hve, huc⟩ := Sl.exq hty1 hj
      cases hve
      refine W.region ?_
      refine WL.c rfl (o_mvh (show _ = Value.int _ _ from rfl) ?_)
      refine WL.c rfl (o_lt rfl rfl ?_)
      refine WL.c rfl (o_mvh (show _ = Value.bool _ from rfl) ?_)
      refine WL.g rfl (by simp <;> omega) rfl (o_mvh (show _ = Value.int _ _ from rfl) ?_)
      refine WL.g rfl (by simp <;> omega) rfl (o_mvh (by first | exact (show _ = Value.slice _ _ _ from rfl) | exact rfl) ?_)
      refine WL.g rfl (by simp <;> omega) rfl (o_lenR TI37 rfl hty1 ?_)
      refine WL.g rfl (by simp <;> omega) rfl (o_ge rfl rfl ?_)
      refine WL.c rfl (o_pickO rfl rfl ?_)
      refine WL.c rfl (o_mvh (show _ = Value.bool _ from rfl) ?_)
      refine WL.g rfl (by simp <;> omega) rfl (o_mvh (by first | exact (show _ = Value.slice _ _ _ from rfl) | exact rfl) ?_)
      refine WL.g rfl (by simp <;> omega) rfl (o_mvh (show _ = Value.int _ _ from rfl) ?_)
      refine WL.g rfl (by simp <;> omega) rfl (o_ixB (i := j) TI37 TI26 (show _ = Value.slice (some ⟨g2, 0, none⟩) (tyD D d).length cap2 from rfl) (show _ = Value.int .i64 (j : Int) from rfl) (by omega) ?_)
      refine WL.g rfl (by simp <;> omega) rfl (o_fa 0 TI26 rfl TI3 rfl rfl ?_)
      refine WL.g rfl (by simp <;> omega) rfl (o_ld TI3 rfl rfl (huc 0 _ rfl) ?_)
      refine WL.g rfl (by simp <;> omega) rfl (o_ne rfl rfl ?_)
      refine WL.c rfl (o_pickO rfl rfl ?_)
      refine WL.nil ?_
      refine W.condF' rfl (by simp [h9] <;> omega) ?_
      refine W.skip ?_
      refine W.seq ?_
      by_cases hyd : t = d
      · skip
        have hrb : true = true ↔ (t = d ∨ Relation.TransGen (Us (usesD D)) t d) := ⟨fun _ => .inl hyd, fun _ => rfl⟩
        refine W.region ?_
        refine WL.c rfl (o_mvh (show _ = Value.int _ _ from rfl) ?_)
        refine WL.c rfl (o_mvh (show _ = Value.int _ _ from rfl) ?_)
        refine WL.c rfl (o_eq rfl rfl ?_)
        refine WL.c rfl (o_mvh (show _ = Value.bool _ from rfl) ?_)
        refine WL.s rfl (by simp [hyd]) rfl ?_
        refine WL.s rfl (by simp [hyd]) rfl ?_
        refine WL.s rfl (by simp [hyd]) rfl ?_
        refine WL.s rfl (by simp [hyd]) rfl ?_
        refine WL.c rfl (o_pickT rfl (by simp [hyd]) ?_)
        refine WL.c rfl (o_ash (show _ = Value.bool _ from rfl) ?_)
        refine WL.nil ?_
        refine W.seq ?_
        have hDe := hL.defs
        have hrow2 := hDe.tys.row d hd
        rw [hU'] at hrow2
        obtain ⟨gb, go, gc, rfl, hgc, -⟩ := hD.atk ht
        refine W.region ?_
        refine WL.c rfl (o_mvh (by first | exact (show _ = Value.slice _ _ _ from rfl) | exact rfl) ?_)
        refine WL.c rfl (o_mvh (show _ = Value.int _ _ from rfl) ?_)
        refine WL.c rfl (o_fa 0 TI24 rfl TI22 rfl rfl ?_)
        refine WL.c rfl (o_ld TI22 rfl rfl (cell_of hC4 rfl) ?_)
        refine WL.c rfl (o_mvh (show _ = Value.int _ _ from rfl) ?_)
        refine WL.c rfl (o_ixB (i := t) TI22 TI39 (show _ = Value.slice (some ⟨gb, go, none⟩) D.length gc from rfl) (show _ = Value.int .i64 (t : Int) from rfl) (by omega) ?_)
        refine WL.c rfl (o_fa 0 TI39 rfl TI9 rfl rfl ?_)
        refine WL.c rfl (o_ld TI9 rfl rfl (hgc 0 _ rfl) ?_)
        refine WL.c rfl (o_ixB (i := j) TI37 TI26 (show _ = Value.slice (some ⟨g2, 0, none⟩) (tyD D d).length cap2 from rfl) (show _ = Value.int .i64 (j : Int) from rfl) (by omega) ?_)
        refine WL.c rfl (o_fa 2 TI26 rfl TI9 rfl rfl ?_)
        refine WL.u (o_stRj TI9 rfl (show 0 + j * 7 + 2 = j * 7 + 2 by omega) (show _ = st D[t].name from rfl) rfl hrow2 rfl (by omega) ?_)
        intro w83 hrow3 ho83 hs83
        replace hrow3 : w83.ownsRow w16.heap.size 26 7 (shr (U d)) (tyD D d).length (exs ((tyD D d).set j { (tyD D d)[j] with name := D[t].name })) := by rw [hU', ← exs_name hj]; exact hrow3
        rw [← hU'] at ho83
        have hlU : ∀ k, (shr (U d)).ownBlock = some k → w16.heap.size ≤ k := fun k hk => (hDe.tys.lt hd hk).1
        have hD3 := hDe.setE hd ho83 hrow3
        rw [← turn_eq hj ht] at hD3
        rw [← hv1] at hC9
        replace hC9 := ho83.blk hC9 (fun hk => own_off (hDe.tys.row d hd) hC9 (by decide) hk)
        replace hx := hx.trans' ho83 (fun _ h => h) (fun k hk he => by have := hlU k he; omega)
        have hxo : ExOk { (tyD D d)[j] with name := D[t].name } := by
          have h1 := hlim.nm _ (List.getElem_mem ht)
          have h2 := hlim.ex _ (List.getElem_mem hd) ((tyD D d)[j]) (by have := List.getElem_mem hj; rwa [← tyD_at hd])
          exact ⟨h1, h2.2⟩
        have hlim3 := hlim.setE (d := d) (n := j) hxo
        rw [← turn_eq hj ht] at hlim3
        obtain ⟨e2, p2, hf2⟩ : ∃ er at_, flt (turnE D d j t) = (er, at_) := ⟨_, _, rfl⟩
        have hy2 := turn_ring hG hd ht hj h9
        have hn2 := turn_none hG hd ht hj h9
        rw [hf2] at hy2 hn2
        refine WL.nil ?_
        refine W.seq ?_
        refine W.region ?_
        refine WL.c rfl (o_ldA TI24 rfl rfl (show Cells _ c9 0 [shr gv] from Cells.of hC9 0 _ (by simp)) rfl ?_)
        refine WL.c rfl (o_call Try.call12 (lc rfl ln) ((check_call (turnE D d j t) (shr gv) (fun j => shr (U j)) _ hD3.rd hlim3 hf2).mono ?_))
        rintro v85 w85 ⟨rfl, hx85⟩
        replace hx := hx.tr hx85
        refine WL.c rfl (o_alB TI32 ?_)
        intro wa hCa hxa hsa
        refine WL.u (o_stA TI32 rfl (show _ = Value.agg ([.int .i64 e2, .int .i64 p2]).toArray from rfl) rfl rfl hCa rfl ?_)
        intro wb12 hC12 hob hsb
        have hxb := Ext.own hxa (Nat.le_refl _) hob
        obtain ⟨b12, hb12⟩ : ∃ b, b = w85.heap.size := ⟨_, rfl⟩
        rw [← hb12] at hC12 ⊢
        clear hCa hxa hsa hob hsb
        replace hx := hx.tr hxb
        clear hxb
        refine WL.nil ?_
        refine W.seq ?_
        refine W.seq ?_
        refine W.region ?_
        refine WL.c rfl (o_mvh (show _ = Value.bool _ from rfl) ?_)
        refine WL.nil ?_
        refine W.cond rfl (fun c86 => ?_) (fun c86 => ?_)
        · try simp only [decide_eq_true_eq, decide_eq_false_iff_not, Bool.not_eq_true', Bool.not_eq_false', Bool.and_eq_true, Bool.or_eq_true, Bool.and_eq_false_iff, Bool.or_eq_false_iff] at c86
          have he2 : e2 = 82 := hy2 (by first | exact .inl hyd | exact c86.elim (fun h => .inl (by omega)) (fun h => hrb.1 h))
          refine W.seq ?_
          refine W.region ?_
          refine WL.c rfl (o_fa 0 TI32 rfl TI30 rfl rfl ?_)
          refine WL.c rfl (o_ld TI30 rfl rfl (cell_of hC12 rfl) ?_)
          refine WL.c rfl (o_eq rfl rfl ?_)
          refine WL.c rfl (o_ash (show _ = Value.bool _ from rfl) ?_)
          refine WL.nil ?_
          refine W.ret ?_
          refine ret1v rfl (show _ = Value.bool _ from rfl) ?_
          exact ⟨congrArg Value.bool (by simp [he2]), hx⟩
        · try simp only [decide_eq_true_eq, decide_eq_false_iff_not, Bool.not_eq_true', Bool.not_eq_false', Bool.and_eq_true, Bool.or_eq_true, Bool.and_eq_false_iff, Bool.or_eq_false_iff] at c86
          have he2 : e2 = 0 ∨ e2 = 83 := hn2 (by first | exact (fun h => Bool.false_ne_true (c86.symm.trans (hrb.2 h))) | exact (fun h => Bool.false_ne_true (c86.2.symm.trans (hrb.2 h))))
          refine W.skip ?_
          refine W.seq ?_
          rcases he2 with he2 | he2
          · skip
            skip
            refine W.region ?_
            refine WL.c rfl (o_fa 0 TI32 rfl TI30 rfl rfl ?_)
            refine WL.c rfl (o_ld TI30 rfl rfl (cell_of hC12 rfl) ?_)
            refine WL.c rfl (o_eq rfl rfl ?_)
            refine WL.c rfl (o_mvh (show _ = Value.bool _ from rfl) ?_)
            refine WL.s rfl (by simp [he2]) rfl ?_
            refine WL.s rfl (by simp [he2]) rfl ?_
            refine WL.s rfl (by simp [he2]) rfl ?_
            refine WL.c rfl (o_pickT rfl (by simp [he2]) ?_)
            refine WL.c rfl (o_ash (show _ = Value.bool _ from rfl) ?_)
            refine WL.nil ?_
            refine W.ret ?_
            refine ret1v rfl (show _ = Value.bool _ from rfl) ?_
            exact ⟨congrArg Value.bool (by simp [he2]), hx⟩
          · skip
            skip
            refine W.region ?_
            refine WL.c rfl (o_fa 0 TI32 rfl TI30 rfl rfl ?_)
            refine WL.c rfl (o_ld TI30 rfl rfl (cell_of hC12 rfl) ?_)
            refine WL.c rfl (o_eq rfl rfl ?_)
            refine WL.c rfl (o_mvh (show _ = Value.bool _ from rfl) ?_)
            refine WL.g rfl (by simp [he2]) rfl (o_fa 0 TI32 rfl TI30 rfl rfl ?_)
            refine WL.g rfl (by simp [he2]) rfl (o_ld TI30 rfl rfl (cell_of hC12 rfl) ?_)
            refine WL.g rfl (by simp [he2]) rfl (o_eq rfl rfl ?_)
            refine WL.c rfl (o_pickO rfl rfl ?_)
            refine WL.c rfl (o_ash (show _ = Value.bool _ from rfl) ?_)
            refine WL.nil ?_
            refine W.ret ?_
            refine ret1v rfl (show _ = Value.bool _ from rfl) ?_
            exact ⟨congrArg Value.bool (by simp [he2]), hx⟩
      · skip
        skip
        refine W.region ?_
        refine WL.c rfl (o_mvh (show _ = Value.int _ _ from rfl) ?_)
        refine WL.c rfl (o_mvh (show _ = Value.int _ _ from rfl) ?_)
        refine WL.c rfl (o_eq rfl rfl ?_)
        refine WL.c rfl (o_mvh (show _ = Value.bool _ from rfl) ?_)
        refine WL.g rfl (by simp <;> omega) rfl (o_ldA TI24 rfl rfl (show Cells _ b4 0 [dv] from Cells.of hC4 0 _ (by simp)) rfl ?_)
        refine WL.g rfl (by simp <;> omega) rfl (o_mvh (show _ = Value.int _ _ from rfl) ?_)
        refine WL.g rfl (by simp <;> omega) rfl (o_mvh (show _ = Value.int _ _ from rfl) ?_)
        refine WL.g rfl (by simp <;> omega) rfl (o_call Try.call21 (lc rfl (lc rfl (lc rfl ln))) ((reaches_spec D dv V t d _ hD hlim hG ht hd).mono ?_))
        rintro v72 w72 ⟨⟨rb, rfl, hrb0⟩, hx72⟩
        have hrb : rb = true ↔ (t = d ∨ Relation.TransGen (Us (usesD D)) t d) := by rw [hrb0]; exact ⟨fun h => .inr h, fun h => h.resolve_left hyd⟩
        replace hx := hx.tr hx72
        replace hD := hD.ext hx72
        replace hC4 := hx72.blk hC4 (fun h => h)
        replace hL := hL.ext hx72
        replace hC9 := hx72.blk hC9 (fun h => h)
        refine WL.c rfl (o_pickO rfl rfl ?_)
        refine WL.c rfl (o_ash (show _ = Value.bool _ from rfl) ?_)
        refine WL.nil ?_
        refine W.seq ?_
        have hDe := hL.defs
        have hrow2 := hDe.tys.row d hd
        rw [hU'] at hrow2
        obtain ⟨gb, go, gc, rfl, hgc, -⟩ := hD.atk ht
        refine W.region ?_
        refine WL.c rfl (o_mvh (by first | exact (show _ = Value.slice _ _ _ from rfl) | exact rfl) ?_)
        refine WL.c rfl (o_mvh (show _ = Value.int _ _ from rfl) ?_)
        refine WL.c rfl (o_fa 0 TI24 rfl TI22 rfl rfl ?_)
        refine WL.c rfl (o_ld TI22 rfl rfl (cell_of hC4 rfl) ?_)
        refine WL.c rfl (o_mvh (show _ = Value.int _ _ from rfl) ?_)
        refine WL.c rfl (o_ixB (i := t) TI22 TI39 (show _ = Value.slice (some ⟨gb, go, none⟩) D.length gc from rfl) (show _ = Value.int .i64 (t : Int) from rfl) (by omega) ?_)
        refine WL.c rfl (o_fa 0 TI39 rfl TI9 rfl rfl ?_)
        refine WL.c rfl (o_ld TI9 rfl rfl (hgc 0 _ rfl) ?_)
        refine WL.c rfl (o_ixB (i := j) TI37 TI26 (show _ = Value.slice (some ⟨g2, 0, none⟩) (tyD D d).length cap2 from rfl) (show _ = Value.int .i64 (j : Int) from rfl) (by omega) ?_)
        refine WL.c rfl (o_fa 2 TI26 rfl TI9 rfl rfl ?_)
        refine WL.u (o_stRj TI9 rfl (show 0 + j * 7 + 2 = j * 7 + 2 by omega) (show _ = st D[t].name from rfl) rfl hrow2 rfl (by omega) ?_)
        intro w83 hrow3 ho83 hs83
        replace hrow3 : w83.ownsRow w16.heap.size 26 7 (shr (U d)) (tyD D d).length (exs ((tyD D d).set j { (tyD D d)[j] with name := D[t].name })) := by rw [hU', ← exs_name hj]; exact hrow3
        rw [← hU'] at ho83
        have hlU : ∀ k, (shr (U d)).ownBlock = some k → w16.heap.size ≤ k := fun k hk => (hDe.tys.lt hd hk).1
        have hD3 := hDe.setE hd ho83 hrow3
        rw [← turn_eq hj ht] at hD3
        rw [← hv1] at hC9
        replace hC9 := ho83.blk hC9 (fun hk => own_off (hDe.tys.row d hd) hC9 (by decide) hk)
        replace hx := hx.trans' ho83 (fun _ h => h) (fun k hk he => by have := hlU k he; omega)
        have hxo : ExOk { (tyD D d)[j] with name := D[t].name } := by
          have h1 := hlim.nm _ (List.getElem_mem ht)
          have h2 := hlim.ex _ (List.getElem_mem hd) ((tyD D d)[j]) (by have := List.getElem_mem hj; rwa [← tyD_at hd])
          exact ⟨h1, h2.2⟩
        have hlim3 := hlim.setE (d := d) (n := j) hxo
        rw [← turn_eq hj ht] at hlim3
        obtain ⟨e2, p2, hf2⟩ : ∃ er at_, flt (turnE D d j t) = (er, at_) := ⟨_, _, rfl⟩
        have hy2 := turn_ring hG hd ht hj h9
        have hn2 := turn_none hG hd ht hj h9
        rw [hf2] at hy2 hn2
        refine WL.nil ?_
        refine W.seq ?_
        refine W.region ?_
        refine WL.c rfl (o_ldA TI24 rfl rfl (show Cells _ c9 0 [shr gv] from Cells.of hC9 0 _ (by simp)) rfl ?_)
        refine WL.c rfl (o_call Try.call12 (lc rfl ln) ((check_call (turnE D d j t) (shr gv) (fun j => shr (U j)) _ hD3.rd hlim3 hf2).mono ?_))
        rintro v85 w85 ⟨rfl, hx85⟩
        replace hx := hx.tr hx85
        refine WL.c rfl (o_alB TI32 ?_)
        intro wa hCa hxa hsa
        refine WL.u (o_stA TI32 rfl (show _ = Value.agg ([.int .i64 e2, .int .i64 p2]).toArray from rfl) rfl rfl hCa rfl ?_)
        intro wb12 hC12 hob hsb
        have hxb := Ext.own hxa (Nat.le_refl _) hob
        obtain ⟨b12, hb12⟩ : ∃ b, b = w85.heap.size := ⟨_, rfl⟩
        rw [← hb12] at hC12 ⊢
        clear hCa hxa hsa hob hsb
        replace hx := hx.tr hxb
        clear hxb
        refine WL.nil ?_
        refine W.seq ?_
        refine W.seq ?_
        refine W.region ?_
        refine WL.c rfl (o_mvh (show _ = Value.bool _ from rfl) ?_)
        refine WL.nil ?_
        refine W.cond rfl (fun c86 => ?_) (fun c86 => ?_)
        · try simp only [decide_eq_true_eq, decide_eq_false_iff_not, Bool.not_eq_true', Bool.not_eq_false', Bool.and_eq_true, Bool.or_eq_true, Bool.and_eq_false_iff, Bool.or_eq_false_iff] at c86
          have he2 : e2 = 82 := hy2 (by first | exact .inl hyd | exact c86.elim (fun h => .inl (by omega)) (fun h => hrb.1 h))
          refine W.seq ?_
          refine W.region ?_
          refine WL.c rfl (o_fa 0 TI32 rfl TI30 rfl rfl ?_)
          refine WL.c rfl (o_ld TI30 rfl rfl (cell_of hC12 rfl) ?_)
          refine WL.c rfl (o_eq rfl rfl ?_)
          refine WL.c rfl (o_ash (show _ = Value.bool _ from rfl) ?_)
          refine WL.nil ?_
          refine W.ret ?_
          refine ret1v rfl (show _ = Value.bool _ from rfl) ?_
          exact ⟨congrArg Value.bool (by simp [he2]), hx⟩
        · try simp only [decide_eq_true_eq, decide_eq_false_iff_not, Bool.not_eq_true', Bool.not_eq_false', Bool.and_eq_true, Bool.or_eq_true, Bool.and_eq_false_iff, Bool.or_eq_false_iff] at c86
          have he2 : e2 = 0 ∨ e2 = 83 := hn2 (by first | exact (fun h => Bool.false_ne_true (c86.symm.trans (hrb.2 h))) | exact (fun h => Bool.false_ne_true (c86.2.symm.trans (hrb.2 h))))
          refine W.skip ?_
          refine W.seq ?_
          rcases he2 with he2 | he2
          · skip
            skip
            refine W.region ?_
            refine WL.c rfl (o_fa 0 TI32 rfl TI30 rfl rfl ?_)
            refine WL.c rfl (o_ld TI30 rfl rfl (cell_of hC12 rfl) ?_)
            refine WL.c rfl (o_eq rfl rfl ?_)
            refine WL.c rfl (o_mvh (show _ = Value.bool _ from rfl) ?_)
            refine WL.s rfl (by simp [he2]) rfl ?_
            refine WL.s rfl (by simp [he2]) rfl ?_
            refine WL.s rfl (by simp [he2]) rfl ?_
            refine WL.c rfl (o_pickT rfl (by simp [he2]) ?_)
            refine WL.c rfl (o_ash (show _ = Value.bool _ from rfl) ?_)
            refine WL.nil ?_
            refine W.ret ?_
            refine ret1v rfl (show _ = Value.bool _ from rfl) ?_
            exact ⟨congrArg Value.bool (by simp [he2]), hx⟩
          · skip
            skip
            refine W.region ?_
            refine WL.c rfl (o_fa 0 TI32 rfl TI30 rfl rfl ?_)
            refine WL.c rfl (o_ld TI30 rfl rfl (cell_of hC12 rfl) ?_)
            refine WL.c rfl (o_eq rfl rfl ?_)
            refine WL.c rfl (o_mvh (show _ = Value.bool _ from rfl) ?_)
            refine WL.g rfl (by simp [he2]) rfl (o_fa 0 TI32 rfl TI30 rfl rfl ?_)
            refine WL.g rfl (by simp [he2]) rfl (o_ld TI30 rfl rfl (cell_of hC12 rfl) ?_)
            refine WL.g rfl (by simp [he2]) rfl (o_eq rfl rfl ?_)
            refine WL.c rfl (o_pickO rfl rfl ?_)
            refine WL.c rfl (o_ash (show _ = Value.bool _ from rfl) ?_)
            refine WL.nil ?_
            refine W.ret ?_
            refine ret1v rfl (show _ = Value.bool _ from rfl) ?_
            exact ⟨congrArg Value.bool (by simp [he2]), hx⟩
end Go.Proofs.Ytgcehajdldicfaa
