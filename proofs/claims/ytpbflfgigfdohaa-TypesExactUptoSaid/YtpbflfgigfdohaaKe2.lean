/-
  Walks and lemmas. Written by program out of specs of mine.
-/
import Derived.WalkKit
import Derived.WalkSpells
import Derived.WalkLawsBesides
import Derived.Deep.Quiet
import Derived.StillTail
import Derived.StringKeys
import Derived.Laws.StructEq
import Derived.Laws.Externs
import Derived.Laws.Tables
import Derived.Scope
import Derived.Test.YtpbflfgigfdohaaProg
import Derived.Laws.AppendOwn
import Derived.Maps.AppendAt
import Derived.Recover
import Derived.Lib.Bytealg
import Derived.SizedLaws
import Derived.ChangeArms
import Derived.ChangeSlices
import Derived.Maps.OwnSet
import Derived.Test.YtpbflfgigfdohaaRows
import Derived.ProofKit
import Derived.OpenShut
import Derived.ShutString
import Derived.ChangeOld
import Derived.Below
import Derived.JoinedCond
import Derived.SliceStrings
import Derived.Test.YtpbflfgigfdohaaKe1
set_option linter.unusedSimpArgs false
set_option linter.unusedVariables false
set_option maxRecDepth 100000
namespace Go.Proofs.Ytpbflfgigfdohaa
open Go Go.Vc Go.RowKit Go.Proofs

def okB (x : Ex) : Bool :=
 if x.kind = 1 then (decide (x.n = 1) || decide (x.n = 2) || decide (x.n = 4) || decide (x.n = 8)) && decide (x.kids = 0)
 else if x.kind = 2 ∨ x.kind = 3 ∨ x.kind = 9 then decide (x.n = 0) && decide (x.kids = 0)
 else if x.kind = 4 ∨ x.kind = 5 then decide (0 ≤ x.n) && decide (x.n ≤ 2147483647) && decide (x.kids = 1)
 else if x.kind = 6 then decide (x.n = 0) && decide (x.kids = 1)
 else if x.kind = 7 ∨ x.kind = 8 then decide (x.n = 0) && decide (1 ≤ x.kids)
 else false
def namB (x : Ex) : Bool := if x.kind = 9 then nameB x.name else decide (x.name = [])
def labB (x : Ex) (above : Int) : Bool := if above = 8 then nameB x.label else decide (x.label = [])
def tagB (x : Ex) (above : Int) : Bool := decide (x.tag = 0) || (decide (above = 7) && decide (0 < x.tag) && decide (x.tag ≤ 2147483647))
def rightB (x : Ex) (above : Int) : Bool := okB x && namB x && labB x above && tagB x above
theorem nameB_nil : nameB [] = false := rfl

set_option maxHeartbeats 2000000 in
theorem right_spec (x : Ex) (above : Int) (w0 : World) (hn : x.name.length ≤ 9223372036854775807) (hl : x.label.length ≤ 9223372036854775807) : Ca Try.prog 77 #[.agg (exV x).toArray, .int .i64 above] w0 (fun v w' => v = .bool (rightB x above) ∧ Ext w0 w') := by
 refine Ca.of Try.func77 Try.ntmps77 rfl rfl (W.seq (W.region (WL.c rfl (o_boxB rfl ?_))))
 intro w2 hC2 hx2 hs2
 obtain ⟨c2, hc2⟩ : ∃ c, c = w0.heap.size := ⟨_, rfl⟩
 rw [← hc2] at hC2 ⊢
 replace hC2 : w2.heap[c2]? = some (.cells (exV x).toArray 41 (0, 0)) := hC2
 refine WL.c rfl (o_ash vB (WL.nil (W.seq (W.region (WL.c rfl (o_ash vB (WL.nil (W.seq (W.seq (W.region (WL.c rfl (o_fa 0 TI41 rfl TI3 rfl rfl (WL.c rfl (o_ld TI3 rfl rfl (cell_of hC2 rfl) (WL.nil (W.block (W.seq (W.region (WL.c rfl (o_eq rfl rfl (WL.c rfl (o_ash vB (WL.nil (W.cut (fun e1 w1 => e1 1 = .int .i64 above ∧ e1 2 = .pointer (some ⟨c2, 0, none⟩) ∧ e1 5 = .bool (okB x) ∧ w1 = w2) ?_ ?_))))))))))))))))))))))))
 ·-- both ways
  refine W.cond rfl (fun c11 => ?_) (fun c11 => ?_)
  ·try simp only [cs8] at c11
   refine W.region (WL.c rfl (o_fa 1 TI41 rfl TI3 rfl rfl (WL.c rfl (o_ld TI3 rfl rfl (cell_of hC2 rfl) (WL.c rfl (o_eq rfl rfl (WL.c rfl (o_mvh vB (WL.sp 3 rfl (fun g16 => ?_) (fun g16 => ?_))))))))))
   ·skip
    refine WL.s rfl (g16) rfl (WL.s rfl (g16) rfl (WL.s rfl (g16) rfl (WL.c rfl (o_pickT rfl (g16) (WL.c rfl (o_mvh vB (WL.s rfl (rfl) rfl (WL.s rfl (rfl) rfl (WL.s rfl (rfl) rfl (WL.c rfl (o_pickT rfl (rfl) (WL.c rfl (o_mvh vB (WL.s rfl (rfl) rfl (WL.s rfl (rfl) rfl (WL.s rfl (rfl) rfl (WL.c rfl (o_pickT rfl (rfl) (WL.c rfl (o_mvh vB (WL.g rfl (rfl) rfl (o_fa 5 TI41 rfl TI3 rfl rfl (WL.g rfl (rfl) rfl (o_ld TI3 rfl rfl (cell_of hC2 rfl) (WL.g rfl (rfl) rfl (o_eq rfl rfl (WL.c rfl (o_pickA rfl rfl (WL.c rfl (o_ash vB (WL.nil ?_)))))))))))))))))))))))))))))))
    exact ⟨rfl, rfl, congrArg Value.bool (by rw [Bool.eq_iff_iff]; simp_all [okB] <;> omega), rfl⟩
   skip
   refine WL.g rfl (g16) rfl (o_fa 1 TI41 rfl TI3 rfl rfl (WL.g rfl (g16) rfl (o_ld TI3 rfl rfl (cell_of hC2 rfl) (WL.g rfl (g16) rfl (o_eq rfl rfl (WL.c rfl (o_pickO rfl rfl (WL.c rfl (o_mvh vB (WL.sp 8 rfl (fun g21 => ?_) (fun g21 => ?_)))))))))))
   ·skip
    refine WL.s rfl (g21) rfl (WL.s rfl (g21) rfl (WL.s rfl (g21) rfl (WL.c rfl (o_pickT rfl (g21) (WL.c rfl (o_mvh vB (WL.s rfl (rfl) rfl (WL.s rfl (rfl) rfl (WL.s rfl (rfl) rfl (WL.c rfl (o_pickT rfl (rfl) (WL.c rfl (o_mvh vB (WL.g rfl (rfl) rfl (o_fa 5 TI41 rfl TI3 rfl rfl (WL.g rfl (rfl) rfl (o_ld TI3 rfl rfl (cell_of hC2 rfl) (WL.g rfl (rfl) rfl (o_eq rfl rfl (WL.c rfl (o_pickA rfl rfl (WL.c rfl (o_ash vB (WL.nil ?_))))))))))))))))))))))))
    exact ⟨rfl, rfl, congrArg Value.bool (by rw [Bool.eq_iff_iff]; simp_all [okB] <;> omega), rfl⟩
   skip
   refine WL.g rfl (g21) rfl (o_fa 1 TI41 rfl TI3 rfl rfl (WL.g rfl (g21) rfl (o_ld TI3 rfl rfl (cell_of hC2 rfl) (WL.g rfl (g21) rfl (o_eq rfl rfl (WL.c rfl (o_pickO rfl rfl (WL.c rfl (o_mvh vB (WL.sp 13 rfl (fun g26 => ?_) (fun g26 => ?_)))))))))))
   ·skip
    refine WL.s rfl (g26) rfl (WL.s rfl (g26) rfl (WL.s rfl (g26) rfl (WL.c rfl (o_pickT rfl (g26) (WL.c rfl (o_mvh vB (WL.g rfl (rfl) rfl (o_fa 5 TI41 rfl TI3 rfl rfl (WL.g rfl (rfl) rfl (o_ld TI3 rfl rfl (cell_of hC2 rfl) (WL.g rfl (rfl) rfl (o_eq rfl rfl (WL.c rfl (o_pickA rfl rfl (WL.c rfl (o_ash vB (WL.nil ?_)))))))))))))))))
    exact ⟨rfl, rfl, congrArg Value.bool (by rw [Bool.eq_iff_iff]; simp_all [okB] <;> omega), rfl⟩
   skip
   refine WL.g rfl (g26) rfl (o_fa 1 TI41 rfl TI3 rfl rfl (WL.g rfl (g26) rfl (o_ld TI3 rfl rfl (cell_of hC2 rfl) (WL.g rfl (g26) rfl (o_eq rfl rfl (WL.c rfl (o_pickO rfl rfl (WL.c rfl (o_mvh vB (WL.sp 18 rfl (fun g31 => ?_) (fun g31 => ?_)))))))))))
   ·skip
    refine WL.g rfl (g31) rfl (o_fa 5 TI41 rfl TI3 rfl rfl (WL.g rfl (g31) rfl (o_ld TI3 rfl rfl (cell_of hC2 rfl) (WL.g rfl (g31) rfl (o_eq rfl rfl (WL.c rfl (o_pickA rfl rfl (WL.c rfl (o_ash vB (WL.nil ?_))))))))))
    exact ⟨rfl, rfl, congrArg Value.bool (by rw [Bool.eq_iff_iff]; simp_all [okB] <;> omega), rfl⟩
   skip
   refine WL.s rfl (g31) rfl (WL.s rfl (g31) rfl (WL.s rfl (g31) rfl (WL.c rfl (o_pickF rfl (g31) (WL.c rfl (o_ash vB (WL.nil ?_)))))))
   exact ⟨rfl, rfl, congrArg Value.bool (by rw [Bool.eq_iff_iff]; simp_all [okB] <;> omega), rfl⟩
  try simp only [cs8] at c11
  refine W.seq (W.seq (W.region (WL.c rfl (o_eq rfl rfl (WL.c rfl (o_ash vB (WL.nil (W.cond rfl (fun c36 => ?_) (fun c36 => ?_)))))))))
  ·try simp only [cs8] at c36
   refine W.skip (W.cond rfl (fun c36 => ?_) (fun c36 => ?_))
   ·try simp only [cs8] at c36
    refine W.region (WL.c rfl (o_fa 1 TI41 rfl TI3 rfl rfl (WL.c rfl (o_ld TI3 rfl rfl (cell_of hC2 rfl) (WL.c rfl (o_eq rfl rfl (WL.c rfl (o_mvh vB (WL.sp 3 rfl (fun g43 => ?_) (fun g43 => ?_))))))))))
    ·skip
     refine WL.g rfl (g43) rfl (o_fa 5 TI41 rfl TI3 rfl rfl (WL.g rfl (g43) rfl (o_ld TI3 rfl rfl (cell_of hC2 rfl) (WL.g rfl (g43) rfl (o_eq rfl rfl (WL.c rfl (o_pickA rfl rfl (WL.c rfl (o_ash vB (WL.nil ?_))))))))))
     exact ⟨rfl, rfl, congrArg Value.bool (by rw [Bool.eq_iff_iff]; simp_all [okB] <;> omega), rfl⟩
    skip
    refine WL.s rfl (g43) rfl (WL.s rfl (g43) rfl (WL.s rfl (g43) rfl (WL.c rfl (o_pickF rfl (g43) (WL.c rfl (o_ash vB (WL.nil ?_)))))))
    exact ⟨rfl, rfl, congrArg Value.bool (by rw [Bool.eq_iff_iff]; simp_all [okB] <;> omega), rfl⟩
   try simp only [cs8] at c36
   refine W.seq (W.seq (W.region (WL.c rfl (o_eq rfl rfl (WL.c rfl (o_ash vB (WL.nil (W.cond rfl (fun c48 => ?_) (fun c48 => ?_)))))))))
   ·try simp only [cs8] at c48
    refine W.skip (W.cond rfl (fun c48 => ?_) (fun c48 => ?_))
    ·try simp only [cs8] at c48
     refine W.region (WL.c rfl (o_fa 1 TI41 rfl TI3 rfl rfl (WL.c rfl (o_ld TI3 rfl rfl (cell_of hC2 rfl) (WL.c rfl (o_ge rfl rfl (WL.c rfl (o_mvh vB (WL.sp 3 rfl (fun g54 => ?_) (fun g54 => ?_))))))))))
     ·skip
      refine WL.g rfl (g54) rfl (o_fa 1 TI41 rfl TI3 rfl rfl (WL.g rfl (g54) rfl (o_ld TI3 rfl rfl (cell_of hC2 rfl) (WL.g rfl (g54) rfl (o_le rfl rfl (WL.c rfl (o_pickA rfl rfl (WL.c rfl (o_mvh vB (WL.sp 8 rfl (fun g59 => ?_) (fun g59 => ?_)))))))))))
      ·skip
       refine WL.g rfl (g59) rfl (o_fa 5 TI41 rfl TI3 rfl rfl (WL.g rfl (g59) rfl (o_ld TI3 rfl rfl (cell_of hC2 rfl) (WL.g rfl (g59) rfl (o_eq rfl rfl (WL.c rfl (o_pickA rfl rfl (WL.c rfl (o_ash vB (WL.nil ?_))))))))))
       exact ⟨rfl, rfl, congrArg Value.bool (by rw [Bool.eq_iff_iff]; simp_all [okB] <;> omega), rfl⟩
      skip
      refine WL.s rfl (g59) rfl (WL.s rfl (g59) rfl (WL.s rfl (g59) rfl (WL.c rfl (o_pickF rfl (g59) (WL.c rfl (o_ash vB (WL.nil ?_)))))))
      exact ⟨rfl, rfl, congrArg Value.bool (by rw [Bool.eq_iff_iff]; simp_all [okB] <;> omega), rfl⟩
     skip
     refine WL.s rfl (g54) rfl (WL.s rfl (g54) rfl (WL.s rfl (g54) rfl (WL.c rfl (o_pickF rfl (g54) (WL.c rfl (o_mvh vB (WL.s rfl (rfl) rfl (WL.s rfl (rfl) rfl (WL.s rfl (rfl) rfl (WL.c rfl (o_pickF rfl (rfl) (WL.c rfl (o_ash vB (WL.nil ?_))))))))))))))
     exact ⟨rfl, rfl, congrArg Value.bool (by rw [Bool.eq_iff_iff]; simp_all [okB] <;> omega), rfl⟩
    try simp only [cs8] at c48
    refine W.seq (W.region (WL.c rfl (o_eq rfl rfl (WL.c rfl (o_ash vB (WL.nil (W.cond rfl (fun c64 => ?_) (fun c64 => ?_))))))))
    ·try simp only [cs8] at c64
     refine W.region (WL.c rfl (o_fa 1 TI41 rfl TI3 rfl rfl (WL.c rfl (o_ld TI3 rfl rfl (cell_of hC2 rfl) (WL.c rfl (o_eq rfl rfl (WL.c rfl (o_mvh vB (WL.sp 3 rfl (fun g69 => ?_) (fun g69 => ?_))))))))))
     ·skip
      refine WL.g rfl (g69) rfl (o_fa 5 TI41 rfl TI3 rfl rfl (WL.g rfl (g69) rfl (o_ld TI3 rfl rfl (cell_of hC2 rfl) (WL.g rfl (g69) rfl (o_eq rfl rfl (WL.c rfl (o_pickA rfl rfl (WL.c rfl (o_ash vB (WL.nil ?_))))))))))
      exact ⟨rfl, rfl, congrArg Value.bool (by rw [Bool.eq_iff_iff]; simp_all [okB] <;> omega), rfl⟩
     skip
     refine WL.s rfl (g69) rfl (WL.s rfl (g69) rfl (WL.s rfl (g69) rfl (WL.c rfl (o_pickF rfl (g69) (WL.c rfl (o_ash vB (WL.nil ?_)))))))
     exact ⟨rfl, rfl, congrArg Value.bool (by rw [Bool.eq_iff_iff]; simp_all [okB] <;> omega), rfl⟩
    try simp only [cs8] at c64
    refine W.seq (W.seq (W.region (WL.c rfl (o_eq rfl rfl (WL.c rfl (o_ash vB (WL.nil (W.cond rfl (fun c74 => ?_) (fun c74 => ?_)))))))))
    ·try simp only [cs8] at c74
     refine W.skip (W.cond rfl (fun c74 => ?_) (fun c74 => ?_))
     ·try simp only [cs8] at c74
      refine W.region (WL.c rfl (o_fa 1 TI41 rfl TI3 rfl rfl (WL.c rfl (o_ld TI3 rfl rfl (cell_of hC2 rfl) (WL.c rfl (o_eq rfl rfl (WL.c rfl (o_mvh vB (WL.sp 3 rfl (fun g80 => ?_) (fun g80 => ?_))))))))))
      ·skip
       refine WL.g rfl (g80) rfl (o_fa 5 TI41 rfl TI3 rfl rfl (WL.g rfl (g80) rfl (o_ld TI3 rfl rfl (cell_of hC2 rfl) (WL.g rfl (g80) rfl (o_ge rfl rfl (WL.c rfl (o_pickA rfl rfl (WL.c rfl (o_ash vB (WL.nil ?_))))))))))
       exact ⟨rfl, rfl, congrArg Value.bool (by rw [Bool.eq_iff_iff]; simp_all [okB] <;> omega), rfl⟩
      skip
      refine WL.s rfl (g80) rfl (WL.s rfl (g80) rfl (WL.s rfl (g80) rfl (WL.c rfl (o_pickF rfl (g80) (WL.c rfl (o_ash vB (WL.nil ?_)))))))
      exact ⟨rfl, rfl, congrArg Value.bool (by rw [Bool.eq_iff_iff]; simp_all [okB] <;> omega), rfl⟩
     try simp only [cs8] at c74
     refine W.seq (W.region (WL.c rfl (o_ash vB (WL.nil (W.ret (ret1v rfl vB ?_))))))
     have h9 : okB x = false := by
      unfold okB
      repeat' split
      all_goals first | rfl | omega
     exact ⟨congrArg Value.bool (by rw [rightB, h9]; rfl), hx2⟩
    try simp only [cs8] at c74
    refine W.region (WL.c rfl (o_eq rfl rfl (WL.c rfl (o_ash vB (WL.nil (W.cond rfl (fun c74 => ?_) (fun c74 => ?_)))))))
    ·try simp only [cs8] at c74
     refine W.region (WL.c rfl (o_fa 1 TI41 rfl TI3 rfl rfl (WL.c rfl (o_ld TI3 rfl rfl (cell_of hC2 rfl) (WL.c rfl (o_eq rfl rfl (WL.c rfl (o_mvh vB (WL.sp 3 rfl (fun g80 => ?_) (fun g80 => ?_))))))))))
     ·skip
      refine WL.g rfl (g80) rfl (o_fa 5 TI41 rfl TI3 rfl rfl (WL.g rfl (g80) rfl (o_ld TI3 rfl rfl (cell_of hC2 rfl) (WL.g rfl (g80) rfl (o_ge rfl rfl (WL.c rfl (o_pickA rfl rfl (WL.c rfl (o_ash vB (WL.nil ?_))))))))))
      exact ⟨rfl, rfl, congrArg Value.bool (by rw [Bool.eq_iff_iff]; simp_all [okB] <;> omega), rfl⟩
     skip
     refine WL.s rfl (g80) rfl (WL.s rfl (g80) rfl (WL.s rfl (g80) rfl (WL.c rfl (o_pickF rfl (g80) (WL.c rfl (o_ash vB (WL.nil ?_)))))))
     exact ⟨rfl, rfl, congrArg Value.bool (by rw [Bool.eq_iff_iff]; simp_all [okB] <;> omega), rfl⟩
    try simp only [cs8] at c74
    refine W.seq (W.region (WL.c rfl (o_ash vB (WL.nil (W.ret (ret1v rfl vB ?_))))))
    have h9 : okB x = false := by
     unfold okB
     repeat' split
     all_goals first | rfl | omega
    exact ⟨congrArg Value.bool (by rw [rightB, h9]; rfl), hx2⟩
   try simp only [cs8] at c48
   refine W.region (WL.c rfl (o_eq rfl rfl (WL.c rfl (o_ash vB (WL.nil (W.cond rfl (fun c48 => ?_) (fun c48 => ?_)))))))
   ·try simp only [cs8] at c48
    refine W.region (WL.c rfl (o_fa 1 TI41 rfl TI3 rfl rfl (WL.c rfl (o_ld TI3 rfl rfl (cell_of hC2 rfl) (WL.c rfl (o_ge rfl rfl (WL.c rfl (o_mvh vB (WL.sp 3 rfl (fun g54 => ?_) (fun g54 => ?_))))))))))
    ·skip
     refine WL.g rfl (g54) rfl (o_fa 1 TI41 rfl TI3 rfl rfl (WL.g rfl (g54) rfl (o_ld TI3 rfl rfl (cell_of hC2 rfl) (WL.g rfl (g54) rfl (o_le rfl rfl (WL.c rfl (o_pickA rfl rfl (WL.c rfl (o_mvh vB (WL.sp 8 rfl (fun g59 => ?_) (fun g59 => ?_)))))))))))
     ·skip
      refine WL.g rfl (g59) rfl (o_fa 5 TI41 rfl TI3 rfl rfl (WL.g rfl (g59) rfl (o_ld TI3 rfl rfl (cell_of hC2 rfl) (WL.g rfl (g59) rfl (o_eq rfl rfl (WL.c rfl (o_pickA rfl rfl (WL.c rfl (o_ash vB (WL.nil ?_))))))))))
      exact ⟨rfl, rfl, congrArg Value.bool (by rw [Bool.eq_iff_iff]; simp_all [okB] <;> omega), rfl⟩
     skip
     refine WL.s rfl (g59) rfl (WL.s rfl (g59) rfl (WL.s rfl (g59) rfl (WL.c rfl (o_pickF rfl (g59) (WL.c rfl (o_ash vB (WL.nil ?_)))))))
     exact ⟨rfl, rfl, congrArg Value.bool (by rw [Bool.eq_iff_iff]; simp_all [okB] <;> omega), rfl⟩
    skip
    refine WL.s rfl (g54) rfl (WL.s rfl (g54) rfl (WL.s rfl (g54) rfl (WL.c rfl (o_pickF rfl (g54) (WL.c rfl (o_mvh vB (WL.s rfl (rfl) rfl (WL.s rfl (rfl) rfl (WL.s rfl (rfl) rfl (WL.c rfl (o_pickF rfl (rfl) (WL.c rfl (o_ash vB (WL.nil ?_))))))))))))))
    exact ⟨rfl, rfl, congrArg Value.bool (by rw [Bool.eq_iff_iff]; simp_all [okB] <;> omega), rfl⟩
   try simp only [cs8] at c48
   refine W.seq (W.region (WL.c rfl (o_eq rfl rfl (WL.c rfl (o_ash vB (WL.nil (W.cond rfl (fun c64 => ?_) (fun c64 => ?_))))))))
   ·try simp only [cs8] at c64
    refine W.region (WL.c rfl (o_fa 1 TI41 rfl TI3 rfl rfl (WL.c rfl (o_ld TI3 rfl rfl (cell_of hC2 rfl) (WL.c rfl (o_eq rfl rfl (WL.c rfl (o_mvh vB (WL.sp 3 rfl (fun g69 => ?_) (fun g69 => ?_))))))))))
    ·skip
     refine WL.g rfl (g69) rfl (o_fa 5 TI41 rfl TI3 rfl rfl (WL.g rfl (g69) rfl (o_ld TI3 rfl rfl (cell_of hC2 rfl) (WL.g rfl (g69) rfl (o_eq rfl rfl (WL.c rfl (o_pickA rfl rfl (WL.c rfl (o_ash vB (WL.nil ?_))))))))))
     exact ⟨rfl, rfl, congrArg Value.bool (by rw [Bool.eq_iff_iff]; simp_all [okB] <;> omega), rfl⟩
    skip
    refine WL.s rfl (g69) rfl (WL.s rfl (g69) rfl (WL.s rfl (g69) rfl (WL.c rfl (o_pickF rfl (g69) (WL.c rfl (o_ash vB (WL.nil ?_)))))))
    exact ⟨rfl, rfl, congrArg Value.bool (by rw [Bool.eq_iff_iff]; simp_all [okB] <;> omega), rfl⟩
   try simp only [cs8] at c64
   refine W.seq (W.seq (W.region (WL.c rfl (o_eq rfl rfl (WL.c rfl (o_ash vB (WL.nil (W.cond rfl (fun c74 => ?_) (fun c74 => ?_)))))))))
   ·try simp only [cs8] at c74
    refine W.skip (W.cond rfl (fun c74 => ?_) (fun c74 => ?_))
    ·try simp only [cs8] at c74
     refine W.region (WL.c rfl (o_fa 1 TI41 rfl TI3 rfl rfl (WL.c rfl (o_ld TI3 rfl rfl (cell_of hC2 rfl) (WL.c rfl (o_eq rfl rfl (WL.c rfl (o_mvh vB (WL.sp 3 rfl (fun g80 => ?_) (fun g80 => ?_))))))))))
     ·skip
      refine WL.g rfl (g80) rfl (o_fa 5 TI41 rfl TI3 rfl rfl (WL.g rfl (g80) rfl (o_ld TI3 rfl rfl (cell_of hC2 rfl) (WL.g rfl (g80) rfl (o_ge rfl rfl (WL.c rfl (o_pickA rfl rfl (WL.c rfl (o_ash vB (WL.nil ?_))))))))))
      exact ⟨rfl, rfl, congrArg Value.bool (by rw [Bool.eq_iff_iff]; simp_all [okB] <;> omega), rfl⟩
     skip
     refine WL.s rfl (g80) rfl (WL.s rfl (g80) rfl (WL.s rfl (g80) rfl (WL.c rfl (o_pickF rfl (g80) (WL.c rfl (o_ash vB (WL.nil ?_)))))))
     exact ⟨rfl, rfl, congrArg Value.bool (by rw [Bool.eq_iff_iff]; simp_all [okB] <;> omega), rfl⟩
    try simp only [cs8] at c74
    refine W.seq (W.region (WL.c rfl (o_ash vB (WL.nil (W.ret (ret1v rfl vB ?_))))))
    have h9 : okB x = false := by
     unfold okB
     repeat' split
     all_goals first | rfl | omega
    exact ⟨congrArg Value.bool (by rw [rightB, h9]; rfl), hx2⟩
   try simp only [cs8] at c74
   refine W.region (WL.c rfl (o_eq rfl rfl (WL.c rfl (o_ash vB (WL.nil (W.cond rfl (fun c74 => ?_) (fun c74 => ?_)))))))
   ·try simp only [cs8] at c74
    refine W.region (WL.c rfl (o_fa 1 TI41 rfl TI3 rfl rfl (WL.c rfl (o_ld TI3 rfl rfl (cell_of hC2 rfl) (WL.c rfl (o_eq rfl rfl (WL.c rfl (o_mvh vB (WL.sp 3 rfl (fun g80 => ?_) (fun g80 => ?_))))))))))
    ·skip
     refine WL.g rfl (g80) rfl (o_fa 5 TI41 rfl TI3 rfl rfl (WL.g rfl (g80) rfl (o_ld TI3 rfl rfl (cell_of hC2 rfl) (WL.g rfl (g80) rfl (o_ge rfl rfl (WL.c rfl (o_pickA rfl rfl (WL.c rfl (o_ash vB (WL.nil ?_))))))))))
     exact ⟨rfl, rfl, congrArg Value.bool (by rw [Bool.eq_iff_iff]; simp_all [okB] <;> omega), rfl⟩
    skip
    refine WL.s rfl (g80) rfl (WL.s rfl (g80) rfl (WL.s rfl (g80) rfl (WL.c rfl (o_pickF rfl (g80) (WL.c rfl (o_ash vB (WL.nil ?_)))))))
    exact ⟨rfl, rfl, congrArg Value.bool (by rw [Bool.eq_iff_iff]; simp_all [okB] <;> omega), rfl⟩
   try simp only [cs8] at c74
   refine W.seq (W.region (WL.c rfl (o_ash vB (WL.nil (W.ret (ret1v rfl vB ?_))))))
   have h9 : okB x = false := by
    unfold okB
    repeat' split
    all_goals first | rfl | omega
   exact ⟨congrArg Value.bool (by rw [rightB, h9]; rfl), hx2⟩
  try simp only [cs8] at c36
  refine W.seq (W.region (WL.c rfl (o_eq rfl rfl (WL.c rfl (o_ash vB (WL.nil (W.cond rfl (fun c36 => ?_) (fun c36 => ?_))))))))
  ·try simp only [cs8] at c36
   refine W.skip (W.cond rfl (fun c36 => ?_) (fun c36 => ?_))
   ·try simp only [cs8] at c36
    refine W.region (WL.c rfl (o_fa 1 TI41 rfl TI3 rfl rfl (WL.c rfl (o_ld TI3 rfl rfl (cell_of hC2 rfl) (WL.c rfl (o_eq rfl rfl (WL.c rfl (o_mvh vB (WL.sp 3 rfl (fun g43 => ?_) (fun g43 => ?_))))))))))
    ·skip
     refine WL.g rfl (g43) rfl (o_fa 5 TI41 rfl TI3 rfl rfl (WL.g rfl (g43) rfl (o_ld TI3 rfl rfl (cell_of hC2 rfl) (WL.g rfl (g43) rfl (o_eq rfl rfl (WL.c rfl (o_pickA rfl rfl (WL.c rfl (o_ash vB (WL.nil ?_))))))))))
     exact ⟨rfl, rfl, congrArg Value.bool (by rw [Bool.eq_iff_iff]; simp_all [okB] <;> omega), rfl⟩
    skip
    refine WL.s rfl (g43) rfl (WL.s rfl (g43) rfl (WL.s rfl (g43) rfl (WL.c rfl (o_pickF rfl (g43) (WL.c rfl (o_ash vB (WL.nil ?_)))))))
    exact ⟨rfl, rfl, congrArg Value.bool (by rw [Bool.eq_iff_iff]; simp_all [okB] <;> omega), rfl⟩
   try simp only [cs8] at c36
   refine W.seq (W.seq (W.region (WL.c rfl (o_eq rfl rfl (WL.c rfl (o_ash vB (WL.nil (W.cond rfl (fun c48 => ?_) (fun c48 => ?_)))))))))
   ·try simp only [cs8] at c48
    refine W.skip (W.cond rfl (fun c48 => ?_) (fun c48 => ?_))
    ·try simp only [cs8] at c48
     refine W.region (WL.c rfl (o_fa 1 TI41 rfl TI3 rfl rfl (WL.c rfl (o_ld TI3 rfl rfl (cell_of hC2 rfl) (WL.c rfl (o_ge rfl rfl (WL.c rfl (o_mvh vB (WL.sp 3 rfl (fun g54 => ?_) (fun g54 => ?_))))))))))
     ·skip
      refine WL.g rfl (g54) rfl (o_fa 1 TI41 rfl TI3 rfl rfl (WL.g rfl (g54) rfl (o_ld TI3 rfl rfl (cell_of hC2 rfl) (WL.g rfl (g54) rfl (o_le rfl rfl (WL.c rfl (o_pickA rfl rfl (WL.c rfl (o_mvh vB (WL.sp 8 rfl (fun g59 => ?_) (fun g59 => ?_)))))))))))
      ·skip
       refine WL.g rfl (g59) rfl (o_fa 5 TI41 rfl TI3 rfl rfl (WL.g rfl (g59) rfl (o_ld TI3 rfl rfl (cell_of hC2 rfl) (WL.g rfl (g59) rfl (o_eq rfl rfl (WL.c rfl (o_pickA rfl rfl (WL.c rfl (o_ash vB (WL.nil ?_))))))))))
       exact ⟨rfl, rfl, congrArg Value.bool (by rw [Bool.eq_iff_iff]; simp_all [okB] <;> omega), rfl⟩
      skip
      refine WL.s rfl (g59) rfl (WL.s rfl (g59) rfl (WL.s rfl (g59) rfl (WL.c rfl (o_pickF rfl (g59) (WL.c rfl (o_ash vB (WL.nil ?_)))))))
      exact ⟨rfl, rfl, congrArg Value.bool (by rw [Bool.eq_iff_iff]; simp_all [okB] <;> omega), rfl⟩
     skip
     refine WL.s rfl (g54) rfl (WL.s rfl (g54) rfl (WL.s rfl (g54) rfl (WL.c rfl (o_pickF rfl (g54) (WL.c rfl (o_mvh vB (WL.s rfl (rfl) rfl (WL.s rfl (rfl) rfl (WL.s rfl (rfl) rfl (WL.c rfl (o_pickF rfl (rfl) (WL.c rfl (o_ash vB (WL.nil ?_))))))))))))))
     exact ⟨rfl, rfl, congrArg Value.bool (by rw [Bool.eq_iff_iff]; simp_all [okB] <;> omega), rfl⟩
    try simp only [cs8] at c48
    refine W.seq (W.region (WL.c rfl (o_eq rfl rfl (WL.c rfl (o_ash vB (WL.nil (W.cond rfl (fun c64 => ?_) (fun c64 => ?_))))))))
    ·try simp only [cs8] at c64
     refine W.region (WL.c rfl (o_fa 1 TI41 rfl TI3 rfl rfl (WL.c rfl (o_ld TI3 rfl rfl (cell_of hC2 rfl) (WL.c rfl (o_eq rfl rfl (WL.c rfl (o_mvh vB (WL.sp 3 rfl (fun g69 => ?_) (fun g69 => ?_))))))))))
     ·skip
      refine WL.g rfl (g69) rfl (o_fa 5 TI41 rfl TI3 rfl rfl (WL.g rfl (g69) rfl (o_ld TI3 rfl rfl (cell_of hC2 rfl) (WL.g rfl (g69) rfl (o_eq rfl rfl (WL.c rfl (o_pickA rfl rfl (WL.c rfl (o_ash vB (WL.nil ?_))))))))))
      exact ⟨rfl, rfl, congrArg Value.bool (by rw [Bool.eq_iff_iff]; simp_all [okB] <;> omega), rfl⟩
     skip
     refine WL.s rfl (g69) rfl (WL.s rfl (g69) rfl (WL.s rfl (g69) rfl (WL.c rfl (o_pickF rfl (g69) (WL.c rfl (o_ash vB (WL.nil ?_)))))))
     exact ⟨rfl, rfl, congrArg Value.bool (by rw [Bool.eq_iff_iff]; simp_all [okB] <;> omega), rfl⟩
    try simp only [cs8] at c64
    refine W.seq (W.seq (W.region (WL.c rfl (o_eq rfl rfl (WL.c rfl (o_ash vB (WL.nil (W.cond rfl (fun c74 => ?_) (fun c74 => ?_)))))))))
    ·try simp only [cs8] at c74
     refine W.skip (W.cond rfl (fun c74 => ?_) (fun c74 => ?_))
     ·try simp only [cs8] at c74
      refine W.region (WL.c rfl (o_fa 1 TI41 rfl TI3 rfl rfl (WL.c rfl (o_ld TI3 rfl rfl (cell_of hC2 rfl) (WL.c rfl (o_eq rfl rfl (WL.c rfl (o_mvh vB (WL.sp 3 rfl (fun g80 => ?_) (fun g80 => ?_))))))))))
      ·skip
       refine WL.g rfl (g80) rfl (o_fa 5 TI41 rfl TI3 rfl rfl (WL.g rfl (g80) rfl (o_ld TI3 rfl rfl (cell_of hC2 rfl) (WL.g rfl (g80) rfl (o_ge rfl rfl (WL.c rfl (o_pickA rfl rfl (WL.c rfl (o_ash vB (WL.nil ?_))))))))))
       exact ⟨rfl, rfl, congrArg Value.bool (by rw [Bool.eq_iff_iff]; simp_all [okB] <;> omega), rfl⟩
      skip
      refine WL.s rfl (g80) rfl (WL.s rfl (g80) rfl (WL.s rfl (g80) rfl (WL.c rfl (o_pickF rfl (g80) (WL.c rfl (o_ash vB (WL.nil ?_)))))))
      exact ⟨rfl, rfl, congrArg Value.bool (by rw [Bool.eq_iff_iff]; simp_all [okB] <;> omega), rfl⟩
     try simp only [cs8] at c74
     refine W.seq (W.region (WL.c rfl (o_ash vB (WL.nil (W.ret (ret1v rfl vB ?_))))))
     have h9 : okB x = false := by
      unfold okB
      repeat' split
      all_goals first | rfl | omega
     exact ⟨congrArg Value.bool (by rw [rightB, h9]; rfl), hx2⟩
    try simp only [cs8] at c74
    refine W.region (WL.c rfl (o_eq rfl rfl (WL.c rfl (o_ash vB (WL.nil (W.cond rfl (fun c74 => ?_) (fun c74 => ?_)))))))
    ·try simp only [cs8] at c74
     refine W.region (WL.c rfl (o_fa 1 TI41 rfl TI3 rfl rfl (WL.c rfl (o_ld TI3 rfl rfl (cell_of hC2 rfl) (WL.c rfl (o_eq rfl rfl (WL.c rfl (o_mvh vB (WL.sp 3 rfl (fun g80 => ?_) (fun g80 => ?_))))))))))
     ·skip
      refine WL.g rfl (g80) rfl (o_fa 5 TI41 rfl TI3 rfl rfl (WL.g rfl (g80) rfl (o_ld TI3 rfl rfl (cell_of hC2 rfl) (WL.g rfl (g80) rfl (o_ge rfl rfl (WL.c rfl (o_pickA rfl rfl (WL.c rfl (o_ash vB (WL.nil ?_))))))))))
      exact ⟨rfl, rfl, congrArg Value.bool (by rw [Bool.eq_iff_iff]; simp_all [okB] <;> omega), rfl⟩
     skip
     refine WL.s rfl (g80) rfl (WL.s rfl (g80) rfl (WL.s rfl (g80) rfl (WL.c rfl (o_pickF rfl (g80) (WL.c rfl (o_ash vB (WL.nil ?_)))))))
     exact ⟨rfl, rfl, congrArg Value.bool (by rw [Bool.eq_iff_iff]; simp_all [okB] <;> omega), rfl⟩
    try simp only [cs8] at c74
    refine W.seq (W.region (WL.c rfl (o_ash vB (WL.nil (W.ret (ret1v rfl vB ?_))))))
    have h9 : okB x = false := by
     unfold okB
     repeat' split
     all_goals first | rfl | omega
    exact ⟨congrArg Value.bool (by rw [rightB, h9]; rfl), hx2⟩
   try simp only [cs8] at c48
   refine W.region (WL.c rfl (o_eq rfl rfl (WL.c rfl (o_ash vB (WL.nil (W.cond rfl (fun c48 => ?_) (fun c48 => ?_)))))))
   ·try simp only [cs8] at c48
    refine W.region (WL.c rfl (o_fa 1 TI41 rfl TI3 rfl rfl (WL.c rfl (o_ld TI3 rfl rfl (cell_of hC2 rfl) (WL.c rfl (o_ge rfl rfl (WL.c rfl (o_mvh vB (WL.sp 3 rfl (fun g54 => ?_) (fun g54 => ?_))))))))))
    ·skip
     refine WL.g rfl (g54) rfl (o_fa 1 TI41 rfl TI3 rfl rfl (WL.g rfl (g54) rfl (o_ld TI3 rfl rfl (cell_of hC2 rfl) (WL.g rfl (g54) rfl (o_le rfl rfl (WL.c rfl (o_pickA rfl rfl (WL.c rfl (o_mvh vB (WL.sp 8 rfl (fun g59 => ?_) (fun g59 => ?_)))))))))))
     ·skip
      refine WL.g rfl (g59) rfl (o_fa 5 TI41 rfl TI3 rfl rfl (WL.g rfl (g59) rfl (o_ld TI3 rfl rfl (cell_of hC2 rfl) (WL.g rfl (g59) rfl (o_eq rfl rfl (WL.c rfl (o_pickA rfl rfl (WL.c rfl (o_ash vB (WL.nil ?_))))))))))
      exact ⟨rfl, rfl, congrArg Value.bool (by rw [Bool.eq_iff_iff]; simp_all [okB] <;> omega), rfl⟩
     skip
     refine WL.s rfl (g59) rfl (WL.s rfl (g59) rfl (WL.s rfl (g59) rfl (WL.c rfl (o_pickF rfl (g59) (WL.c rfl (o_ash vB (WL.nil ?_)))))))
     exact ⟨rfl, rfl, congrArg Value.bool (by rw [Bool.eq_iff_iff]; simp_all [okB] <;> omega), rfl⟩
    skip
    refine WL.s rfl (g54) rfl (WL.s rfl (g54) rfl (WL.s rfl (g54) rfl (WL.c rfl (o_pickF rfl (g54) (WL.c rfl (o_mvh vB (WL.s rfl (rfl) rfl (WL.s rfl (rfl) rfl (WL.s rfl (rfl) rfl (WL.c rfl (o_pickF rfl (rfl) (WL.c rfl (o_ash vB (WL.nil ?_))))))))))))))
    exact ⟨rfl, rfl, congrArg Value.bool (by rw [Bool.eq_iff_iff]; simp_all [okB] <;> omega), rfl⟩
   try simp only [cs8] at c48
   refine W.seq (W.region (WL.c rfl (o_eq rfl rfl (WL.c rfl (o_ash vB (WL.nil (W.cond rfl (fun c64 => ?_) (fun c64 => ?_))))))))
   ·try simp only [cs8] at c64
    refine W.region (WL.c rfl (o_fa 1 TI41 rfl TI3 rfl rfl (WL.c rfl (o_ld TI3 rfl rfl (cell_of hC2 rfl) (WL.c rfl (o_eq rfl rfl (WL.c rfl (o_mvh vB (WL.sp 3 rfl (fun g69 => ?_) (fun g69 => ?_))))))))))
    ·skip
     refine WL.g rfl (g69) rfl (o_fa 5 TI41 rfl TI3 rfl rfl (WL.g rfl (g69) rfl (o_ld TI3 rfl rfl (cell_of hC2 rfl) (WL.g rfl (g69) rfl (o_eq rfl rfl (WL.c rfl (o_pickA rfl rfl (WL.c rfl (o_ash vB (WL.nil ?_))))))))))
     exact ⟨rfl, rfl, congrArg Value.bool (by rw [Bool.eq_iff_iff]; simp_all [okB] <;> omega), rfl⟩
    skip
    refine WL.s rfl (g69) rfl (WL.s rfl (g69) rfl (WL.s rfl (g69) rfl (WL.c rfl (o_pickF rfl (g69) (WL.c rfl (o_ash vB (WL.nil ?_)))))))
    exact ⟨rfl, rfl, congrArg Value.bool (by rw [Bool.eq_iff_iff]; simp_all [okB] <;> omega), rfl⟩
   try simp only [cs8] at c64
   refine W.seq (W.seq (W.region (WL.c rfl (o_eq rfl rfl (WL.c rfl (o_ash vB (WL.nil (W.cond rfl (fun c74 => ?_) (fun c74 => ?_)))))))))
   ·try simp only [cs8] at c74
    refine W.skip (W.cond rfl (fun c74 => ?_) (fun c74 => ?_))
    ·try simp only [cs8] at c74
     refine W.region (WL.c rfl (o_fa 1 TI41 rfl TI3 rfl rfl (WL.c rfl (o_ld TI3 rfl rfl (cell_of hC2 rfl) (WL.c rfl (o_eq rfl rfl (WL.c rfl (o_mvh vB (WL.sp 3 rfl (fun g80 => ?_) (fun g80 => ?_))))))))))
     ·skip
      refine WL.g rfl (g80) rfl (o_fa 5 TI41 rfl TI3 rfl rfl (WL.g rfl (g80) rfl (o_ld TI3 rfl rfl (cell_of hC2 rfl) (WL.g rfl (g80) rfl (o_ge rfl rfl (WL.c rfl (o_pickA rfl rfl (WL.c rfl (o_ash vB (WL.nil ?_))))))))))
      exact ⟨rfl, rfl, congrArg Value.bool (by rw [Bool.eq_iff_iff]; simp_all [okB] <;> omega), rfl⟩
     skip
     refine WL.s rfl (g80) rfl (WL.s rfl (g80) rfl (WL.s rfl (g80) rfl (WL.c rfl (o_pickF rfl (g80) (WL.c rfl (o_ash vB (WL.nil ?_)))))))
     exact ⟨rfl, rfl, congrArg Value.bool (by rw [Bool.eq_iff_iff]; simp_all [okB] <;> omega), rfl⟩
    try simp only [cs8] at c74
    refine W.seq (W.region (WL.c rfl (o_ash vB (WL.nil (W.ret (ret1v rfl vB ?_))))))
    have h9 : okB x = false := by
     unfold okB
     repeat' split
     all_goals first | rfl | omega
    exact ⟨congrArg Value.bool (by rw [rightB, h9]; rfl), hx2⟩
   try simp only [cs8] at c74
   refine W.region (WL.c rfl (o_eq rfl rfl (WL.c rfl (o_ash vB (WL.nil (W.cond rfl (fun c74 => ?_) (fun c74 => ?_)))))))
   ·try simp only [cs8] at c74
    refine W.region (WL.c rfl (o_fa 1 TI41 rfl TI3 rfl rfl (WL.c rfl (o_ld TI3 rfl rfl (cell_of hC2 rfl) (WL.c rfl (o_eq rfl rfl (WL.c rfl (o_mvh vB (WL.sp 3 rfl (fun g80 => ?_) (fun g80 => ?_))))))))))
    ·skip
     refine WL.g rfl (g80) rfl (o_fa 5 TI41 rfl TI3 rfl rfl (WL.g rfl (g80) rfl (o_ld TI3 rfl rfl (cell_of hC2 rfl) (WL.g rfl (g80) rfl (o_ge rfl rfl (WL.c rfl (o_pickA rfl rfl (WL.c rfl (o_ash vB (WL.nil ?_))))))))))
     exact ⟨rfl, rfl, congrArg Value.bool (by rw [Bool.eq_iff_iff]; simp_all [okB] <;> omega), rfl⟩
    skip
    refine WL.s rfl (g80) rfl (WL.s rfl (g80) rfl (WL.s rfl (g80) rfl (WL.c rfl (o_pickF rfl (g80) (WL.c rfl (o_ash vB (WL.nil ?_)))))))
    exact ⟨rfl, rfl, congrArg Value.bool (by rw [Bool.eq_iff_iff]; simp_all [okB] <;> omega), rfl⟩
   try simp only [cs8] at c74
   refine W.seq (W.region (WL.c rfl (o_ash vB (WL.nil (W.ret (ret1v rfl vB ?_))))))
   have h9 : okB x = false := by
    unfold okB
    repeat' split
    all_goals first | rfl | omega
   exact ⟨congrArg Value.bool (by rw [rightB, h9]; rfl), hx2⟩
  try simp only [cs8] at c36
  refine W.region (WL.c rfl (o_eq rfl rfl (WL.c rfl (o_ash vB (WL.nil (W.cond rfl (fun c36 => ?_) (fun c36 => ?_)))))))
  ·try simp only [cs8] at c36
   refine W.region (WL.c rfl (o_fa 1 TI41 rfl TI3 rfl rfl (WL.c rfl (o_ld TI3 rfl rfl (cell_of hC2 rfl) (WL.c rfl (o_eq rfl rfl (WL.c rfl (o_mvh vB (WL.sp 3 rfl (fun g43 => ?_) (fun g43 => ?_))))))))))
   ·skip
    refine WL.g rfl (g43) rfl (o_fa 5 TI41 rfl TI3 rfl rfl (WL.g rfl (g43) rfl (o_ld TI3 rfl rfl (cell_of hC2 rfl) (WL.g rfl (g43) rfl (o_eq rfl rfl (WL.c rfl (o_pickA rfl rfl (WL.c rfl (o_ash vB (WL.nil ?_))))))))))
    exact ⟨rfl, rfl, congrArg Value.bool (by rw [Bool.eq_iff_iff]; simp_all [okB] <;> omega), rfl⟩
   skip
   refine WL.s rfl (g43) rfl (WL.s rfl (g43) rfl (WL.s rfl (g43) rfl (WL.c rfl (o_pickF rfl (g43) (WL.c rfl (o_ash vB (WL.nil ?_)))))))
   exact ⟨rfl, rfl, congrArg Value.bool (by rw [Bool.eq_iff_iff]; simp_all [okB] <;> omega), rfl⟩
  try simp only [cs8] at c36
  refine W.seq (W.seq (W.region (WL.c rfl (o_eq rfl rfl (WL.c rfl (o_ash vB (WL.nil (W.cond rfl (fun c48 => ?_) (fun c48 => ?_)))))))))
  ·try simp only [cs8] at c48
   refine W.skip (W.cond rfl (fun c48 => ?_) (fun c48 => ?_))
   ·try simp only [cs8] at c48
    refine W.region (WL.c rfl (o_fa 1 TI41 rfl TI3 rfl rfl (WL.c rfl (o_ld TI3 rfl rfl (cell_of hC2 rfl) (WL.c rfl (o_ge rfl rfl (WL.c rfl (o_mvh vB (WL.sp 3 rfl (fun g54 => ?_) (fun g54 => ?_))))))))))
    ·skip
     refine WL.g rfl (g54) rfl (o_fa 1 TI41 rfl TI3 rfl rfl (WL.g rfl (g54) rfl (o_ld TI3 rfl rfl (cell_of hC2 rfl) (WL.g rfl (g54) rfl (o_le rfl rfl (WL.c rfl (o_pickA rfl rfl (WL.c rfl (o_mvh vB (WL.sp 8 rfl (fun g59 => ?_) (fun g59 => ?_)))))))))))
     ·skip
      refine WL.g rfl (g59) rfl (o_fa 5 TI41 rfl TI3 rfl rfl (WL.g rfl (g59) rfl (o_ld TI3 rfl rfl (cell_of hC2 rfl) (WL.g rfl (g59) rfl (o_eq rfl rfl (WL.c rfl (o_pickA rfl rfl (WL.c rfl (o_ash vB (WL.nil ?_))))))))))
      exact ⟨rfl, rfl, congrArg Value.bool (by rw [Bool.eq_iff_iff]; simp_all [okB] <;> omega), rfl⟩
     skip
     refine WL.s rfl (g59) rfl (WL.s rfl (g59) rfl (WL.s rfl (g59) rfl (WL.c rfl (o_pickF rfl (g59) (WL.c rfl (o_ash vB (WL.nil ?_)))))))
     exact ⟨rfl, rfl, congrArg Value.bool (by rw [Bool.eq_iff_iff]; simp_all [okB] <;> omega), rfl⟩
    skip
    refine WL.s rfl (g54) rfl (WL.s rfl (g54) rfl (WL.s rfl (g54) rfl (WL.c rfl (o_pickF rfl (g54) (WL.c rfl (o_mvh vB (WL.s rfl (rfl) rfl (WL.s rfl (rfl) rfl (WL.s rfl (rfl) rfl (WL.c rfl (o_pickF rfl (rfl) (WL.c rfl (o_ash vB (WL.nil ?_))))))))))))))
    exact ⟨rfl, rfl, congrArg Value.bool (by rw [Bool.eq_iff_iff]; simp_all [okB] <;> omega), rfl⟩
   try simp only [cs8] at c48
   refine W.seq (W.region (WL.c rfl (o_eq rfl rfl (WL.c rfl (o_ash vB (WL.nil (W.cond rfl (fun c64 => ?_) (fun c64 => ?_))))))))
   ·try simp only [cs8] at c64
    refine W.region (WL.c rfl (o_fa 1 TI41 rfl TI3 rfl rfl (WL.c rfl (o_ld TI3 rfl rfl (cell_of hC2 rfl) (WL.c rfl (o_eq rfl rfl (WL.c rfl (o_mvh vB (WL.sp 3 rfl (fun g69 => ?_) (fun g69 => ?_))))))))))
    ·skip
     refine WL.g rfl (g69) rfl (o_fa 5 TI41 rfl TI3 rfl rfl (WL.g rfl (g69) rfl (o_ld TI3 rfl rfl (cell_of hC2 rfl) (WL.g rfl (g69) rfl (o_eq rfl rfl (WL.c rfl (o_pickA rfl rfl (WL.c rfl (o_ash vB (WL.nil ?_))))))))))
     exact ⟨rfl, rfl, congrArg Value.bool (by rw [Bool.eq_iff_iff]; simp_all [okB] <;> omega), rfl⟩
    skip
    refine WL.s rfl (g69) rfl (WL.s rfl (g69) rfl (WL.s rfl (g69) rfl (WL.c rfl (o_pickF rfl (g69) (WL.c rfl (o_ash vB (WL.nil ?_)))))))
    exact ⟨rfl, rfl, congrArg Value.bool (by rw [Bool.eq_iff_iff]; simp_all [okB] <;> omega), rfl⟩
   try simp only [cs8] at c64
   refine W.seq (W.seq (W.region (WL.c rfl (o_eq rfl rfl (WL.c rfl (o_ash vB (WL.nil (W.cond rfl (fun c74 => ?_) (fun c74 => ?_)))))))))
   ·try simp only [cs8] at c74
    refine W.skip (W.cond rfl (fun c74 => ?_) (fun c74 => ?_))
    ·try simp only [cs8] at c74
     refine W.region (WL.c rfl (o_fa 1 TI41 rfl TI3 rfl rfl (WL.c rfl (o_ld TI3 rfl rfl (cell_of hC2 rfl) (WL.c rfl (o_eq rfl rfl (WL.c rfl (o_mvh vB (WL.sp 3 rfl (fun g80 => ?_) (fun g80 => ?_))))))))))
     ·skip
      refine WL.g rfl (g80) rfl (o_fa 5 TI41 rfl TI3 rfl rfl (WL.g rfl (g80) rfl (o_ld TI3 rfl rfl (cell_of hC2 rfl) (WL.g rfl (g80) rfl (o_ge rfl rfl (WL.c rfl (o_pickA rfl rfl (WL.c rfl (o_ash vB (WL.nil ?_))))))))))
      exact ⟨rfl, rfl, congrArg Value.bool (by rw [Bool.eq_iff_iff]; simp_all [okB] <;> omega), rfl⟩
     skip
     refine WL.s rfl (g80) rfl (WL.s rfl (g80) rfl (WL.s rfl (g80) rfl (WL.c rfl (o_pickF rfl (g80) (WL.c rfl (o_ash vB (WL.nil ?_)))))))
     exact ⟨rfl, rfl, congrArg Value.bool (by rw [Bool.eq_iff_iff]; simp_all [okB] <;> omega), rfl⟩
    try simp only [cs8] at c74
    refine W.seq (W.region (WL.c rfl (o_ash vB (WL.nil (W.ret (ret1v rfl vB ?_))))))
    have h9 : okB x = false := by
     unfold okB
     repeat' split
     all_goals first | rfl | omega
    exact ⟨congrArg Value.bool (by rw [rightB, h9]; rfl), hx2⟩
   try simp only [cs8] at c74
   refine W.region (WL.c rfl (o_eq rfl rfl (WL.c rfl (o_ash vB (WL.nil (W.cond rfl (fun c74 => ?_) (fun c74 => ?_)))))))
   ·try simp only [cs8] at c74
    refine W.region (WL.c rfl (o_fa 1 TI41 rfl TI3 rfl rfl (WL.c rfl (o_ld TI3 rfl rfl (cell_of hC2 rfl) (WL.c rfl (o_eq rfl rfl (WL.c rfl (o_mvh vB (WL.sp 3 rfl (fun g80 => ?_) (fun g80 => ?_))))))))))
    ·skip
     refine WL.g rfl (g80) rfl (o_fa 5 TI41 rfl TI3 rfl rfl (WL.g rfl (g80) rfl (o_ld TI3 rfl rfl (cell_of hC2 rfl) (WL.g rfl (g80) rfl (o_ge rfl rfl (WL.c rfl (o_pickA rfl rfl (WL.c rfl (o_ash vB (WL.nil ?_))))))))))
     exact ⟨rfl, rfl, congrArg Value.bool (by rw [Bool.eq_iff_iff]; simp_all [okB] <;> omega), rfl⟩
    skip
    refine WL.s rfl (g80) rfl (WL.s rfl (g80) rfl (WL.s rfl (g80) rfl (WL.c rfl (o_pickF rfl (g80) (WL.c rfl (o_ash vB (WL.nil ?_)))))))
    exact ⟨rfl, rfl, congrArg Value.bool (by rw [Bool.eq_iff_iff]; simp_all [okB] <;> omega), rfl⟩
   try simp only [cs8] at c74
   refine W.seq (W.region (WL.c rfl (o_ash vB (WL.nil (W.ret (ret1v rfl vB ?_))))))
   have h9 : okB x = false := by
    unfold okB
    repeat' split
    all_goals first | rfl | omega
   exact ⟨congrArg Value.bool (by rw [rightB, h9]; rfl), hx2⟩
  try simp only [cs8] at c48
  refine W.region (WL.c rfl (o_eq rfl rfl (WL.c rfl (o_ash vB (WL.nil (W.cond rfl (fun c48 => ?_) (fun c48 => ?_)))))))
  ·try simp only [cs8] at c48
   refine W.region (WL.c rfl (o_fa 1 TI41 rfl TI3 rfl rfl (WL.c rfl (o_ld TI3 rfl rfl (cell_of hC2 rfl) (WL.c rfl (o_ge rfl rfl (WL.c rfl (o_mvh vB (WL.sp 3 rfl (fun g54 => ?_) (fun g54 => ?_))))))))))
   ·skip
    refine WL.g rfl (g54) rfl (o_fa 1 TI41 rfl TI3 rfl rfl (WL.g rfl (g54) rfl (o_ld TI3 rfl rfl (cell_of hC2 rfl) (WL.g rfl (g54) rfl (o_le rfl rfl (WL.c rfl (o_pickA rfl rfl (WL.c rfl (o_mvh vB (WL.sp 8 rfl (fun g59 => ?_) (fun g59 => ?_)))))))))))
    ·skip
     refine WL.g rfl (g59) rfl (o_fa 5 TI41 rfl TI3 rfl rfl (WL.g rfl (g59) rfl (o_ld TI3 rfl rfl (cell_of hC2 rfl) (WL.g rfl (g59) rfl (o_eq rfl rfl (WL.c rfl (o_pickA rfl rfl (WL.c rfl (o_ash vB (WL.nil ?_))))))))))
     exact ⟨rfl, rfl, congrArg Value.bool (by rw [Bool.eq_iff_iff]; simp_all [okB] <;> omega), rfl⟩
    skip
    refine WL.s rfl (g59) rfl (WL.s rfl (g59) rfl (WL.s rfl (g59) rfl (WL.c rfl (o_pickF rfl (g59) (WL.c rfl (o_ash vB (WL.nil ?_)))))))
    exact ⟨rfl, rfl, congrArg Value.bool (by rw [Bool.eq_iff_iff]; simp_all [okB] <;> omega), rfl⟩
   skip
   refine WL.s rfl (g54) rfl (WL.s rfl (g54) rfl (WL.s rfl (g54) rfl (WL.c rfl (o_pickF rfl (g54) (WL.c rfl (o_mvh vB (WL.s rfl (rfl) rfl (WL.s rfl (rfl) rfl (WL.s rfl (rfl) rfl (WL.c rfl (o_pickF rfl (rfl) (WL.c rfl (o_ash vB (WL.nil ?_))))))))))))))
   exact ⟨rfl, rfl, congrArg Value.bool (by rw [Bool.eq_iff_iff]; simp_all [okB] <;> omega), rfl⟩
  try simp only [cs8] at c48
  refine W.seq (W.region (WL.c rfl (o_eq rfl rfl (WL.c rfl (o_ash vB (WL.nil (W.cond rfl (fun c64 => ?_) (fun c64 => ?_))))))))
  ·try simp only [cs8] at c64
   refine W.region (WL.c rfl (o_fa 1 TI41 rfl TI3 rfl rfl (WL.c rfl (o_ld TI3 rfl rfl (cell_of hC2 rfl) (WL.c rfl (o_eq rfl rfl (WL.c rfl (o_mvh vB (WL.sp 3 rfl (fun g69 => ?_) (fun g69 => ?_))))))))))
   ·skip
    refine WL.g rfl (g69) rfl (o_fa 5 TI41 rfl TI3 rfl rfl (WL.g rfl (g69) rfl (o_ld TI3 rfl rfl (cell_of hC2 rfl) (WL.g rfl (g69) rfl (o_eq rfl rfl (WL.c rfl (o_pickA rfl rfl (WL.c rfl (o_ash vB (WL.nil ?_))))))))))
    exact ⟨rfl, rfl, congrArg Value.bool (by rw [Bool.eq_iff_iff]; simp_all [okB] <;> omega), rfl⟩
   skip
   refine WL.s rfl (g69) rfl (WL.s rfl (g69) rfl (WL.s rfl (g69) rfl (WL.c rfl (o_pickF rfl (g69) (WL.c rfl (o_ash vB (WL.nil ?_)))))))
   exact ⟨rfl, rfl, congrArg Value.bool (by rw [Bool.eq_iff_iff]; simp_all [okB] <;> omega), rfl⟩
  try simp only [cs8] at c64
  refine W.seq (W.seq (W.region (WL.c rfl (o_eq rfl rfl (WL.c rfl (o_ash vB (WL.nil (W.cond rfl (fun c74 => ?_) (fun c74 => ?_)))))))))
  ·try simp only [cs8] at c74
   refine W.skip (W.cond rfl (fun c74 => ?_) (fun c74 => ?_))
   ·try simp only [cs8] at c74
    refine W.region (WL.c rfl (o_fa 1 TI41 rfl TI3 rfl rfl (WL.c rfl (o_ld TI3 rfl rfl (cell_of hC2 rfl) (WL.c rfl (o_eq rfl rfl (WL.c rfl (o_mvh vB (WL.sp 3 rfl (fun g80 => ?_) (fun g80 => ?_))))))))))
    ·skip
     refine WL.g rfl (g80) rfl (o_fa 5 TI41 rfl TI3 rfl rfl (WL.g rfl (g80) rfl (o_ld TI3 rfl rfl (cell_of hC2 rfl) (WL.g rfl (g80) rfl (o_ge rfl rfl (WL.c rfl (o_pickA rfl rfl (WL.c rfl (o_ash vB (WL.nil ?_))))))))))
     exact ⟨rfl, rfl, congrArg Value.bool (by rw [Bool.eq_iff_iff]; simp_all [okB] <;> omega), rfl⟩
    skip
    refine WL.s rfl (g80) rfl (WL.s rfl (g80) rfl (WL.s rfl (g80) rfl (WL.c rfl (o_pickF rfl (g80) (WL.c rfl (o_ash vB (WL.nil ?_)))))))
    exact ⟨rfl, rfl, congrArg Value.bool (by rw [Bool.eq_iff_iff]; simp_all [okB] <;> omega), rfl⟩
   try simp only [cs8] at c74
   refine W.seq (W.region (WL.c rfl (o_ash vB (WL.nil (W.ret (ret1v rfl vB ?_))))))
   have h9 : okB x = false := by
    unfold okB
    repeat' split
    all_goals first | rfl | omega
   exact ⟨congrArg Value.bool (by rw [rightB, h9]; rfl), hx2⟩
  try simp only [cs8] at c74
  refine W.region (WL.c rfl (o_eq rfl rfl (WL.c rfl (o_ash vB (WL.nil (W.cond rfl (fun c74 => ?_) (fun c74 => ?_)))))))
  ·try simp only [cs8] at c74
   refine W.region (WL.c rfl (o_fa 1 TI41 rfl TI3 rfl rfl (WL.c rfl (o_ld TI3 rfl rfl (cell_of hC2 rfl) (WL.c rfl (o_eq rfl rfl (WL.c rfl (o_mvh vB (WL.sp 3 rfl (fun g80 => ?_) (fun g80 => ?_))))))))))
   ·skip
    refine WL.g rfl (g80) rfl (o_fa 5 TI41 rfl TI3 rfl rfl (WL.g rfl (g80) rfl (o_ld TI3 rfl rfl (cell_of hC2 rfl) (WL.g rfl (g80) rfl (o_ge rfl rfl (WL.c rfl (o_pickA rfl rfl (WL.c rfl (o_ash vB (WL.nil ?_))))))))))
    exact ⟨rfl, rfl, congrArg Value.bool (by rw [Bool.eq_iff_iff]; simp_all [okB] <;> omega), rfl⟩
   skip
   refine WL.s rfl (g80) rfl (WL.s rfl (g80) rfl (WL.s rfl (g80) rfl (WL.c rfl (o_pickF rfl (g80) (WL.c rfl (o_ash vB (WL.nil ?_)))))))
   exact ⟨rfl, rfl, congrArg Value.bool (by rw [Bool.eq_iff_iff]; simp_all [okB] <;> omega), rfl⟩
  try simp only [cs8] at c74
  refine W.seq (W.region (WL.c rfl (o_ash vB (WL.nil (W.ret (ret1v rfl vB ?_))))))
  have h9 : okB x = false := by
   unfold okB
   repeat' split
   all_goals first | rfl | omega
  exact ⟨congrArg Value.bool (by rw [rightB, h9]; rfl), hx2⟩
 rintro e w ⟨h1, h2, h5, hw⟩
 subst hw
 refine W.seq (W.region (WL.cut (fun e1 w1 => e1 1 = .int .i64 above ∧ e1 2 = .pointer (some ⟨c2, 0, none⟩) ∧ e1 5 = .bool (okB x) ∧ e1 6 = .bool (namB x) ∧ w1 = w) ?_ ?_))
 ·-- region 18
  refine WL.c rfl (o_fa 0 TI41 rfl TI3 rfl h2 (WL.c rfl (o_ld TI3 rfl rfl (cell_of hC2 rfl) (WL.c rfl (o_eq rfl rfl (WL.c rfl (o_mvh vB (WL.sp 3 rfl (fun g88 => ?_) (fun g88 => ?_)))))))))
  ·skip
   refine WL.g rfl (g88) rfl (o_fa 2 TI41 rfl TI9 rfl h2 (WL.g rfl (g88) rfl (o_ld TI9 rfl rfl (cell_of hC2 rfl) (WL.g rfl (g88) rfl (o_call Try.call34 (lc rfl ln) ((name_spec x.name _ hn).mono ?_))))))
   rintro v91 w91 ⟨rfl, rfl⟩
   refine WL.c rfl (o_pickA rfl rfl (WL.c rfl (o_mvh vB (WL.sp 8 rfl (fun g93 => ?_) (fun g93 => ?_)))))
   ·skip
    refine WL.s rfl (g93) rfl (WL.s rfl (g93) rfl (WL.s rfl (g93) rfl (WL.s rfl (g93) rfl (WL.z rfl rfl (WL.z rfl rfl (WL.z rfl rfl (WL.s rfl (g93) rfl (WL.c rfl (o_pickT rfl (g93) (WL.c rfl (o_ash vB ?_)))))))))))
    exact WL.nil (⟨h1, h2, h5, congrArg Value.bool (by rw [Bool.eq_iff_iff]; simp_all [namB] <;> omega), rfl⟩)
   skip
   refine WL.g rfl (g93) rfl (o_fa 0 TI41 rfl TI3 rfl h2 (WL.g rfl (g93) rfl (o_ld TI3 rfl rfl (cell_of hC2 rfl) (WL.g rfl (g93) rfl (o_ne rfl rfl (WL.g rfl (g93) rfl (o_mvh vB (WL.sp 12 rfl (fun g97 => ?_) (fun g97 => ?_)))))))))
   ·skip
    refine WL.g rfl (g97) rfl (o_fa 2 TI41 rfl TI9 rfl h2 (WL.g rfl (g97) rfl (o_ld TI9 rfl rfl (cell_of hC2 rfl) (WL.g rfl (g97) rfl (o_eqT rfl rfl (WL.g rfl (g93) rfl (o_pickA rfl rfl (WL.c rfl (o_pickO rfl rfl (WL.c rfl (o_ash vB ?_)))))))))))
    exact WL.nil (⟨h1, h2, h5, congrArg Value.bool (by rw [Bool.eq_iff_iff]; simp_all [namB] <;> omega), rfl⟩)
   skip
   refine WL.s rfl (g97) rfl (WL.s rfl (g97) rfl (WL.s rfl (g97) rfl (WL.g rfl (g93) rfl (o_pickF rfl (g97) (WL.c rfl (o_pickO rfl rfl (WL.c rfl (o_ash vB ?_))))))))
   exact WL.nil (⟨h1, h2, h5, congrArg Value.bool (by rw [Bool.eq_iff_iff]; simp_all [namB] <;> omega), rfl⟩)
  skip
  refine WL.s rfl (g88) rfl (WL.s rfl (g88) rfl (WL.s rfl (g88) rfl (WL.c rfl (o_pickF rfl (g88) (WL.c rfl (o_mvh vB (WL.g rfl (rfl) rfl (o_fa 0 TI41 rfl TI3 rfl h2 (WL.g rfl (rfl) rfl (o_ld TI3 rfl rfl (cell_of hC2 rfl) (WL.g rfl (rfl) rfl (o_ne rfl rfl (WL.g rfl (rfl) rfl (o_mvh vB (WL.sp 12 rfl (fun g97 => ?_) (fun g97 => ?_))))))))))))))))
  ·skip
   refine WL.g rfl (g97) rfl (o_fa 2 TI41 rfl TI9 rfl h2 (WL.g rfl (g97) rfl (o_ld TI9 rfl rfl (cell_of hC2 rfl) (WL.g rfl (g97) rfl (o_eqT rfl rfl (WL.g rfl (rfl) rfl (o_pickA rfl rfl (WL.c rfl (o_pickO rfl rfl (WL.c rfl (o_ash vB ?_)))))))))))
   exact WL.nil (⟨h1, h2, h5, congrArg Value.bool (by rw [Bool.eq_iff_iff]; simp_all [namB] <;> omega), rfl⟩)
  skip
  refine WL.s rfl (g97) rfl (WL.s rfl (g97) rfl (WL.s rfl (g97) rfl (WL.g rfl (rfl) rfl (o_pickF rfl (g97) (WL.c rfl (o_pickO rfl rfl (WL.c rfl (o_ash vB ?_))))))))
  exact WL.nil (⟨h1, h2, h5, congrArg Value.bool (by rw [Bool.eq_iff_iff]; simp_all [namB] <;> omega), rfl⟩)
 rintro e w ⟨h1, h2, h5, h6, hw⟩
 subst hw
 refine W.seq (W.region (WL.cut (fun e1 w1 => e1 1 = .int .i64 above ∧ e1 2 = .pointer (some ⟨c2, 0, none⟩) ∧ e1 5 = .bool (okB x) ∧ e1 6 = .bool (namB x) ∧ e1 7 = .bool (labB x above) ∧ w1 = w) ?_ ?_))
 ·-- region 19
  refine WL.c rfl (o_mvh h1 (WL.c rfl (o_eq rfl rfl (WL.c rfl (o_mvh vB (WL.sp 2 rfl (fun g105 => ?_) (fun g105 => ?_)))))))
  ·skip
   refine WL.g rfl (g105) rfl (o_fa 3 TI41 rfl TI9 rfl h2 (WL.g rfl (g105) rfl (o_ld TI9 rfl rfl (cell_of hC2 rfl) (WL.g rfl (g105) rfl (o_call Try.call34 (lc rfl ln) ((name_spec x.label _ hl).mono ?_))))))
   rintro v108 w108 ⟨rfl, rfl⟩
   refine WL.c rfl (o_pickA rfl rfl (WL.c rfl (o_mvh vB (WL.sp 7 rfl (fun g110 => ?_) (fun g110 => ?_)))))
   ·skip
    refine WL.s rfl (g110) rfl (WL.s rfl (g110) rfl (WL.s rfl (g110) rfl (WL.z rfl rfl (WL.z rfl rfl (WL.z rfl rfl (WL.s rfl (g110) rfl (WL.c rfl (o_pickT rfl (g110) (WL.c rfl (o_ash vB ?_))))))))))
    exact WL.nil (⟨h1, h2, h5, h6, congrArg Value.bool (by rw [Bool.eq_iff_iff]; simp_all [labB] <;> omega), rfl⟩)
   skip
   refine WL.g rfl (g110) rfl (o_mvh h1 (WL.g rfl (g110) rfl (o_ne rfl rfl (WL.g rfl (g110) rfl (o_mvh vB (WL.sp 10 rfl (fun g113 => ?_) (fun g113 => ?_)))))))
   ·skip
    refine WL.g rfl (g113) rfl (o_fa 3 TI41 rfl TI9 rfl h2 (WL.g rfl (g113) rfl (o_ld TI9 rfl rfl (cell_of hC2 rfl) (WL.g rfl (g113) rfl (o_eqT rfl rfl (WL.g rfl (g110) rfl (o_pickA rfl rfl (WL.c rfl (o_pickO rfl rfl (WL.c rfl (o_ash vB ?_)))))))))))
    exact WL.nil (⟨h1, h2, h5, h6, congrArg Value.bool (by rw [Bool.eq_iff_iff]; simp_all [labB] <;> omega), rfl⟩)
   skip
   refine WL.s rfl (g113) rfl (WL.s rfl (g113) rfl (WL.s rfl (g113) rfl (WL.g rfl (g110) rfl (o_pickF rfl (g113) (WL.c rfl (o_pickO rfl rfl (WL.c rfl (o_ash vB ?_))))))))
   exact WL.nil (⟨h1, h2, h5, h6, congrArg Value.bool (by rw [Bool.eq_iff_iff]; simp_all [labB] <;> omega), rfl⟩)
  skip
  refine WL.s rfl (g105) rfl (WL.s rfl (g105) rfl (WL.s rfl (g105) rfl (WL.c rfl (o_pickF rfl (g105) (WL.c rfl (o_mvh vB (WL.g rfl (rfl) rfl (o_mvh h1 (WL.g rfl (rfl) rfl (o_ne rfl rfl (WL.g rfl (rfl) rfl (o_mvh vB (WL.sp 10 rfl (fun g113 => ?_) (fun g113 => ?_))))))))))))))
  ·skip
   refine WL.g rfl (g113) rfl (o_fa 3 TI41 rfl TI9 rfl h2 (WL.g rfl (g113) rfl (o_ld TI9 rfl rfl (cell_of hC2 rfl) (WL.g rfl (g113) rfl (o_eqT rfl rfl (WL.g rfl (rfl) rfl (o_pickA rfl rfl (WL.c rfl (o_pickO rfl rfl (WL.c rfl (o_ash vB ?_)))))))))))
   exact WL.nil (⟨h1, h2, h5, h6, congrArg Value.bool (by rw [Bool.eq_iff_iff]; simp_all [labB] <;> omega), rfl⟩)
  skip
  refine WL.s rfl (g113) rfl (WL.s rfl (g113) rfl (WL.s rfl (g113) rfl (WL.g rfl (rfl) rfl (o_pickF rfl (g113) (WL.c rfl (o_pickO rfl rfl (WL.c rfl (o_ash vB ?_))))))))
  exact WL.nil (⟨h1, h2, h5, h6, congrArg Value.bool (by rw [Bool.eq_iff_iff]; simp_all [labB] <;> omega), rfl⟩)
 rintro e w ⟨h1, h2, h5, h6, h7, hw⟩
 subst hw
 refine W.seq (W.region (WL.cut (fun e1 w1 => e1 5 = .bool (okB x) ∧ e1 6 = .bool (namB x) ∧ e1 7 = .bool (labB x above) ∧ e1 8 = .bool (tagB x above) ∧ w1 = w) ?_ ?_))
 ·-- region 20
  refine WL.c rfl (o_fa 4 TI41 rfl TI3 rfl h2 (WL.c rfl (o_ld TI3 rfl rfl (cell_of hC2 rfl) (WL.c rfl (o_eq rfl rfl (WL.c rfl (o_mvh vB (WL.sp 3 rfl (fun g122 => ?_) (fun g122 => ?_)))))))))
  ·skip
   refine WL.s rfl (g122) rfl (WL.s rfl (g122) rfl (WL.s rfl (g122) rfl (WL.z rfl rfl (WL.z rfl rfl (WL.z rfl rfl (WL.s rfl (g122) rfl (WL.s rfl (g122) rfl (WL.z rfl rfl (WL.z rfl rfl (WL.z rfl rfl (WL.s rfl (g122) rfl (WL.c rfl (o_pickT rfl (g122) (WL.c rfl (o_ash vB ?_)))))))))))))))
   exact WL.nil (⟨h5, h6, h7, congrArg Value.bool (by rw [Bool.eq_iff_iff]; simp_all [tagB] <;> omega), rfl⟩)
  skip
  refine WL.g rfl (g122) rfl (o_mvh h1 (WL.g rfl (g122) rfl (o_eq rfl rfl (WL.g rfl (g122) rfl (o_mvh vB (WL.sp 6 rfl (fun g125 => ?_) (fun g125 => ?_)))))))
  ·skip
   refine WL.g rfl (g125) rfl (o_fa 4 TI41 rfl TI3 rfl h2 (WL.g rfl (g125) rfl (o_ld TI3 rfl rfl (cell_of hC2 rfl) (WL.g rfl (g125) rfl (o_gt rfl rfl (WL.g rfl (g122) rfl (o_pickA rfl rfl (WL.g rfl (g122) rfl (o_mvh vB (WL.sp 11 rfl (fun g130 => ?_) (fun g130 => ?_)))))))))))
   ·skip
    refine WL.g rfl (g130) rfl (o_fa 4 TI41 rfl TI3 rfl h2 (WL.g rfl (g130) rfl (o_ld TI3 rfl rfl (cell_of hC2 rfl) (WL.g rfl (g130) rfl (o_le rfl rfl (WL.g rfl (g122) rfl (o_pickA rfl rfl (WL.c rfl (o_pickO rfl rfl (WL.c rfl (o_ash vB ?_)))))))))))
    exact WL.nil (⟨h5, h6, h7, congrArg Value.bool (by rw [Bool.eq_iff_iff]; simp_all [tagB] <;> omega), rfl⟩)
   skip
   refine WL.s rfl (g130) rfl (WL.s rfl (g130) rfl (WL.s rfl (g130) rfl (WL.g rfl (g122) rfl (o_pickF rfl (g130) (WL.c rfl (o_pickO rfl rfl (WL.c rfl (o_ash vB ?_))))))))
   exact WL.nil (⟨h5, h6, h7, congrArg Value.bool (by rw [Bool.eq_iff_iff]; simp_all [tagB] <;> omega), rfl⟩)
  skip
  refine WL.s rfl (g125) rfl (WL.s rfl (g125) rfl (WL.s rfl (g125) rfl (WL.g rfl (g122) rfl (o_pickF rfl (g125) (WL.g rfl (g122) rfl (o_mvh vB (WL.s rfl (rfl) rfl (WL.s rfl (rfl) rfl (WL.s rfl (rfl) rfl (WL.g rfl (g122) rfl (o_pickF rfl (rfl) (WL.c rfl (o_pickO rfl rfl (WL.c rfl (o_ash vB ?_)))))))))))))))
  exact WL.nil (⟨h5, h6, h7, congrArg Value.bool (by rw [Bool.eq_iff_iff]; simp_all [tagB] <;> omega), rfl⟩)
 rintro e w ⟨h5, h6, h7, h8, hw⟩
 subst hw
 refine W.seq (W.region (WL.c rfl (o_mvh h5 (WL.c rfl (o_mvh vB (WL.sp 1 rfl (fun g137 => ?_) (fun g137 => ?_)))))))
 ·skip
  refine WL.g rfl (g137) rfl (o_mvh h6 (WL.c rfl (o_pickA rfl rfl (WL.c rfl (o_mvh vB (WL.sp 4 rfl (fun g140 => ?_) (fun g140 => ?_)))))))
  ·skip
   refine WL.g rfl (g140) rfl (o_mvh h7 (WL.c rfl (o_pickA rfl rfl (WL.c rfl (o_mvh vB (WL.sp 7 rfl (fun g143 => ?_) (fun g143 => ?_)))))))
   ·skip
    refine WL.g rfl (g143) rfl (o_mvh h8 (WL.c rfl (o_pickA rfl rfl (WL.c rfl (o_ash vB (WL.nil (W.ret (ret1v rfl vB ?_))))))))
    exact ⟨congrArg Value.bool (by first | rfl | (rw [rightB, Bool.eq_iff_iff]; simp_all; done) | (rw [rightB]; simp_all; done)), hx2⟩
   skip
   refine WL.s rfl (g143) rfl (WL.c rfl (o_pickF rfl (g143) (WL.c rfl (o_ash vB (WL.nil (W.ret (ret1v rfl vB ?_)))))))
   exact ⟨congrArg Value.bool (by first | rfl | (rw [rightB, Bool.eq_iff_iff]; simp_all; done) | (rw [rightB]; simp_all; done)), hx2⟩
  skip
  refine WL.s rfl (g140) rfl (WL.c rfl (o_pickF rfl (g140) (WL.c rfl (o_mvh vB (WL.s rfl (rfl) rfl (WL.c rfl (o_pickF rfl (rfl) (WL.c rfl (o_ash vB (WL.nil (W.ret (ret1v rfl vB ?_))))))))))))
  exact ⟨congrArg Value.bool (by first | rfl | (rw [rightB, Bool.eq_iff_iff]; simp_all; done) | (rw [rightB]; simp_all; done)), hx2⟩
 skip
 refine WL.s rfl (g137) rfl (WL.c rfl (o_pickF rfl (g137) (WL.c rfl (o_mvh vB (WL.s rfl (rfl) rfl (WL.c rfl (o_pickF rfl (rfl) (WL.c rfl (o_mvh vB (WL.s rfl (rfl) rfl (WL.c rfl (o_pickF rfl (rfl) (WL.c rfl (o_ash vB (WL.nil (W.ret (ret1v rfl vB ?_)))))))))))))))))
 exact ⟨congrArg Value.bool (by first | rfl | (rw [rightB, Bool.eq_iff_iff]; simp_all; done) | (rw [rightB]; simp_all; done)), hx2⟩

structure Opn where
 kind : Int
 left : Int
 deep : Int
def opV (o : Opn) : List Value := [.int .i64 o.kind, .int .i64 o.left, .int .i64 o.deep]
def opsR (S : List Opn) : List Value := S.reverse.flatMap opV
def popZ (S : List Opn) : List Opn := S.dropWhile (fun o => decide (o.left = 0))
def manyB (x : Ex) : Bool := (decide (x.kind = 8) && decide (64 < x.kids)) || (decide (x.kind = 7) && decide (64 < x.kids))
def leftB (S : List Opn) : Bool := S.any (fun o => decide (0 < o.left))
/-- the nodes of an expression; the open ones, the last one first -/
def chkE : List Opn → Nat → List Ex → Nat × Nat
 | S, i, [] => if leftB S = true then (i, 62) else (0, 0)
 | S, i, x :: xs => match popZ S with
  | [] => (i, 62)
  | o :: S' => if 16 < o.deep then (i, 61) else if manyB x = true then (i, 5) else if rightB x o.kind = false then (i, 62)
   else chkE (⟨x.kind, x.kids, o.deep + 1⟩ :: { o with left := o.left - 1 } :: S') (i + 1) xs
theorem chkE_nil {S : List Opn} {i : Nat} : chkE S i [] = if leftB S = true then (i, 62) else (0, 0) := rfl
theorem chkE_cons {S : List Opn} {i : Nat} {x : Ex} {xs : List Ex} : chkE S i (x :: xs) = match popZ S with
  | [] => (i, 62)
  | o :: S' => if 16 < o.deep then (i, 61) else if manyB x = true then (i, 5) else if rightB x o.kind = false then (i, 62)
   else chkE (⟨x.kind, x.kids, o.deep + 1⟩ :: { o with left := o.left - 1 } :: S') (i + 1) xs := rfl
theorem chkE_z {S : List Opn} {i : Nat} {x : Ex} {xs : List Ex} (h : popZ S = []) : chkE S i (x :: xs) = (i, 62) := by rw [chkE_cons, h]
theorem chkE_o {S S' : List Opn} {o : Opn} {i : Nat} {x : Ex} {xs : List Ex} (h : popZ S = o :: S') : chkE S i (x :: xs) = if 16 < o.deep then (i, 61) else if manyB x = true then (i, 5) else if rightB x o.kind = false then (i, 62)
      else chkE (⟨x.kind, x.kids, o.deep + 1⟩ :: { o with left := o.left - 1 } :: S') (i + 1) xs := by rw [chkE_cons, h]
def OkS : List Opn → Prop
 | [] => True
 | o :: S => o.deep = (S.length : Int) ∧ 0 ≤ o.left ∧ o.left ≤ 64 ∧ OkS S
theorem OkS_cons {o : Opn} {S : List Opn} : OkS (o :: S) ↔ o.deep = (S.length : Int) ∧ 0 ≤ o.left ∧ o.left ≤ 64 ∧ OkS S := Iff.rfl
theorem opsR_cons (o : Opn) (S : List Opn) : opsR (o :: S) = opsR S ++ opV o := by simp [opsR]
theorem opsR_len (S : List Opn) : (opsR S).length = S.length * 3 := by
 induction S with
 | nil => rfl
 | cons o S ih => rw [opsR_cons, List.length_append, ih, List.length_cons]; show _ + 3 = _; omega
theorem opsR_get {o : Opn} {S : List Opn} {k : Nat} (v : Value) (h : (opV o)[k]? = some v) : (opsR (o :: S))[S.length * 3 + k]? = some v := by
 rw [opsR_cons, List.getElem?_append_right (by rw [opsR_len]; omega), opsR_len, Nat.add_sub_cancel_left, h]
theorem opsR_take {o : Opn} {S : List Opn} : (opsR (o :: S)).take (S.length * 3) = opsR S := by
 rw [opsR_cons]; exact List.take_left' (opsR_len S)
theorem opsR_set {o : Opn} {S : List Opn} {z : Int} : (opsR (o :: S)).set (S.length * 3 + 1) (.int .i64 z) = opsR ({ o with left := z } :: S) := by
 rw [opsR_cons, opsR_cons, List.set_append_right _ _ (by rw [opsR_len]; omega), opsR_len, Nat.add_sub_cancel_left]
 rfl
theorem leftB_at (S : List Opn) : ∀ k (hk : k < S.length), leftB (S.reverse.drop k).reverse = (decide (0 < (S.reverse[k]'(by simpa using hk)).left) || leftB (S.reverse.drop (k + 1)).reverse) := by
 intro k hk
 rw [← List.getElem_cons_drop (by simpa using hk), List.reverse_cons]
 simp [leftB, Bool.or_comm]
theorem ops_at {S : List Opn} {k : Nat} (hk : k < S.length) : ((opsR S).drop (k * 3)).take 3 = opV (S.reverse[k]'(by simpa using hk)) := by
 have : ∀ (l : List Opn) (k : Nat) (hk : k < l.length), ((l.flatMap opV).drop (k * 3)).take 3 = opV l[k] := by
  intro l
  induction l with
  | nil => intro k hk; simp at hk
  | cons t ts ih =>
   intro k hk
   have h5 : (opV t).length = 3 := rfl
   cases k with
   | zero => rw [Nat.zero_mul, List.drop_zero, List.flatMap_cons]; exact List.take_left' h5
   | succ k =>
    have h1 : (k + 1) * 3 - (opV t).length = k * 3 := by rw [h5]; omega
    have := ih k (by simpa using hk)
    rw [List.flatMap_cons, List.drop_append, List.drop_eq_nil_of_le (by rw [h5]; omega), List.nil_append, h1]
    exact this
 exact this _ _ _
theorem exs_at (ts : List Ex) : ∀ (k : Nat) (hk : k < ts.length), ((exs ts).drop (k * 7)).take 7 = exV ts[k] := by
 induction ts with
 | nil => intro k hk; simp at hk
 | cons t ts ih =>
  intro k hk
  have h5 : (exV t).length = 7 := rfl
  cases k with
  | zero => rw [Nat.zero_mul, List.drop_zero, exs, List.flatMap_cons]; exact List.take_left' h5
  | succ k =>
   have h1 : (k + 1) * 7 - (exV t).length = k * 7 := by rw [h5]; omega
   have := ih k (by simpa using hk)
   rw [exs, List.flatMap_cons, List.drop_append, List.drop_eq_nil_of_le (by rw [h5]; omega), List.nil_append, h1]
   exact this
theorem Sl.exq {w : World} {v : Value} {ts : List Ex} (h : Sl w 7 v ts.length (exs ts)) {k : Nat} (hk : k < ts.length) : ∃ b o c, v = .slice (some ⟨b, o, none⟩) ts.length c ∧ Cells w b (o + k * 7) (exV ts[k]) := by
 rcases h.val with ⟨hz, h0⟩ | ⟨b, o, c, rfl, hnc, hc⟩
 ·omega
 exact ⟨b, o, c, rfl, by rw [← exs_at ts k hk]; exact hc.sub _ _⟩
def slen : Value → Nat
 | .slice _ n _ => n
 | _ => 0
theorem popZ_z {o : Opn} {S : List Opn} (h : o.left = 0) : popZ (o :: S) = popZ S := by simp [popZ, h]
theorem popZ_n {o : Opn} {S : List Opn} (h : ¬ o.left = 0) : popZ (o :: S) = o :: S := by simp [popZ, h]
theorem rightB_kids {x : Ex} {k : Int} (h : rightB x k = true) (hm : manyB x = false) : 0 ≤ x.kids ∧ x.kids ≤ 64 := by
 simp only [rightB, Bool.and_eq_true] at h
 have h1 := h.1.1.1
 unfold okB at h1
 simp only [manyB, Bool.or_eq_false_iff, Bool.and_eq_false_iff, decide_eq_false_iff_not] at hm
 repeat' split at h1
 all_goals first | (simp only [Bool.and_eq_true, decide_eq_true_eq] at h1; omega) | cases h1

theorem own_form {w : World} {base : Nat} {el : TypeId} {s n : Nat} {v : Value} {xs : List Value} (h : w.ownsRow base el s v n xs) : ∃ a c, v = .slice a n c ∧ n ≤ c := by
 rcases h.2 with ⟨rfl, rfl⟩ | ⟨g, cap, cur, rfl, hb, hc, hnc, r⟩
 ·exact ⟨none, 0, rfl, Nat.le_refl _⟩
 exact ⟨_, cap, rfl, hnc⟩
theorem own_take {w : World} {base : Nat} {el : TypeId} {s n m g cap : Nat} {xs : List Value} (h : w.ownsRow base el s (.slice (some ⟨g, 0, none⟩) n cap) n xs) (hm : m ≤ n) : w.ownsRow base el s (.slice (some ⟨g, 0, none⟩) m cap) m (xs.take (m * s)) := by
 obtain ⟨cap', cur, hv, hb, hc, hnc, hcm, hcs, ht⟩ := own_blk h rfl
 simp only [Value.slice.injEq] at hv
 obtain ⟨-, -, rfl⟩ := hv
 have hms : m * s ≤ n * s := Nat.mul_le_mul_right _ hm
 refine ⟨by rw [List.length_take, h.1]; omega, .inr ⟨g, cap, cur, rfl, hb, hc, by omega, hcm, hcs, ?_⟩⟩
 rw [← ht, List.take_take, Nat.min_eq_left hms]
theorem sliced0 (g h c s : Nat) : sliced (some ⟨g, 0, none⟩) 0 h c s = .slice (some ⟨g, 0, none⟩) h c := by
 unfold sliced
 split <;> simp [Addr.add]


set_option maxHeartbeats 4000000 in
theorem checked_spec (l : List Ex) (v : Value) (w0 : World) (hS : Sl w0 7 v l.length (exs l)) (hl : l.length ≤ 4611686018427387904) (hln : ∀ x ∈ l, x.name.length ≤ 9223372036854775807 ∧ x.label.length ≤ 9223372036854775807) : Ca Try.prog 54 #[v] w0 (fun r w' => r = .tuple #[.int .i64 ((chkE [⟨0, 1, 0⟩] 0 l).1 : Int), .int .i64 ((chkE [⟨0, 1, 0⟩] 0 l).2 : Int)] ∧ Ext w0 w') := by
 have hx : Ext w0 w0 := Only.refl _ _
 have hS0 := hS
 refine Ca.of Try.func54 Try.ntmps54 rfl rfl (W.seq (W.region (WL.c rfl (o_ash vI (WL.c rfl (o_ash vI (WL.nil (W.seq (W.region (WL.c rfl (o_bldC (cs := [(.int .i64 0), (.int .i64 1), (.int .i64 0)]) TI129 (Sizes.cons TI3 (Sizes.cons TI3 (Sizes.cons TI3 Sizes.nil))) rfl (lcp vI lnp) rfl rfl (WL.c rfl (o_bs1 TI130 TI129 (show _ = Value.agg #[.int .i64 0, .int .i64 1, .int .i64 0] from rfl) (by decide) (by decide) rfl ?_)))))))))))))
 have hown : (w0.alloc (.cells (Value.agg #[.int .i64 0, .int .i64 1, .int .i64 0]).cells 129)).ownsRow w0.heap.size 129 3 (.slice (some ⟨w0.heap.size, 0, none⟩) 1 1) [(⟨0, 1, 0⟩ : Opn)].length (opsR [⟨0, 1, 0⟩]) := own_new1 rfl
 replace hx : Ext w0 (w0.alloc (.cells (Value.agg #[.int .i64 0, .int .i64 1, .int .i64 0]).cells 129)) := Only.alloc w0 _
 replace hS := hS.ext hx
 generalize w0.alloc (.cells (Value.agg #[.int .i64 0, .int .i64 1, .int .i64 0]).cells 129) = w1 at *
 refine WL.c rfl (o_ash (by first | exact vS | exact rfl) (WL.nil (W.seq (W.seq (W.region (WL.c rfl (o_mvh (by first | exact vS | exact rfl) (WL.c rfl (o_lenR TI37 rfl hS (WL.c rfl (o_mvh vI (WL.nil (W.block (W.loop (fun e w => ∃ (i : Nat) (S : List Opn) (sv : Value), i ≤ l.length ∧ e 0 = v ∧ e 4 = sv ∧ e 12 = v ∧ e 13 = .int .i64 (l.length : Int) ∧ e 14 = .int .i64 (i : Int) ∧ w.ownsRow w0.heap.size 129 3 sv S.length (opsR S) ∧ OkS S ∧ S.length ≤ 18 ∧ chkE [⟨0, 1, 0⟩] 0 l = chkE S i (l.drop i) ∧ Ext w0 w) (fun e w => l.length - (intOf (e 14)).toNat) ?_ ?_))))))))))))))
 ·refine ⟨0, [⟨0, 1, 0⟩], _, Nat.zero_le _, rfl, rfl, rfl, rfl, rfl, hown, ⟨rfl, by decide, by decide, trivial⟩, by decide, rfl, hx⟩
 rintro e w ⟨i, S0, sv0, hi, h0, h4, h12, h13, h14, hown, hok, hSl, hres, hx⟩
 have hm14 := h14
 have hSw := hS0.ext hx
 refine W.seq (W.region (WL.c rfl (o_lt h14 h13 (WL.nil (W.seq (W.cond rfl (fun c15 => ?_) (fun c15 => ?_)))))))
 ·try simp only [cs8] at c15
  have hil : i < l.length := by omega
  obtain ⟨tb, to_, tc, rfl, htc⟩ := Sl.exq hSw hil
  have hlc : l.drop i = l[i] :: l.drop (i + 1) := (List.getElem_cons_drop hil).symm
  refine W.skip (W.seq (W.block (W.seq (W.region (WL.c rfl (o_mvh h14 (WL.c rfl (o_ixB TI37 TI41 h12 h14 (by omega) (WL.c rfl (o_ldA TI41 rfl rfl htc rfl ?_))))))))))
  have hx0 := hx
  have hown0 := hown
  refine WL.c rfl (o_alB TI41 ?_)
  intro w6 hC6 hx6 hs6
  refine WL.c rfl (o_ash vI (WL.u (o_stA TI41 rfl (show _ = Value.agg (exV l[i]).toArray from rfl) rfl rfl hC6 rfl ?_)))
  intro w7 hC7 ho7 hs7
  have hxb := Ext.own hx6 (Nat.le_refl _) ho7
  clear hC6 hx6 hs6 ho7 hs7 hSw htc
  replace hown := own_ext hown hxb
  replace hx := hx.tr hxb
  obtain ⟨c6, hc6⟩ : ∃ c, c = w.heap.size := ⟨_, rfl⟩
  have hc6l : w0.heap.size ≤ c6 ∧ ¬ sv0.ownBlock = some c6 := by
   subst hc6
   exact ⟨by have := hx0.size; omega, fun hk => by have := (hown0.lt _ hk).2; omega⟩
  rw [← hc6] at hC7 ⊢
  refine WL.nil (W.seq (W.block (W.loop (fun e w => ∃ (S : List Opn) (sv : Value), e 0 = Value.slice (some ⟨tb, to_, none⟩) l.length tc ∧ e 4 = sv ∧ e 5 = .int .i64 (i : Int) ∧ e 6 = .pointer (some ⟨c6, 0, none⟩) ∧ e 12 = Value.slice (some ⟨tb, to_, none⟩) l.length tc ∧ e 13 = .int .i64 (l.length : Int) ∧ e 14 = .int .i64 (i : Int) ∧ w.ownsRow w0.heap.size 129 3 sv S.length (opsR S) ∧ OkS S ∧ S.length ≤ 18 ∧ popZ S0 = popZ S ∧ (sv.ownBlock = sv0.ownBlock) ∧ w.heap[c6]? = some (.cells (exV l[i]).toArray 41 (0, 0)) ∧ Ext w0 w) (fun e w => slen (e 4)) ?_ ?_)))
  ·exact ⟨S0, sv0, h0, h4, rfl, rfl, h12, h13, h14, hown, hok, hSl, rfl, rfl, hC7, hx⟩
  rintro e w ⟨S, sv, h0, h4, h5, h6, h12, h13, h14, hown, hok, hSl, hpz, hsb, hC7, hx⟩
  have hm4 := h4
  refine W.seq (W.seq ?_)
  rcases S with _ | ⟨o, S⟩
  ·skip
   have h062 := hres.trans (by rw [hlc, chkE_z hpz])
   refine W.region (WL.c rfl (o_mvh h4 (WL.c rfl (o_lenR TI130 rfl (Sl.own hown) (WL.c rfl (o_gt rfl rfl (WL.c rfl (o_mvh vB (WL.s rfl (decide_eq_false (by simp)) rfl (WL.s rfl (decide_eq_false (by simp)) rfl (WL.s rfl (decide_eq_false (by simp)) rfl (WL.s rfl (decide_eq_false (by simp)) rfl (WL.s rfl (decide_eq_false (by simp)) rfl (WL.s rfl (decide_eq_false (by simp)) rfl (WL.s rfl (decide_eq_false (by simp)) rfl (WL.s rfl (decide_eq_false (by simp)) rfl (WL.c rfl (o_pickF rfl (decide_eq_false (by simp)) (WL.nil (W.condF' rfl (rfl) (W.exit (W.seq (W.seq (W.region (WL.c rfl (o_mvh h4 (WL.c rfl (o_lenR TI130 rfl (Sl.own hown) (WL.c rfl (o_eq rfl rfl (WL.nil (W.condT' rfl (by simp) (W.seq (W.region (WL.c rfl (o_mvh h5 (WL.c rfl (o_ash vI (WL.c rfl (o_ash vI (WL.nil (W.ret (ret2v rfl vI vI ?_)))))))))))))))))))))))))))))))))))))))))))
   rw [h062]
   exact ⟨rfl, hx⟩
  skip
  replace hown : w.ownsRow w0.heap.size 129 3 sv (S.length + 1) (opsR (o :: S)) := hown
  obtain ⟨g, cap, rfl, hgb⟩ := own_some hown (by omega)
  have hcap : S.length + 1 ≤ cap := by obtain ⟨_, _, hv, hh⟩ := own_form hown; cases hv; exact hh
  obtain ⟨hdp, hlo, hhi, hok2⟩ := OkS_cons.1 hok
  have hSl2 : S.length + 1 ≤ 18 := hSl
  have hcg : ¬ g = c6 := fun he => hc6l.2 (by rw [← hsb, he]; rfl)
  refine W.region (WL.c rfl (o_mvh h4 (WL.c rfl (o_lenR TI130 rfl (Sl.own hown) (WL.c rfl (o_gt rfl rfl (WL.c rfl (o_mvh vB (WL.g rfl (decide_eq_true (by omega)) rfl (o_mvh h4 (WL.g rfl (decide_eq_true (by omega)) rfl (o_mvh h4 (WL.g rfl (decide_eq_true (by omega)) rfl (o_lenR TI130 rfl (Sl.own hown) (WL.g rfl (decide_eq_true (by omega)) rfl (o_subi rfl rfl (by omega) (WL.g rfl (decide_eq_true (by omega)) rfl (o_ixB (i := S.length) TI130 TI129 rfl (by show Value.int .i64 _ = _; congr 1; omega) (by omega) (WL.g rfl (decide_eq_true (by omega)) rfl (o_fa 1 TI129 rfl TI3 rfl rfl (WL.g rfl (decide_eq_true (by omega)) rfl (o_ld TI3 rfl rfl (own_cell hown (j := 0 + S.length * 3 + 1) (by rw [Nat.zero_add]; exact opsR_get _ rfl)) (WL.g rfl (decide_eq_true (by omega)) rfl (o_eq rfl rfl (WL.c rfl (o_pickA rfl rfl (WL.nil (W.cond rfl (fun c31 => ?_) (fun c31 => ?_)))))))))))))))))))))))))))))
  ·try simp only [cs8] at c31
   have hz : o.left = 0 := c31.2
   refine W.skip (W.block (W.region (WL.c rfl (o_mvh h4 (WL.c rfl (o_mvh h4 (WL.c rfl (o_lenR TI130 rfl (Sl.own hown) (WL.c rfl (o_subi rfl rfl (by omega) (WL.c rfl (o_slv (h := S.length) TI130 TI129 rfl Lo.n (Hi.s (by show Value.int .i64 _ = _; congr 1; omega)) (Nat.zero_le _) (by omega) ?_))))))))))))
   rw [sliced0]
   have hown2 := own_take hown (m := S.length) (by omega)
   rw [opsR_take] at hown2
   refine WL.c rfl (o_ash (by first | exact vS | exact rfl) (WL.nil (⟨⟨S, _, h0, rfl, h5, h6, h12, h13, h14, hown2, hok.2.2.2, by omega, by rw [hpz, popZ_z hz], hsb, hC7, hx⟩, ?_⟩)))
   rw [hm4]; show S.length < S.length + 1; omega
  try simp only [cs8] at c31
  have hz : ¬ o.left = 0 := fun hz => by rcases c31 with c | c; omega; exact c hz
  have hpz2 := hpz.trans (popZ_n hz)
  have hres2 := hres.trans (by rw [hlc, chkE_o hpz2])
  refine W.exit (W.seq (W.seq (W.region (WL.c rfl (o_mvh h4 (WL.c rfl (o_lenR TI130 rfl (Sl.own hown) (WL.c rfl (o_eq rfl rfl (WL.nil (W.condF' rfl (decide_eq_false (by omega)) (W.skip (W.seq (W.region (WL.c rfl (o_mvh h4 (WL.c rfl (o_mvh h4 (WL.c rfl (o_lenR TI130 rfl (Sl.own hown) (WL.c rfl (o_subi rfl rfl (by omega) (WL.c rfl (o_ixB (i := S.length) TI130 TI129 rfl (by show Value.int .i64 _ = _; congr 1; omega) (by omega) (WL.c rfl (o_ash (by first | exact (show _ = Value.pointer _ from rfl) | exact rfl) (WL.nil (W.seq (W.block (W.seq (W.region (WL.c rfl (o_mvh (by first | exact (show _ = Value.pointer _ from rfl) | exact rfl) (WL.c rfl (o_nil rfl (WL.c rfl (o_fa 2 TI129 rfl TI3 rfl rfl (WL.c rfl (o_ld TI3 rfl rfl (own_cell hown (j := 0 + S.length * 3 + 2) (by rw [Nat.zero_add]; exact opsR_get _ rfl)) (WL.c rfl (o_gt rfl rfl (WL.c rfl (o_ash vB (WL.nil (W.cond rfl (fun c46 => ?_) (fun c46 => ?_))))))))))))))))))))))))))))))))))))))))))))))
  ·try simp only [cs8] at c46
   have hdeep : 16 < o.deep := by omega
   rw [if_pos hdeep] at hres2
   refine W.seq (W.region (WL.c rfl (o_mvh h5 (WL.c rfl (o_ash vI (WL.c rfl (o_ash vI (WL.nil (W.ret (ret2v rfl vI vI ?_))))))))))
   rw [hres2]
   exact ⟨rfl, hx⟩
  try simp only [cs8] at c46
  have hdeep : ¬ 16 < o.deep := by omega
  rw [if_neg hdeep] at hres2
  refine W.seq (W.seq (W.region (WL.c rfl (o_fa 0 TI41 rfl TI3 rfl h6 (WL.c rfl (o_ld TI3 rfl rfl (cell_of hC7 rfl) (WL.c rfl (o_eq rfl rfl (WL.c rfl (o_mvh vB (WL.sp 3 rfl (fun g57 => ?_) (fun g57 => ?_))))))))))))
  ·skip
   refine WL.g rfl (g57) rfl (o_fa 5 TI41 rfl TI3 rfl h6 (WL.g rfl (g57) rfl (o_ld TI3 rfl rfl (cell_of hC7 rfl) (WL.g rfl (g57) rfl (o_gt rfl rfl (WL.c rfl (o_pickA rfl rfl (WL.c rfl (o_ash vB (WL.nil (W.cut (fun e1 w1 => e1 0 = Value.slice (some ⟨tb, to_, none⟩) l.length tc ∧ e1 4 = Value.slice (some ⟨g, 0, none⟩) (S.length + 1) cap ∧ e1 5 = .int .i64 (i : Int) ∧ e1 6 = .pointer (some ⟨c6, 0, none⟩) ∧ e1 7 = .pointer (some ⟨g, 0 + S.length * 3, none⟩) ∧ e1 12 = Value.slice (some ⟨tb, to_, none⟩) l.length tc ∧ e1 13 = .int .i64 (l.length : Int) ∧ e1 14 = .int .i64 (i : Int) ∧ e1 53 = .bool (manyB l[i]) ∧ w1 = w) ?_ ?_)))))))))))
   ·-- both ways
    refine W.cond rfl (fun c53 => ?_) (fun c53 => ?_)
    ·try simp only [cs8] at c53
     refine W.skip ?_
     exact ⟨h0, h4, h5, h6, rfl, h12, h13, h14, congrArg Value.bool (by rw [Bool.eq_iff_iff]; (try simp only [decide_eq_true_eq, decide_eq_false_iff_not] at g57); (try simp only [decide_eq_true_eq, decide_eq_false_iff_not] at g65); (try (cases c53; done)); all_goals simp only [manyB, Bool.or_eq_true, Bool.and_eq_true, decide_eq_true_eq, Bool.false_eq_true, false_iff]; all_goals omega), rfl⟩
    try simp only [cs8] at c53
    refine W.region (WL.c rfl (o_fa 0 TI41 rfl TI3 rfl h6 (WL.c rfl (o_ld TI3 rfl rfl (cell_of hC7 rfl) (WL.c rfl (o_eq rfl rfl (WL.c rfl (o_mvh vB (WL.sp 3 rfl (fun g65 => ?_) (fun g65 => ?_))))))))))
    ·skip
     refine WL.g rfl (g65) rfl (o_fa 5 TI41 rfl TI3 rfl h6 (WL.g rfl (g65) rfl (o_ld TI3 rfl rfl (cell_of hC7 rfl) (WL.g rfl (g65) rfl (o_gt rfl rfl (WL.c rfl (o_pickA rfl rfl (WL.c rfl (o_ash vB (WL.nil ?_))))))))))
     exact ⟨h0, h4, h5, h6, rfl, h12, h13, h14, congrArg Value.bool (by rw [Bool.eq_iff_iff]; (try simp only [decide_eq_true_eq, decide_eq_false_iff_not] at g57); (try simp only [decide_eq_true_eq, decide_eq_false_iff_not] at g65); (try (cases c53; done)); all_goals simp only [manyB, Bool.or_eq_true, Bool.and_eq_true, decide_eq_true_eq, Bool.false_eq_true, false_iff]; all_goals omega), rfl⟩
    skip
    refine WL.s rfl (g65) rfl (WL.s rfl (g65) rfl (WL.s rfl (g65) rfl (WL.c rfl (o_pickF rfl (g65) (WL.c rfl (o_ash vB (WL.nil ?_)))))))
    exact ⟨h0, h4, h5, h6, rfl, h12, h13, h14, congrArg Value.bool (by rw [Bool.eq_iff_iff]; (try simp only [decide_eq_true_eq, decide_eq_false_iff_not] at g57); (try simp only [decide_eq_true_eq, decide_eq_false_iff_not] at g65); (try (cases c53; done)); all_goals simp only [manyB, Bool.or_eq_true, Bool.and_eq_true, decide_eq_true_eq, Bool.false_eq_true, false_iff]; all_goals omega), rfl⟩
   rintro e w ⟨h0, h4, h5, h6, h7, h12, h13, h14, h53, rfl⟩
   refine W.cond h53 (fun c53 => ?_) (fun c53 => ?_)
   ·try simp only [cs8] at c53
    refine W.seq ?_
    have hmany : manyB l[i] = true := by simpa using c53
    rw [if_pos hmany] at hres2
    refine W.region (WL.c rfl (o_mvh h5 (WL.c rfl (o_ash vI (WL.c rfl (o_ash vI (WL.nil (W.ret (ret2v rfl vI vI ?_)))))))))
    rw [hres2]
    exact ⟨rfl, hx⟩
   try simp only [cs8] at c53
   refine W.seq ?_
   have hmany : manyB l[i] = false := by simpa using c53
   rw [if_neg (by simp [hmany])] at hres2
   refine W.tail 5 rfl (by kernel_rfl) (WS.c rfl ((SO.o rfl (o_ldA TI41 rfl h6 (show Cells w c6 0 (exV l[i]) from Cells.of hC7 0 _ (by simp)) rfl ⟨rfl, rfl⟩))) (WS.c rfl ((SO.o rfl (o_mvh h7 ⟨rfl, rfl⟩))) (WS.c rfl ((SO.r (r_nil rfl))) (WS.c rfl ((SO.o rfl (o_fa 0 TI129 rfl TI3 rfl rfl ⟨rfl, rfl⟩))) (WS.c rfl ((SO.o rfl (o_ld TI3 rfl rfl (own_cell hown (j := 0 + S.length * 3 + 0) (by rw [Nat.zero_add]; exact opsR_get _ rfl)) ⟨rfl, rfl⟩))) (WS.nil ?_))))))
   have hxd := Only.drew w
   replace hx := hx.tr hxd
   replace hown := own_ext hown hxd
   replace hC7 := hxd.blk hC7 (fun h => h)
   clear hxd
   generalize w.drew = wd at *
   refine WL.c rfl (o_call Try.call77 (lc rfl (lc rfl ln)) ((right_spec l[i] o.kind _ (hln _ (List.getElem_mem hil)).1 (hln _ (List.getElem_mem hil)).2).mono ?_))
   rintro v77 w77 ⟨rfl, hx77⟩
   replace hx := hx.tr hx77
   replace hown := own_ext hown hx77
   replace hC7 := hx77.blk hC7 (fun h => h)
   refine WL.c rfl (o_not' rfl (WL.c rfl (o_ash vB (WL.nil (W.cond rfl (fun c71 => ?_) (fun c71 => ?_))))))
   ·try simp only [cs8] at c71
    have hright : rightB l[i] o.kind = false := by simpa using c71
    rw [if_pos hright] at hres2
    refine W.seq (W.region (WL.c rfl (o_mvh h5 (WL.c rfl (o_ash vI (WL.c rfl (o_ash vI (WL.nil (W.ret (ret2v rfl vI vI ?_))))))))))
    rw [hres2]
    exact ⟨rfl, hx⟩
   try simp only [cs8] at c71
   have hright : rightB l[i] o.kind = true := by simpa using c71
   rw [if_neg (by simp [hright])] at hres2
   have hkd := rightB_kids hright hmany
   refine W.skip (W.seq (W.region (WL.c rfl (o_mvh h7 (WL.c rfl (o_nil rfl (WL.c rfl (o_fa 1 TI129 rfl TI3 rfl rfl (WL.c rfl (o_ld TI3 rfl rfl (own_cell hown (j := 0 + S.length * 3 + 1) (by rw [Nat.zero_add]; exact opsR_get _ rfl)) (WL.c rfl (o_subi rfl rfl (by omega) (WL.c rfl (o_nil rfl (WL.c rfl (o_fa 1 TI129 rfl TI3 rfl rfl (WL.u (o_stRj (i := S.length * 3 + 1) TI3 rfl (by omega) (show _ = Value.int .i64 (o.left - 1) from rfl) rfl hown rfl (by omega) ?_))))))))))))))))))
   intro wA hown' hoA hsA
   replace hown : wA.ownsRow w0.heap.size 129 3 (Value.slice (some ⟨g, 0, none⟩) (S.length + 1) cap) (S.length + 1) (opsR ({ o with left := o.left - 1 } :: S)) := by rw [← opsR_set]; exact hown'
   clear hown'
   replace hC7 := hoA.blk hC7 (fun hk => hcg (by simpa [Value.ownBlock] using hk))
   have hgl := (hown.lt g rfl).1
   replace hx := hx.trans' hoA (fun _ h => h) (fun k hk he => by have := ob he; omega)
   refine WL.nil ?_
   obtain ⟨wd2, hwd⟩ : ∃ wd2, wd2 = wA.drew := ⟨_, rfl⟩
   have hxd : Ext wA wd2 := hwd ▸ Only.drew wA
   replace hx := hx.tr hxd
   replace hown := own_ext hown hxd
   replace hC7 := hxd.blk hC7 (fun h => h)
   refine W.drawT 12 (Ext) [(4, fun v _ => v = _), (6, fun v _ => v = _), (7, fun v _ => v = _), (0, fun v _ => v = _), (5, fun v _ => v = _), (12, fun v _ => v = _), (13, fun v _ => v = _), (14, fun v _ => v = _)] rfl (by kernel_rfl) (Only.refl No) (fun _ _ _ h k => h.trans k) ⟨Mono.eq, Mono.eq, Mono.eq, Mono.eq, Mono.eq, Mono.eq, Mono.eq, Mono.eq, trivial⟩ ⟨h4, h6, h7, h0, h5, h12, h13, h14, trivial⟩ (WD.p rfl (fun e w hR hh => by obtain ⟨h4, -⟩ := hh; exact SG.n (o_mvh h4 ⟨rfl, Only.refl No _⟩)) (WD.p rfl (fun e w hR hh => by obtain ⟨h6, -⟩ := hh; exact SG.n (o_fa 0 TI41 rfl TI3 rfl h6 ⟨rfl, Only.refl No _⟩)) (WD.p rfl (fun e w hR hh => by obtain ⟨h88, -⟩ := hh; rw [← hwd] at hR; exact SG.n (o_ld TI3 rfl h88 (cell_of (hR.blk hC7 (fun h => h)) rfl) ⟨rfl, Only.refl No _⟩)) (WD.p rfl (fun e w hR hh => by obtain ⟨h6, -⟩ := hh; exact SG.n (o_fa 5 TI41 rfl TI3 rfl h6 ⟨rfl, Only.refl No _⟩)) (WD.p rfl (fun e w hR hh => by obtain ⟨h90, -⟩ := hh; rw [← hwd] at hR; exact SG.n (o_ld TI3 rfl h90 (cell_of (hR.blk hC7 (fun h => h)) rfl) ⟨rfl, Only.refl No _⟩)) (WD.p rfl (fun e w hR hh => by obtain ⟨h7, -⟩ := hh; exact SG.n (o_mvh h7 ⟨rfl, Only.refl No _⟩)) (WD.p rfl (fun e w hR hh => by obtain ⟨h92, -⟩ := hh; exact SG.n (o_nil h92 ⟨rfl, Only.refl No _⟩)) (WD.p rfl (fun e w hR hh => by obtain ⟨h93, -⟩ := hh; exact SG.n (o_fa 2 TI129 rfl TI3 rfl h93 ⟨rfl, Only.refl No _⟩)) (WD.p rfl (fun e w hR hh => by obtain ⟨h94, -⟩ := hh; rw [← hwd] at hR; exact SG.n (o_ld TI3 rfl h94 (show w.cell? ⟨g, 0 + S.length * 3 + 2, none⟩ = some (.int .i64 o.deep) from own_cell (own_ext hown hR) (by rw [Nat.zero_add]; exact opsR_get _ rfl)) ⟨rfl, Only.refl No _⟩)) (WD.p rfl (fun e w hR hh => by obtain ⟨h95, -⟩ := hh; exact SG.n (o_addi h95 rfl (by omega) ⟨rfl, Only.refl No _⟩)) (WD.p rfl (fun e w hR hh => by obtain ⟨h96, h91, h89, -⟩ := hh; exact SG.n (o_bldC (cs := [_, _, _]) TI129 (Sizes.cons TI3 (Sizes.cons TI3 (Sizes.cons TI3 Sizes.nil))) rfl (lcp h89 (lcp h91 (lcp h96 lnp))) rfl rfl ⟨rfl, Only.refl No _⟩)) (WD.q (fun u w => w.ownsRow wd2.heap.size 129 3 u 1 (opV ⟨l[i].kind, l[i].kids, o.deep + 1⟩)) (fun u w w2 hR hh => own_ext hh hR) rfl (fun e w hR hh => by obtain ⟨h97, -⟩ := hh; rw [← hwd] at hR; exact SG.n (o_bs1 TI130 TI129 h97 (by decide) (by decide) rfl ⟨own_mono (own_new1 rfl) hR.size, Only.alloc w _⟩)) ?_))))))))))))
   rintro e w hR ⟨h98, h97, h96, h95, h94, h93, h92, h91, h90, h89, h88, h87, h4, h6, h7, h0, h5, h12, h13, h14, -⟩
   rw [← hwd] at hR
   replace hx := hx.tr hR
   replace hown := own_ext hown hR
   replace hC7 := hR.blk hC7 (fun h => h)
   refine WL.c rfl (o_apO (w0.heap.size) TI130 TI129 h87 rfl hown (Sl.own h98) rfl (by decide) (by simp [opV, Value.oneCell']) (by rw [maxLen_eq]; omega) (by omega) hx.size ?_)
   intro v99 w99 hown99 ho99 hb99 hk99
   have hrow : w99.ownsRow w0.heap.size 129 3 v99 (⟨l[i].kind, l[i].kids, o.deep + 1⟩ :: { o with left := o.left - 1 } :: S).length (opsR (⟨l[i].kind, l[i].kids, o.deep + 1⟩ :: { o with left := o.left - 1 } :: S)) := by rw [opsR_cons ⟨l[i].kind, l[i].kids, o.deep + 1⟩]; exact hown99
   replace hx := hx.trans' ho99 (fun _ h => h) (fun k hk he => by have := ob he; omega)
   have hok3 : OkS ({ o with left := o.left - 1 } :: S) := ⟨hdp, by show 0 ≤ o.left - 1; omega, by show o.left - 1 ≤ 64; omega, hok2⟩
   refine WL.c rfl (o_ash (by first | exact vS | exact rfl) (WL.nil (W.region (WL.c rfl (o_addi h14 rfl (by omega) (WL.c rfl (o_mvh vI (WL.nil (⟨⟨i + 1, _, _, by omega, h0, rfl, h12, h13, rfl, hrow, ⟨by simp only [List.length_cons]; omega, hkd.1, hkd.2, hok3⟩, by simp only [List.length_cons] at hdp ⊢; omega, ?_, hx⟩, ?_⟩)))))))))
   ·rw [hres, hlc, chkE_o hpz2, if_neg hdeep, if_neg (by simp [hmany]), if_neg (by simp [hright])]
   show l.length - ((i : Int) + 1).toNat < _
   rw [hm14]; simp [intOf]; omega
  skip
  refine WL.s rfl (g57) rfl (WL.s rfl (g57) rfl (WL.s rfl (g57) rfl (WL.c rfl (o_pickF rfl (g57) (WL.c rfl (o_ash vB (WL.nil (W.cut (fun e1 w1 => e1 0 = Value.slice (some ⟨tb, to_, none⟩) l.length tc ∧ e1 4 = Value.slice (some ⟨g, 0, none⟩) (S.length + 1) cap ∧ e1 5 = .int .i64 (i : Int) ∧ e1 6 = .pointer (some ⟨c6, 0, none⟩) ∧ e1 7 = .pointer (some ⟨g, 0 + S.length * 3, none⟩) ∧ e1 12 = Value.slice (some ⟨tb, to_, none⟩) l.length tc ∧ e1 13 = .int .i64 (l.length : Int) ∧ e1 14 = .int .i64 (i : Int) ∧ e1 53 = .bool (manyB l[i]) ∧ w1 = w) ?_ ?_))))))))
  ·-- both ways
   refine W.cond rfl (fun c53 => ?_) (fun c53 => ?_)
   ·try simp only [cs8] at c53
    refine W.skip ?_
    exact ⟨h0, h4, h5, h6, rfl, h12, h13, h14, congrArg Value.bool (by rw [Bool.eq_iff_iff]; (try simp only [decide_eq_true_eq, decide_eq_false_iff_not] at g57); (try simp only [decide_eq_true_eq, decide_eq_false_iff_not] at g65); (try (cases c53; done)); all_goals simp only [manyB, Bool.or_eq_true, Bool.and_eq_true, decide_eq_true_eq, Bool.false_eq_true, false_iff]; all_goals omega), rfl⟩
   try simp only [cs8] at c53
   refine W.region (WL.c rfl (o_fa 0 TI41 rfl TI3 rfl h6 (WL.c rfl (o_ld TI3 rfl rfl (cell_of hC7 rfl) (WL.c rfl (o_eq rfl rfl (WL.c rfl (o_mvh vB (WL.sp 3 rfl (fun g65 => ?_) (fun g65 => ?_))))))))))
   ·skip
    refine WL.g rfl (g65) rfl (o_fa 5 TI41 rfl TI3 rfl h6 (WL.g rfl (g65) rfl (o_ld TI3 rfl rfl (cell_of hC7 rfl) (WL.g rfl (g65) rfl (o_gt rfl rfl (WL.c rfl (o_pickA rfl rfl (WL.c rfl (o_ash vB (WL.nil ?_))))))))))
    exact ⟨h0, h4, h5, h6, rfl, h12, h13, h14, congrArg Value.bool (by rw [Bool.eq_iff_iff]; (try simp only [decide_eq_true_eq, decide_eq_false_iff_not] at g57); (try simp only [decide_eq_true_eq, decide_eq_false_iff_not] at g65); (try (cases c53; done)); all_goals simp only [manyB, Bool.or_eq_true, Bool.and_eq_true, decide_eq_true_eq, Bool.false_eq_true, false_iff]; all_goals omega), rfl⟩
   skip
   refine WL.s rfl (g65) rfl (WL.s rfl (g65) rfl (WL.s rfl (g65) rfl (WL.c rfl (o_pickF rfl (g65) (WL.c rfl (o_ash vB (WL.nil ?_)))))))
   exact ⟨h0, h4, h5, h6, rfl, h12, h13, h14, congrArg Value.bool (by rw [Bool.eq_iff_iff]; (try simp only [decide_eq_true_eq, decide_eq_false_iff_not] at g57); (try simp only [decide_eq_true_eq, decide_eq_false_iff_not] at g65); (try (cases c53; done)); all_goals simp only [manyB, Bool.or_eq_true, Bool.and_eq_true, decide_eq_true_eq, Bool.false_eq_true, false_iff]; all_goals omega), rfl⟩
  rintro e w ⟨h0, h4, h5, h6, h7, h12, h13, h14, h53, rfl⟩
  refine W.cond h53 (fun c53 => ?_) (fun c53 => ?_)
  ·try simp only [cs8] at c53
   refine W.seq ?_
   have hmany : manyB l[i] = true := by simpa using c53
   rw [if_pos hmany] at hres2
   refine W.region (WL.c rfl (o_mvh h5 (WL.c rfl (o_ash vI (WL.c rfl (o_ash vI (WL.nil (W.ret (ret2v rfl vI vI ?_)))))))))
   rw [hres2]
   exact ⟨rfl, hx⟩
  try simp only [cs8] at c53
  refine W.seq ?_
  have hmany : manyB l[i] = false := by simpa using c53
  rw [if_neg (by simp [hmany])] at hres2
  refine W.tail 5 rfl (by kernel_rfl) (WS.c rfl ((SO.o rfl (o_ldA TI41 rfl h6 (show Cells w c6 0 (exV l[i]) from Cells.of hC7 0 _ (by simp)) rfl ⟨rfl, rfl⟩))) (WS.c rfl ((SO.o rfl (o_mvh h7 ⟨rfl, rfl⟩))) (WS.c rfl ((SO.r (r_nil rfl))) (WS.c rfl ((SO.o rfl (o_fa 0 TI129 rfl TI3 rfl rfl ⟨rfl, rfl⟩))) (WS.c rfl ((SO.o rfl (o_ld TI3 rfl rfl (own_cell hown (j := 0 + S.length * 3 + 0) (by rw [Nat.zero_add]; exact opsR_get _ rfl)) ⟨rfl, rfl⟩))) (WS.nil ?_))))))
  have hxd := Only.drew w
  replace hx := hx.tr hxd
  replace hown := own_ext hown hxd
  replace hC7 := hxd.blk hC7 (fun h => h)
  clear hxd
  generalize w.drew = wd at *
  refine WL.c rfl (o_call Try.call77 (lc rfl (lc rfl ln)) ((right_spec l[i] o.kind _ (hln _ (List.getElem_mem hil)).1 (hln _ (List.getElem_mem hil)).2).mono ?_))
  rintro v77 w77 ⟨rfl, hx77⟩
  replace hx := hx.tr hx77
  replace hown := own_ext hown hx77
  replace hC7 := hx77.blk hC7 (fun h => h)
  refine WL.c rfl (o_not' rfl (WL.c rfl (o_ash vB (WL.nil (W.cond rfl (fun c71 => ?_) (fun c71 => ?_))))))
  ·try simp only [cs8] at c71
   have hright : rightB l[i] o.kind = false := by simpa using c71
   rw [if_pos hright] at hres2
   refine W.seq (W.region (WL.c rfl (o_mvh h5 (WL.c rfl (o_ash vI (WL.c rfl (o_ash vI (WL.nil (W.ret (ret2v rfl vI vI ?_))))))))))
   rw [hres2]
   exact ⟨rfl, hx⟩
  try simp only [cs8] at c71
  have hright : rightB l[i] o.kind = true := by simpa using c71
  rw [if_neg (by simp [hright])] at hres2
  have hkd := rightB_kids hright hmany
  refine W.skip (W.seq (W.region (WL.c rfl (o_mvh h7 (WL.c rfl (o_nil rfl (WL.c rfl (o_fa 1 TI129 rfl TI3 rfl rfl (WL.c rfl (o_ld TI3 rfl rfl (own_cell hown (j := 0 + S.length * 3 + 1) (by rw [Nat.zero_add]; exact opsR_get _ rfl)) (WL.c rfl (o_subi rfl rfl (by omega) (WL.c rfl (o_nil rfl (WL.c rfl (o_fa 1 TI129 rfl TI3 rfl rfl (WL.u (o_stRj (i := S.length * 3 + 1) TI3 rfl (by omega) (show _ = Value.int .i64 (o.left - 1) from rfl) rfl hown rfl (by omega) ?_))))))))))))))))))
  intro wA hown' hoA hsA
  replace hown : wA.ownsRow w0.heap.size 129 3 (Value.slice (some ⟨g, 0, none⟩) (S.length + 1) cap) (S.length + 1) (opsR ({ o with left := o.left - 1 } :: S)) := by rw [← opsR_set]; exact hown'
  clear hown'
  replace hC7 := hoA.blk hC7 (fun hk => hcg (by simpa [Value.ownBlock] using hk))
  have hgl := (hown.lt g rfl).1
  replace hx := hx.trans' hoA (fun _ h => h) (fun k hk he => by have := ob he; omega)
  refine WL.nil ?_
  obtain ⟨wd2, hwd⟩ : ∃ wd2, wd2 = wA.drew := ⟨_, rfl⟩
  have hxd : Ext wA wd2 := hwd ▸ Only.drew wA
  replace hx := hx.tr hxd
  replace hown := own_ext hown hxd
  replace hC7 := hxd.blk hC7 (fun h => h)
  refine W.drawT 12 (Ext) [(4, fun v _ => v = _), (6, fun v _ => v = _), (7, fun v _ => v = _), (0, fun v _ => v = _), (5, fun v _ => v = _), (12, fun v _ => v = _), (13, fun v _ => v = _), (14, fun v _ => v = _)] rfl (by kernel_rfl) (Only.refl No) (fun _ _ _ h k => h.trans k) ⟨Mono.eq, Mono.eq, Mono.eq, Mono.eq, Mono.eq, Mono.eq, Mono.eq, Mono.eq, trivial⟩ ⟨h4, h6, h7, h0, h5, h12, h13, h14, trivial⟩ (WD.p rfl (fun e w hR hh => by obtain ⟨h4, -⟩ := hh; exact SG.n (o_mvh h4 ⟨rfl, Only.refl No _⟩)) (WD.p rfl (fun e w hR hh => by obtain ⟨h6, -⟩ := hh; exact SG.n (o_fa 0 TI41 rfl TI3 rfl h6 ⟨rfl, Only.refl No _⟩)) (WD.p rfl (fun e w hR hh => by obtain ⟨h88, -⟩ := hh; rw [← hwd] at hR; exact SG.n (o_ld TI3 rfl h88 (cell_of (hR.blk hC7 (fun h => h)) rfl) ⟨rfl, Only.refl No _⟩)) (WD.p rfl (fun e w hR hh => by obtain ⟨h6, -⟩ := hh; exact SG.n (o_fa 5 TI41 rfl TI3 rfl h6 ⟨rfl, Only.refl No _⟩)) (WD.p rfl (fun e w hR hh => by obtain ⟨h90, -⟩ := hh; rw [← hwd] at hR; exact SG.n (o_ld TI3 rfl h90 (cell_of (hR.blk hC7 (fun h => h)) rfl) ⟨rfl, Only.refl No _⟩)) (WD.p rfl (fun e w hR hh => by obtain ⟨h7, -⟩ := hh; exact SG.n (o_mvh h7 ⟨rfl, Only.refl No _⟩)) (WD.p rfl (fun e w hR hh => by obtain ⟨h92, -⟩ := hh; exact SG.n (o_nil h92 ⟨rfl, Only.refl No _⟩)) (WD.p rfl (fun e w hR hh => by obtain ⟨h93, -⟩ := hh; exact SG.n (o_fa 2 TI129 rfl TI3 rfl h93 ⟨rfl, Only.refl No _⟩)) (WD.p rfl (fun e w hR hh => by obtain ⟨h94, -⟩ := hh; rw [← hwd] at hR; exact SG.n (o_ld TI3 rfl h94 (show w.cell? ⟨g, 0 + S.length * 3 + 2, none⟩ = some (.int .i64 o.deep) from own_cell (own_ext hown hR) (by rw [Nat.zero_add]; exact opsR_get _ rfl)) ⟨rfl, Only.refl No _⟩)) (WD.p rfl (fun e w hR hh => by obtain ⟨h95, -⟩ := hh; exact SG.n (o_addi h95 rfl (by omega) ⟨rfl, Only.refl No _⟩)) (WD.p rfl (fun e w hR hh => by obtain ⟨h96, h91, h89, -⟩ := hh; exact SG.n (o_bldC (cs := [_, _, _]) TI129 (Sizes.cons TI3 (Sizes.cons TI3 (Sizes.cons TI3 Sizes.nil))) rfl (lcp h89 (lcp h91 (lcp h96 lnp))) rfl rfl ⟨rfl, Only.refl No _⟩)) (WD.q (fun u w => w.ownsRow wd2.heap.size 129 3 u 1 (opV ⟨l[i].kind, l[i].kids, o.deep + 1⟩)) (fun u w w2 hR hh => own_ext hh hR) rfl (fun e w hR hh => by obtain ⟨h97, -⟩ := hh; rw [← hwd] at hR; exact SG.n (o_bs1 TI130 TI129 h97 (by decide) (by decide) rfl ⟨own_mono (own_new1 rfl) hR.size, Only.alloc w _⟩)) ?_))))))))))))
  rintro e w hR ⟨h98, h97, h96, h95, h94, h93, h92, h91, h90, h89, h88, h87, h4, h6, h7, h0, h5, h12, h13, h14, -⟩
  rw [← hwd] at hR
  replace hx := hx.tr hR
  replace hown := own_ext hown hR
  replace hC7 := hR.blk hC7 (fun h => h)
  refine WL.c rfl (o_apO (w0.heap.size) TI130 TI129 h87 rfl hown (Sl.own h98) rfl (by decide) (by simp [opV, Value.oneCell']) (by rw [maxLen_eq]; omega) (by omega) hx.size ?_)
  intro v99 w99 hown99 ho99 hb99 hk99
  have hrow : w99.ownsRow w0.heap.size 129 3 v99 (⟨l[i].kind, l[i].kids, o.deep + 1⟩ :: { o with left := o.left - 1 } :: S).length (opsR (⟨l[i].kind, l[i].kids, o.deep + 1⟩ :: { o with left := o.left - 1 } :: S)) := by rw [opsR_cons ⟨l[i].kind, l[i].kids, o.deep + 1⟩]; exact hown99
  replace hx := hx.trans' ho99 (fun _ h => h) (fun k hk he => by have := ob he; omega)
  have hok3 : OkS ({ o with left := o.left - 1 } :: S) := ⟨hdp, by show 0 ≤ o.left - 1; omega, by show o.left - 1 ≤ 64; omega, hok2⟩
  refine WL.c rfl (o_ash (by first | exact vS | exact rfl) (WL.nil (W.region (WL.c rfl (o_addi h14 rfl (by omega) (WL.c rfl (o_mvh vI (WL.nil (⟨⟨i + 1, _, _, by omega, h0, rfl, h12, h13, rfl, hrow, ⟨by simp only [List.length_cons]; omega, hkd.1, hkd.2, hok3⟩, by simp only [List.length_cons] at hdp ⊢; omega, ?_, hx⟩, ?_⟩)))))))))
  ·rw [hres, hlc, chkE_o hpz2, if_neg hdeep, if_neg (by simp [hmany]), if_neg (by simp [hright])]
  show l.length - ((i : Int) + 1).toNat < _
  rw [hm14]; simp [intOf]; omega
 try simp only [cs8] at c15
 have hil : i = l.length := by omega
 rw [hil, List.drop_length, chkE_nil] at hres
 refine W.exit (W.seq (W.seq (W.region (WL.c rfl (o_mvh h4 (WL.c rfl (o_lenR TI130 rfl (Sl.own hown) (WL.c rfl (o_mvh vI (WL.nil (W.block (W.loop (fun e w => ∃ k : Nat, k ≤ S0.length ∧ e 0 = v ∧ e 101 = sv0 ∧ e 102 = .int .i64 (S0.length : Int) ∧ e 103 = .int .i64 (k : Int) ∧ leftB S0 = leftB (S0.reverse.drop k).reverse ∧ w.ownsRow w0.heap.size 129 3 sv0 S0.length (opsR S0) ∧ Ext w0 w) (fun e w => S0.length - (intOf (e 103)).toNat) ?_ ?_))))))))))))
 ·exact ⟨0, Nat.zero_le _, h0, rfl, rfl, rfl, by rw [List.drop_zero, List.reverse_reverse], hown, hx⟩
 rintro e w ⟨k, hk, h0, h101, h102, h103, hlb, hown, hx⟩
 have hm103 := h103
 refine W.seq (W.region (WL.c rfl (o_lt h103 h102 (WL.nil (W.seq (W.cond rfl (fun c104 => ?_) (fun c104 => ?_)))))))
 ·try simp only [cs8] at c104
  have hk1 : k < S0.length := by omega
  obtain ⟨g, cap, rfl, hgb⟩ := own_some hown (by omega)
  have hcc := own_cellsAt hown k
  rw [ops_at hk1] at hcc
  refine W.skip (W.seq (W.block (W.seq (W.region (WL.c rfl (o_ixB TI130 TI129 h101 h103 (by omega) (WL.c rfl (o_ldA TI129 rfl rfl hcc rfl (WL.c rfl (o_alB TI129 ?_))))))))))
  intro w9 hC9 hx9 hs9
  refine WL.u (o_stA TI129 rfl (show _ = Value.agg (opV (S0.reverse[k]'(by simpa using hk1))).toArray from rfl) rfl rfl hC9 rfl ?_)
  intro wb hCb hob hsb
  have hxb := Ext.own hx9 (Nat.le_refl _) hob
  clear hC9 hx9 hs9 hob hsb hcc
  replace hown := own_ext hown hxb
  replace hx := hx.tr hxb
  refine WL.nil (W.seq (W.region (WL.c rfl (o_fa 1 TI129 rfl TI3 rfl rfl (WL.c rfl (o_ld TI3 rfl rfl (cell_of hCb rfl) (WL.c rfl (o_gt rfl rfl (WL.nil (W.cond rfl (fun c109 => ?_) (fun c109 => ?_)))))))))))
  ·try simp only [cs8] at c109
   have hnl : 0 < (S0.reverse[k]'(by simpa using hk1)).left := by omega
   rw [hlb, leftB_at _ _ hk1, decide_eq_true hnl, Bool.true_or, if_pos rfl] at hres
   refine W.seq (W.region (WL.c rfl (o_mvh h0 (WL.c rfl (o_lenR TI37 rfl (hS0.ext hx) (WL.c rfl (o_ash vI (WL.c rfl (o_ash vI (WL.nil (W.ret (ret2v rfl vI vI ?_))))))))))))
   rw [hres]
   exact ⟨rfl, hx⟩
  try simp only [cs8] at c109
  have hnl : ¬ 0 < (S0.reverse[k]'(by simpa using hk1)).left := by omega
  refine W.skip (W.region (WL.c rfl (o_addi h103 rfl (by omega) (WL.c rfl (o_mvh vI (WL.nil (⟨⟨k + 1, by omega, h0, h101, h102, rfl, ?_, hown, hx⟩, ?_⟩)))))))
  ·rw [hlb, leftB_at _ _ hk1, decide_eq_false hnl, Bool.false_or]
  show S0.length - ((k : Int) + 1).toNat < _
  rw [hm103]; simp [intOf]; omega
 try simp only [cs8] at c104
 have hk1 : k = S0.length := by omega
 rw [hk1, show (S0.reverse.drop S0.length).reverse = [] by simp] at hlb
 rw [hlb, if_neg (by simp [leftB])] at hres
 refine W.exit (W.seq (W.region (WL.c rfl (o_ash vI (WL.c rfl (o_ash vI (WL.nil (W.ret (ret2v rfl vI vI ?_)))))))))
 rw [hres]
 exact ⟨rfl, hx⟩
end Go.Proofs.Ytpbflfgigfdohaa

namespace Go.Proofs.Ytpbflfgigfdohaa
open Go Go.Vc Go.RowKit Go.Proofs

theorem fm_at {α : Type} {f : α → List Value} {s : Nat} (hs : ∀ a, (f a).length = s) (ts : List α) : ∀ (k : Nat) (hk : k < ts.length), ((ts.flatMap f).drop (k * s)).take s = f ts[k] := by
 induction ts with
 | nil => intro k hk; simp at hk
 | cons t ts ih =>
  intro k hk
  cases k with
  | zero => rw [Nat.zero_mul, List.drop_zero, List.flatMap_cons]; exact List.take_left' (hs t)
  | succ k =>
   have h1 : (k + 1) * s - (f t).length = k * s := by rw [hs, Nat.succ_mul]; omega
   have h2 : (f t).length ≤ (k + 1) * s := by rw [hs, Nat.succ_mul]; omega
   have := ih k (by simpa using hk)
   rw [List.flatMap_cons, List.drop_append, List.drop_eq_nil_of_le h2, List.nil_append, h1]
   exact this
theorem drows_at (D : List Df) (V : Nat → Value) {k : Nat} (hk : k < D.length) : ((drows D V).drop (k * 3)).take 3 = dcell (D.getD k df0) (V k) := by
 have h := fm_at (f := fun j => dcell (D.getD j df0) (V j)) (s := 3) (fun _ => rfl) (List.range D.length) k (by simpa using hk)
 rw [drows, h, List.getElem_range]
/-- definitions that are read -/
structure DefR (w : World) (D : List Df) (dv : Value) (V : Nat → Value) : Prop where
 row : Sl w 3 dv D.length (drows D V)
 tys : ∀ j, j < D.length → Sl w 7 (V j) (tyD D j).length (exs (tyD D j))
theorem DefR.only {w w' : World} {D : List Df} {dv : Value} {V : Nat → Value} {F : Nat → Prop} (h : DefR w D dv V) (ho : Only F w w') (hn : ∀ k, DF dv V D.length k → ¬ F k) : DefR w' D dv V :=
 ⟨h.row.only ho (fun k hk => hn k (.inl hk)), fun j hj => (h.tys j hj).only ho (fun k hk => hn k (.inr ⟨j, hj, hk⟩))⟩
theorem DefR.ext {w w' : World} {D : List Df} {dv : Value} {V : Nat → Value} (h : DefR w D dv V) (ho : Ext w w') : DefR w' D dv V := h.only ho (fun _ _ h => h)
theorem Defs.rd {w : World} {H : Nat} {D : List Df} {dv : Value} {V : Nat → Value} (h : Defs w H D dv V) : DefR w D dv V := ⟨Sl.own h.row, fun j hj => Sl.own (h.tys.row j hj)⟩
theorem DefR.at {w : World} {D : List Df} {dv : Value} {V : Nat → Value} (h : DefR w D dv V) {k : Nat} (hk : k < D.length) : ∃ b o c, dv = .slice (some ⟨b, o, none⟩) D.length c ∧ Cells w b (o + k * 3) (dcell (D.getD k df0) (V k)) := by
 rcases h.row.val with ⟨hz, h0⟩ | ⟨b, o, c, rfl, hnc, hc⟩
 ·omega
 exact ⟨b, o, c, rfl, by rw [← drows_at D V hk]; exact hc.sub _ _⟩
theorem sl_one1 {w : World} {s : Nat} {v : Value} {n : Nat} {xs : List Value} (h : Sl w s v n xs) : v.oneCell' = true := by
 obtain ⟨a, c, rfl⟩ := h.isSlice
 rfl
/-- names and numbers that a machine can hold -/
def DLim (D : List Df) : Prop := ∀ d ∈ D, d.name.length ≤ 9223372036854775807 ∧ d.ty.length ≤ 4611686018427387904 ∧ ∀ x ∈ d.ty, x.name.length ≤ 9223372036854775807 ∧ x.label.length ≤ 9223372036854775807
def chkT (l : List Ex) : Nat × Nat := chkE [⟨0, 1, 0⟩] 0 l
def chkA : Nat → List Df → Nat × Nat × Nat
 | _, [] => (0, 0, 0)
 | i, d :: ds => if nameB d.name = false then (i, 0, 62) else if (chkT d.ty).2 = 0 then chkA (i + 1) ds else (i, chkT d.ty)
def chkS (D : List Df) : Nat × Nat × Nat := if 256 < D.length then (256, 0, 5) else chkA 0 D
theorem chkA_nil {i : Nat} : chkA i [] = (0, 0, 0) := rfl
theorem chkA_cons {i : Nat} {d : Df} {ds : List Df} : chkA i (d :: ds) = if nameB d.name = false then (i, 0, 62) else if (chkT d.ty).2 = 0 then chkA (i + 1) ds else (i, chkT d.ty) := rfl
def rs3 (r : Nat × Nat × Nat) : Value := .tuple #[.int .i64 (r.1 : Int), .int .i64 (r.2.1 : Int), .int .i64 (r.2.2 : Int)]

set_option maxHeartbeats 2000000 in
theorem check_spec (D : List Df) (dv : Value) (V : Nat → Value) (w0 : World) (hD : DefR w0 D dv V) (hlim : DLim D) : Ca Try.prog 28 #[.agg #[dv]] w0 (fun r w' => r = rs3 (chkS D) ∧ Ext w0 w') := by
 refine Ca.of Try.func28 Try.ntmps28 rfl rfl (W.seq (W.region (WL.c rfl (o_boxB rfl ?_))))
 intro w1 hC1 hx1 hs1
 have hx := hx1
 replace hC1 : w1.heap[w0.heap.size]? = some (.cells #[dv] 25 (0, 0)) := hC1
 obtain ⟨c1, hc1⟩ : ∃ c, c = w0.heap.size := ⟨_, rfl⟩
 rw [← hc1] at hC1 ⊢
 replace hD := hD.ext hx1
 refine WL.c rfl (o_ash vI (WL.c rfl (o_ash vI (WL.c rfl (o_ash vI (WL.nil (W.seq (W.seq (W.region (WL.c rfl (o_fa 0 TI25 rfl TI23 rfl rfl (WL.c rfl (o_ld TI23 rfl rfl (cell_of hC1 rfl) (WL.c rfl (o_lenR TI23 rfl hD.row (WL.c rfl (o_gt rfl rfl (WL.nil (W.cond rfl (fun c12 => ?_) (fun c12 => ?_))))))))))))))))))))
 ·try simp only [cs8] at c12
  have hn : 256 < D.length := by omega
  refine W.seq (W.region (WL.c rfl (o_ash vI (WL.c rfl (o_ash vI (WL.c rfl (o_ash vI (WL.nil (W.ret (ret3v rfl vI vI vI ?_))))))))))
  exact ⟨by rw [chkS, if_pos hn]; rfl, hx⟩
 try simp only [cs8] at c12
 have hn : ¬ 256 < D.length := by omega
 refine W.skip (W.seq (W.seq (W.region (WL.c rfl (o_fa 0 TI25 rfl TI23 rfl rfl (WL.c rfl (o_ld TI23 rfl rfl (cell_of hC1 rfl) (WL.c rfl (o_lenR TI23 rfl hD.row (WL.c rfl (o_mvh vI (WL.nil (W.block (W.loop (fun e w => ∃ i : Nat, i ≤ D.length ∧ e 14 = dv ∧ e 15 = .int .i64 (D.length : Int) ∧ e 16 = .int .i64 (i : Int) ∧ chkS D = chkA i (D.drop i) ∧ DefR w D dv V ∧ Ext w0 w) (fun e w => D.length - (intOf (e 16)).toNat) ?_ ?_))))))))))))))
 ·exact ⟨0, Nat.zero_le _, rfl, rfl, rfl, by rw [chkS, if_neg hn]; rfl, hD, hx⟩
 rintro e w ⟨i, hi, h14, h15, h16, hres, hD, hx⟩
 have hm16 := h16
 refine W.seq (W.region (WL.c rfl (o_lt h16 h15 (WL.nil (W.seq (W.cond rfl (fun c17 => ?_) (fun c17 => ?_)))))))
 ·try simp only [cs8] at c17
  have hil : i < D.length := by omega
  obtain ⟨tb, to_, tc, rfl, htc⟩ := hD.at hil
  have htd : tyD D i = D[i].ty := by simp [tyD, List.getD_eq_getElem?_getD, hil]
  have hty := hD.tys i hil
  rw [htd] at hty
  rw [show D.getD i df0 = D[i] by simp [List.getD_eq_getElem?_getD, hil]] at htc
  have hdr : D.drop i = D[i] :: D.drop (i + 1) := (List.getElem_cons_drop hil).symm
  have hli := hlim _ (List.getElem_mem hil)
  refine W.skip (W.seq (W.block (W.seq (W.region (WL.c rfl (o_mvh h16 (WL.c rfl (o_ixB TI23 TI39 h14 h16 (by omega) (WL.c rfl (o_ldA TI39 rfl rfl htc rfl (WL.c rfl (o_alB TI39 ?_))))))))))))
  intro w6 hC6 hx6 hs6
  refine WL.c rfl (o_ash vI (WL.u (o_stA TI39 rfl (show _ = Value.agg (dcell D[i] (V i)).toArray from rfl) rfl (by simp only [dcell, List.toArray, Array.toList, List.all_cons, List.all_nil, sl_one1 hty]; rfl) hC6 rfl ?_)))
  intro w7 hC7 ho7 hs7
  have hxb := Ext.own hx6 (Nat.le_refl _) ho7
  clear hC6 hx6 hs6 ho7 hs7 htc
  replace hx := hx.tr hxb
  replace hD := hD.ext hxb
  replace hty := hty.ext hxb
  obtain ⟨c6, hc6⟩ : ∃ c, c = w.heap.size := ⟨_, rfl⟩
  rw [← hc6] at hC7 ⊢
  refine WL.nil (W.seq (W.seq (W.region (WL.c rfl (o_fa 0 TI39 rfl TI9 rfl rfl (WL.c rfl (o_ld TI9 rfl rfl (cell_of hC7 rfl) (WL.c rfl (o_call Try.call34 (lc rfl ln) ((name_spec D[i].name _ hli.1).mono ?_))))))))))
  rintro v23 w23 ⟨rfl, rfl⟩
  refine WL.c rfl (o_not' rfl (WL.nil (W.cond rfl (fun c24 => ?_) (fun c24 => ?_))))
  ·try simp only [cs8] at c24
   have hnm : nameB D[i].name = false := by simpa using c24
   refine W.seq (W.region (WL.c rfl (o_mvh vI (WL.c rfl (o_ash vI (WL.c rfl (o_ash vI (WL.c rfl (o_ash vI (WL.nil (W.ret (ret3v rfl vI vI vI ?_))))))))))))
   rw [hres, hdr, chkA_cons, if_pos hnm]
   exact ⟨rfl, hx⟩
  try simp only [cs8] at c24
  have hnm : nameB D[i].name = true := by simpa using c24
  refine W.skip (W.seq (W.region (WL.c rfl (o_fa 2 TI39 rfl TI37 rfl rfl (WL.c rfl (o_ld TI37 rfl rfl (cell_of hC7 rfl) (WL.c rfl (o_call Try.call54 (lc rfl ln) ((checked_spec D[i].ty (V i) _ hty hli.2.1 hli.2.2).mono ?_)))))))))
  rintro v29 w29 ⟨rfl, hx29⟩
  replace hx := hx.tr hx29
  replace hD := hD.ext hx29
  refine WL.c rfl (o_mvh (by first | exact (show _ = Value.tuple _ from rfl) | exact rfl) (WL.c rfl (o_ext rfl rfl (WL.c rfl (o_ext rfl rfl (WL.c rfl (o_ash vI (WL.c rfl (o_ash vI (WL.nil (W.seq (W.region (WL.c rfl (o_mvh vI (WL.c rfl (o_ne rfl rfl (WL.nil (W.cond rfl (fun c33 => ?_) (fun c33 => ?_)))))))))))))))))))
  ·try simp only [cs8] at c33
   have hce : ¬ (chkT D[i].ty).2 = 0 := by have : (chkT D[i].ty).2 = (chkE [⟨0, 1, 0⟩] 0 D[i].ty).2 := rfl; omega
   refine W.seq (W.region (WL.c rfl (o_mvh vI (WL.c rfl (o_mvh vI (WL.c rfl (o_mvh vI (WL.c rfl (o_ash vI (WL.c rfl (o_ash vI (WL.c rfl (o_ash vI (WL.nil (W.ret (ret3v rfl vI vI vI ?_))))))))))))))))
   rw [hres, hdr, chkA_cons, if_neg (by simp [hnm]), if_neg hce]
   exact ⟨rfl, hx⟩
  try simp only [cs8] at c33
  have hce : (chkT D[i].ty).2 = 0 := by have : (chkT D[i].ty).2 = (chkE [⟨0, 1, 0⟩] 0 D[i].ty).2 := rfl; omega
  refine W.skip (W.region (WL.c rfl (o_addi h16 rfl (by omega) (WL.c rfl (o_mvh vI (WL.nil (⟨⟨i + 1, by omega, h14, h15, rfl, ?_, hD, hx⟩, ?_⟩)))))))
  ·rw [hres, hdr, chkA_cons, if_neg (by simp [hnm]), if_pos hce]
  show D.length - ((i : Int) + 1).toNat < _
  rw [hm16]; simp [intOf]; omega
 try simp only [cs8] at c17
 have hil : i = D.length := by omega
 rw [hil, List.drop_length, chkA_nil] at hres
 refine W.exit (W.seq (W.region (WL.c rfl (o_ash vI (WL.c rfl (o_ash vI (WL.c rfl (o_ash vI (WL.nil (W.ret (ret3v rfl vI vI vI ?_)))))))))))
 rw [hres]
 exact ⟨rfl, hx⟩
end Go.Proofs.Ytpbflfgigfdohaa

namespace Go.Proofs.Ytpbflfgigfdohaa
open Go Go.Vc Go.RowKit Go.Proofs

theorem chkE_pz0 {a b : Int} {S : List Opn} {i : Nat} {l : List Ex} : chkE (⟨a, 0, b⟩ :: S) i l = chkE S i l := by
 cases l with
 | nil => rfl
 | cons x xs => rw [chkE_cons, chkE_cons, popZ_z rfl]
end Go.Proofs.Ytpbflfgigfdohaa

namespace Go.Proofs.Ytpbflfgigfdohaa
open Go Go.Vc Go.RowKit Go.Proofs

theorem tyD_at {D : List Df} {k : Nat} (hk : k < D.length) : tyD D k = D[k].ty := by simp [tyD, List.getD_eq_getElem?_getD, hk]
theorem getD_at {D : List Df} {k : Nat} (hk : k < D.length) : D.getD k df0 = D[k] := by simp [List.getD_eq_getElem?_getD, hk]
theorem DefR.atk {w : World} {D : List Df} {dv : Value} {V : Nat → Value} (h : DefR w D dv V) {k : Nat} (hk : k < D.length) : ∃ b o c, dv = .slice (some ⟨b, o, none⟩) D.length c ∧ Cells w b (o + k * 3) (dcell D[k] (V k)) ∧ Sl w 7 (V k) D[k].ty.length (exs D[k].ty) := by
 obtain ⟨b, o, c, h1, h2⟩ := h.at hk
 have h3 := h.tys k hk
 rw [getD_at hk] at h2
 rw [tyD_at hk] at h3
 exact ⟨b, o, c, h1, h2, h3⟩

end Go.Proofs.Ytpbflfgigfdohaa

namespace Go.Proofs.Ytpbflfgigfdohaa
open Go Go.Vc Go.RowKit Go.Proofs

def drowsK (D : List Df) (V : Nat → Value) (k : Nat) : List Value := (List.range k).flatMap fun j => dcell (D.getD j df0) (V j)
theorem drowsK_succ (D : List Df) (V : Nat → Value) {k : Nat} (v : Value) : drowsK D (fun j => if j = k then v else V j) (k + 1) = drowsK D V k ++ dcell (D.getD k df0) v := by
 rw [drowsK, List.range_succ, List.flatMap_append, List.flatMap_singleton, if_pos rfl]
 congr 1
 refine dfm_congr fun j hj => ?_
 have hj := List.mem_range.1 hj
 rw [if_neg (by omega)]
/-- sizes that a machine can hold -/
structure DOk (D : List Df) : Prop where
 len : D.length * 48 ≤ 140737488351232
 ty : ∀ d ∈ D, d.ty.length * 72 ≤ 140737488351232
 nm : ∀ d ∈ D, d.name.length ≤ 9223372036854775807
 ex : ∀ d ∈ D, ∀ x ∈ d.ty, x.name.length ≤ 9223372036854775807 ∧ x.label.length ≤ 9223372036854775807
theorem DOk.lim {D : List Df} (h : DOk D) : DLim D := fun d hd => ⟨h.nm d hd, by have := h.ty d hd; omega, h.ex d hd⟩
theorem one_exs (L : List Ex) : ∀ a ∈ exs L, a.oneCell' = true := by
 intro a ha
 obtain ⟨x, -, hx⟩ := List.mem_flatMap.1 ha
 have : ∀ a ∈ exV x, a.oneCell' = true := by simp [exV, Value.oneCell', st]
 exact this a hx
end Go.Proofs.Ytpbflfgigfdohaa

namespace Go.Proofs.Ytpbflfgigfdohaa
open Go Go.Vc Go.RowKit Go.Proofs

def rgtB (x : Ex) : Bool := okB x && namB x
def plcB (x : Ex) (above : Int) : Bool := labB x above && tagB x above
theorem rightB_two (x : Ex) (above : Int) : rightB x above = (rgtB x && plcB x above) := by simp only [rightB, rgtB, plcB, Bool.and_assoc]
theorem chkE_pz {z : Opn} {S : List Opn} {i : Nat} {l : List Ex} (h : z.left = 0) : chkE (z :: S) i l = chkE S i l := by
 cases l with
 | nil => rw [chkE_nil, chkE_nil, leftB, List.any_cons, h]; rfl
 | cons x xs => rw [chkE_cons, chkE_cons, popZ_z h]

set_option maxHeartbeats 2000000 in
theorem rright_spec (x : Ex) (w0 : World) (hn : x.name.length ≤ 9223372036854775807) : Ca Try.prog 85 #[.agg (exV x).toArray] w0 (fun v w' => v = .bool (rgtB x) ∧ Ext w0 w') := by
 refine Ca.of Try.func85 Try.ntmps85 rfl rfl (W.seq (W.region (WL.c rfl (o_boxB rfl ?_))))
 intro w1 hC1 hx hs1
 obtain ⟨c1, hc1⟩ : ∃ c, c = w0.heap.size := ⟨_, rfl⟩
 rw [← hc1] at hC1 ⊢
 replace hC1 : w1.heap[c1]? = some (.cells (exV x).toArray 41 (0, 0)) := hC1
 refine WL.c rfl (o_ash vB (WL.nil (W.seq (W.region (WL.c rfl (o_fa 2 TI41 rfl TI9 rfl rfl (WL.c rfl (o_ld TI9 rfl rfl (cell_of hC1 rfl) (WL.c rfl (o_eqT rfl rfl (WL.c rfl (o_ash vB (WL.nil (W.seq (W.seq (W.region (WL.c rfl (o_fa 0 TI41 rfl TI3 rfl rfl (WL.c rfl (o_ld TI3 rfl rfl (cell_of hC1 rfl) (WL.nil (W.block (W.seq (W.region (WL.c rfl (o_eq rfl rfl (WL.c rfl (o_ash vB (WL.nil (W.cond rfl (fun c9 => ?_) (fun c9 => ?_)))))))))))))))))))))))))))))))
 ·try simp only [cs8] at c9
  refine W.seq (W.region (WL.c rfl (o_mvh vB (WL.c rfl (o_mvh vB (WL.sp 1 rfl (fun g12 => ?_) (fun g12 => ?_)))))))
  ·skip
   refine WL.g rfl (g12) rfl (o_fa 5 TI41 rfl TI3 rfl rfl (WL.g rfl (g12) rfl (o_ld TI3 rfl rfl (cell_of hC1 rfl) (WL.g rfl (g12) rfl (o_eq rfl rfl (WL.c rfl (o_pickA rfl rfl (WL.c rfl (o_mvh vB (WL.sp 6 rfl (fun g17 => ?_) (fun g17 => ?_)))))))))))
   ·skip
    refine WL.g rfl (g17) rfl (o_fa 1 TI41 rfl TI3 rfl rfl (WL.g rfl (g17) rfl (o_ld TI3 rfl rfl (cell_of hC1 rfl) (WL.g rfl (g17) rfl (o_eq rfl rfl (WL.g rfl (g17) rfl (o_mvh vB (WL.sp 10 rfl (fun g21 => ?_) (fun g21 => ?_)))))))))
    ·skip
     refine WL.s rfl (g21) rfl (WL.s rfl (g21) rfl (WL.s rfl (g21) rfl (WL.g rfl (g17) rfl (o_pickT rfl (g21) (WL.g rfl (g17) rfl (o_mvh vB (WL.s rfl (rfl) rfl (WL.s rfl (rfl) rfl (WL.s rfl (rfl) rfl (WL.g rfl (g17) rfl (o_pickT rfl (rfl) (WL.g rfl (g17) rfl (o_mvh vB (WL.s rfl (rfl) rfl (WL.s rfl (rfl) rfl (WL.s rfl (rfl) rfl (WL.g rfl (g17) rfl (o_pickT rfl (rfl) (WL.c rfl (o_pickA rfl rfl (WL.c rfl (o_ash vB (WL.nil (W.ret (ret1v rfl vB ?_)))))))))))))))))))))))))
     exact ⟨congrArg Value.bool (by rw [Bool.eq_iff_iff]; simp_all [rgtB, okB, namB, nameB_nil] <;> omega), hx⟩
    skip
    refine WL.g rfl (g21) rfl (o_fa 1 TI41 rfl TI3 rfl rfl (WL.g rfl (g21) rfl (o_ld TI3 rfl rfl (cell_of hC1 rfl) (WL.g rfl (g21) rfl (o_eq rfl rfl (WL.g rfl (g17) rfl (o_pickO rfl rfl (WL.g rfl (g17) rfl (o_mvh vB (WL.sp 15 rfl (fun g26 => ?_) (fun g26 => ?_)))))))))))
    ·skip
     refine WL.s rfl (g26) rfl (WL.s rfl (g26) rfl (WL.s rfl (g26) rfl (WL.g rfl (g17) rfl (o_pickT rfl (g26) (WL.g rfl (g17) rfl (o_mvh vB (WL.s rfl (rfl) rfl (WL.s rfl (rfl) rfl (WL.s rfl (rfl) rfl (WL.g rfl (g17) rfl (o_pickT rfl (rfl) (WL.c rfl (o_pickA rfl rfl (WL.c rfl (o_ash vB (WL.nil (W.ret (ret1v rfl vB ?_))))))))))))))))))
     exact ⟨congrArg Value.bool (by rw [Bool.eq_iff_iff]; simp_all [rgtB, okB, namB, nameB_nil] <;> omega), hx⟩
    skip
    refine WL.g rfl (g26) rfl (o_fa 1 TI41 rfl TI3 rfl rfl (WL.g rfl (g26) rfl (o_ld TI3 rfl rfl (cell_of hC1 rfl) (WL.g rfl (g26) rfl (o_eq rfl rfl (WL.g rfl (g17) rfl (o_pickO rfl rfl (WL.g rfl (g17) rfl (o_mvh vB (WL.sp 20 rfl (fun g31 => ?_) (fun g31 => ?_)))))))))))
    ·skip
     refine WL.s rfl (g31) rfl (WL.s rfl (g31) rfl (WL.s rfl (g31) rfl (WL.g rfl (g17) rfl (o_pickT rfl (g31) (WL.c rfl (o_pickA rfl rfl (WL.c rfl (o_ash vB (WL.nil (W.ret (ret1v rfl vB ?_)))))))))))
     exact ⟨congrArg Value.bool (by rw [Bool.eq_iff_iff]; simp_all [rgtB, okB, namB, nameB_nil] <;> omega), hx⟩
    skip
    refine WL.g rfl (g31) rfl (o_fa 1 TI41 rfl TI3 rfl rfl (WL.g rfl (g31) rfl (o_ld TI3 rfl rfl (cell_of hC1 rfl) (WL.g rfl (g31) rfl (o_eq rfl rfl (WL.g rfl (g17) rfl (o_pickO rfl rfl (WL.c rfl (o_pickA rfl rfl (WL.c rfl (o_ash vB (WL.nil (W.ret (ret1v rfl vB ?_))))))))))))))
    exact ⟨congrArg Value.bool (by rw [Bool.eq_iff_iff]; simp_all [rgtB, okB, namB, nameB_nil] <;> omega), hx⟩
   skip
   refine WL.s rfl (g17) rfl (WL.s rfl (g17) rfl (WL.s rfl (g17) rfl (WL.s rfl (g17) rfl (WL.z rfl rfl (WL.z rfl rfl (WL.z rfl rfl (WL.s rfl (g17) rfl (WL.s rfl (g17) rfl (WL.z rfl rfl (WL.z rfl rfl (WL.z rfl rfl (WL.s rfl (g17) rfl (WL.s rfl (g17) rfl (WL.z rfl rfl (WL.z rfl rfl (WL.z rfl rfl (WL.s rfl (g17) rfl (WL.c rfl (o_pickF rfl (g17) (WL.c rfl (o_ash vB (WL.nil (W.ret (ret1v rfl vB ?_))))))))))))))))))))))))
   exact ⟨congrArg Value.bool (by rw [Bool.eq_iff_iff]; simp_all [rgtB, okB, namB, nameB_nil] <;> omega), hx⟩
  skip
  refine WL.s rfl (g12) rfl (WL.s rfl (g12) rfl (WL.s rfl (g12) rfl (WL.c rfl (o_pickF rfl (g12) (WL.c rfl (o_mvh vB (WL.s rfl (rfl) rfl (WL.s rfl (rfl) rfl (WL.s rfl (rfl) rfl (WL.s rfl (rfl) rfl (WL.z rfl rfl (WL.z rfl rfl (WL.z rfl rfl (WL.s rfl (rfl) rfl (WL.s rfl (rfl) rfl (WL.z rfl rfl (WL.z rfl rfl (WL.z rfl rfl (WL.s rfl (rfl) rfl (WL.s rfl (rfl) rfl (WL.z rfl rfl (WL.z rfl rfl (WL.z rfl rfl (WL.s rfl (rfl) rfl (WL.c rfl (o_pickF rfl (rfl) (WL.c rfl (o_ash vB (WL.nil (W.ret (ret1v rfl vB ?_)))))))))))))))))))))))))))))))
  exact ⟨congrArg Value.bool (by rw [Bool.eq_iff_iff]; simp_all [rgtB, okB, namB, nameB_nil] <;> omega), hx⟩
 try simp only [cs8] at c9
 refine W.seq (W.seq (W.region (WL.c rfl (o_eq rfl rfl (WL.c rfl (o_ash vB (WL.nil (W.cond rfl (fun c37 => ?_) (fun c37 => ?_)))))))))
 ·try simp only [cs8] at c37
  refine W.skip (W.cond rfl (fun c37 => ?_) (fun c37 => ?_))
  ·try simp only [cs8] at c37
   refine W.seq (W.region (WL.c rfl (o_mvh vB (WL.c rfl (o_mvh vB (WL.sp 1 rfl (fun g41 => ?_) (fun g41 => ?_)))))))
   ·skip
    refine WL.g rfl (g41) rfl (o_fa 5 TI41 rfl TI3 rfl rfl (WL.g rfl (g41) rfl (o_ld TI3 rfl rfl (cell_of hC1 rfl) (WL.g rfl (g41) rfl (o_eq rfl rfl (WL.c rfl (o_pickA rfl rfl (WL.c rfl (o_mvh vB (WL.sp 6 rfl (fun g46 => ?_) (fun g46 => ?_)))))))))))
    ·skip
     refine WL.g rfl (g46) rfl (o_fa 1 TI41 rfl TI3 rfl rfl (WL.g rfl (g46) rfl (o_ld TI3 rfl rfl (cell_of hC1 rfl) (WL.g rfl (g46) rfl (o_eq rfl rfl (WL.c rfl (o_pickA rfl rfl (WL.c rfl (o_ash vB (WL.nil (W.ret (ret1v rfl vB ?_))))))))))))
     exact ⟨congrArg Value.bool (by rw [Bool.eq_iff_iff]; simp_all [rgtB, okB, namB, nameB_nil] <;> omega), hx⟩
    skip
    refine WL.s rfl (g46) rfl (WL.s rfl (g46) rfl (WL.s rfl (g46) rfl (WL.c rfl (o_pickF rfl (g46) (WL.c rfl (o_ash vB (WL.nil (W.ret (ret1v rfl vB ?_)))))))))
    exact ⟨congrArg Value.bool (by rw [Bool.eq_iff_iff]; simp_all [rgtB, okB, namB, nameB_nil] <;> omega), hx⟩
   skip
   refine WL.s rfl (g41) rfl (WL.s rfl (g41) rfl (WL.s rfl (g41) rfl (WL.c rfl (o_pickF rfl (g41) (WL.c rfl (o_mvh vB (WL.s rfl (rfl) rfl (WL.s rfl (rfl) rfl (WL.s rfl (rfl) rfl (WL.c rfl (o_pickF rfl (rfl) (WL.c rfl (o_ash vB (WL.nil (W.ret (ret1v rfl vB ?_))))))))))))))))
   exact ⟨congrArg Value.bool (by rw [Bool.eq_iff_iff]; simp_all [rgtB, okB, namB, nameB_nil] <;> omega), hx⟩
  try simp only [cs8] at c37
  refine W.seq (W.seq (W.region (WL.c rfl (o_eq rfl rfl (WL.c rfl (o_ash vB (WL.nil (W.cond rfl (fun c51 => ?_) (fun c51 => ?_)))))))))
  ·try simp only [cs8] at c51
   refine W.skip (W.cond rfl (fun c51 => ?_) (fun c51 => ?_))
   ·try simp only [cs8] at c51
    refine W.seq (W.region (WL.c rfl (o_mvh vB (WL.c rfl (o_mvh vB (WL.sp 1 rfl (fun g55 => ?_) (fun g55 => ?_)))))))
    ·skip
     refine WL.g rfl (g55) rfl (o_fa 5 TI41 rfl TI3 rfl rfl (WL.g rfl (g55) rfl (o_ld TI3 rfl rfl (cell_of hC1 rfl) (WL.g rfl (g55) rfl (o_eq rfl rfl (WL.c rfl (o_pickA rfl rfl (WL.c rfl (o_mvh vB (WL.sp 6 rfl (fun g60 => ?_) (fun g60 => ?_)))))))))))
     ·skip
      refine WL.g rfl (g60) rfl (o_fa 1 TI41 rfl TI3 rfl rfl (WL.g rfl (g60) rfl (o_ld TI3 rfl rfl (cell_of hC1 rfl) (WL.g rfl (g60) rfl (o_ge rfl rfl (WL.c rfl (o_pickA rfl rfl (WL.c rfl (o_mvh vB (WL.sp 11 rfl (fun g65 => ?_) (fun g65 => ?_)))))))))))
      ·skip
       refine WL.g rfl (g65) rfl (o_fa 1 TI41 rfl TI3 rfl rfl (WL.g rfl (g65) rfl (o_ld TI3 rfl rfl (cell_of hC1 rfl) (WL.g rfl (g65) rfl (o_le rfl rfl (WL.c rfl (o_pickA rfl rfl (WL.c rfl (o_ash vB (WL.nil (W.ret (ret1v rfl vB ?_))))))))))))
       exact ⟨congrArg Value.bool (by rw [Bool.eq_iff_iff]; simp_all [rgtB, okB, namB, nameB_nil] <;> omega), hx⟩
      skip
      refine WL.s rfl (g65) rfl (WL.s rfl (g65) rfl (WL.s rfl (g65) rfl (WL.c rfl (o_pickF rfl (g65) (WL.c rfl (o_ash vB (WL.nil (W.ret (ret1v rfl vB ?_)))))))))
      exact ⟨congrArg Value.bool (by rw [Bool.eq_iff_iff]; simp_all [rgtB, okB, namB, nameB_nil] <;> omega), hx⟩
     skip
     refine WL.s rfl (g60) rfl (WL.s rfl (g60) rfl (WL.s rfl (g60) rfl (WL.c rfl (o_pickF rfl (g60) (WL.c rfl (o_mvh vB (WL.s rfl (rfl) rfl (WL.s rfl (rfl) rfl (WL.s rfl (rfl) rfl (WL.c rfl (o_pickF rfl (rfl) (WL.c rfl (o_ash vB (WL.nil (W.ret (ret1v rfl vB ?_))))))))))))))))
     exact ⟨congrArg Value.bool (by rw [Bool.eq_iff_iff]; simp_all [rgtB, okB, namB, nameB_nil] <;> omega), hx⟩
    skip
    refine WL.s rfl (g55) rfl (WL.s rfl (g55) rfl (WL.s rfl (g55) rfl (WL.c rfl (o_pickF rfl (g55) (WL.c rfl (o_mvh vB (WL.s rfl (rfl) rfl (WL.s rfl (rfl) rfl (WL.s rfl (rfl) rfl (WL.c rfl (o_pickF rfl (rfl) (WL.c rfl (o_mvh vB (WL.s rfl (rfl) rfl (WL.s rfl (rfl) rfl (WL.s rfl (rfl) rfl (WL.c rfl (o_pickF rfl (rfl) (WL.c rfl (o_ash vB (WL.nil (W.ret (ret1v rfl vB ?_)))))))))))))))))))))))
    exact ⟨congrArg Value.bool (by rw [Bool.eq_iff_iff]; simp_all [rgtB, okB, namB, nameB_nil] <;> omega), hx⟩
   try simp only [cs8] at c51
   refine W.seq (W.region (WL.c rfl (o_eq rfl rfl (WL.c rfl (o_ash vB (WL.nil (W.cond rfl (fun c70 => ?_) (fun c70 => ?_))))))))
   ·try simp only [cs8] at c70
    refine W.seq (W.region (WL.c rfl (o_mvh vB (WL.c rfl (o_mvh vB (WL.sp 1 rfl (fun g73 => ?_) (fun g73 => ?_)))))))
    ·skip
     refine WL.g rfl (g73) rfl (o_fa 5 TI41 rfl TI3 rfl rfl (WL.g rfl (g73) rfl (o_ld TI3 rfl rfl (cell_of hC1 rfl) (WL.g rfl (g73) rfl (o_eq rfl rfl (WL.c rfl (o_pickA rfl rfl (WL.c rfl (o_mvh vB (WL.sp 6 rfl (fun g78 => ?_) (fun g78 => ?_)))))))))))
     ·skip
      refine WL.g rfl (g78) rfl (o_fa 1 TI41 rfl TI3 rfl rfl (WL.g rfl (g78) rfl (o_ld TI3 rfl rfl (cell_of hC1 rfl) (WL.g rfl (g78) rfl (o_eq rfl rfl (WL.c rfl (o_pickA rfl rfl (WL.c rfl (o_ash vB (WL.nil (W.ret (ret1v rfl vB ?_))))))))))))
      exact ⟨congrArg Value.bool (by rw [Bool.eq_iff_iff]; simp_all [rgtB, okB, namB, nameB_nil] <;> omega), hx⟩
     skip
     refine WL.s rfl (g78) rfl (WL.s rfl (g78) rfl (WL.s rfl (g78) rfl (WL.c rfl (o_pickF rfl (g78) (WL.c rfl (o_ash vB (WL.nil (W.ret (ret1v rfl vB ?_)))))))))
     exact ⟨congrArg Value.bool (by rw [Bool.eq_iff_iff]; simp_all [rgtB, okB, namB, nameB_nil] <;> omega), hx⟩
    skip
    refine WL.s rfl (g73) rfl (WL.s rfl (g73) rfl (WL.s rfl (g73) rfl (WL.c rfl (o_pickF rfl (g73) (WL.c rfl (o_mvh vB (WL.s rfl (rfl) rfl (WL.s rfl (rfl) rfl (WL.s rfl (rfl) rfl (WL.c rfl (o_pickF rfl (rfl) (WL.c rfl (o_ash vB (WL.nil (W.ret (ret1v rfl vB ?_))))))))))))))))
    exact ⟨congrArg Value.bool (by rw [Bool.eq_iff_iff]; simp_all [rgtB, okB, namB, nameB_nil] <;> omega), hx⟩
   try simp only [cs8] at c70
   refine W.seq (W.seq (W.region (WL.c rfl (o_eq rfl rfl (WL.c rfl (o_ash vB (WL.nil (W.cond rfl (fun c83 => ?_) (fun c83 => ?_)))))))))
   ·try simp only [cs8] at c83
    refine W.skip (W.cond rfl (fun c83 => ?_) (fun c83 => ?_))
    ·try simp only [cs8] at c83
     refine W.seq (W.region (WL.c rfl (o_mvh vB (WL.c rfl (o_mvh vB (WL.sp 1 rfl (fun g87 => ?_) (fun g87 => ?_)))))))
     ·skip
      refine WL.g rfl (g87) rfl (o_fa 5 TI41 rfl TI3 rfl rfl (WL.g rfl (g87) rfl (o_ld TI3 rfl rfl (cell_of hC1 rfl) (WL.g rfl (g87) rfl (o_ge rfl rfl (WL.c rfl (o_pickA rfl rfl (WL.c rfl (o_mvh vB (WL.sp 6 rfl (fun g92 => ?_) (fun g92 => ?_)))))))))))
      ·skip
       refine WL.g rfl (g92) rfl (o_fa 1 TI41 rfl TI3 rfl rfl (WL.g rfl (g92) rfl (o_ld TI3 rfl rfl (cell_of hC1 rfl) (WL.g rfl (g92) rfl (o_eq rfl rfl (WL.c rfl (o_pickA rfl rfl (WL.c rfl (o_ash vB (WL.nil (W.ret (ret1v rfl vB ?_))))))))))))
       exact ⟨congrArg Value.bool (by rw [Bool.eq_iff_iff]; simp_all [rgtB, okB, namB, nameB_nil] <;> omega), hx⟩
      skip
      refine WL.s rfl (g92) rfl (WL.s rfl (g92) rfl (WL.s rfl (g92) rfl (WL.c rfl (o_pickF rfl (g92) (WL.c rfl (o_ash vB (WL.nil (W.ret (ret1v rfl vB ?_)))))))))
      exact ⟨congrArg Value.bool (by rw [Bool.eq_iff_iff]; simp_all [rgtB, okB, namB, nameB_nil] <;> omega), hx⟩
     skip
     refine WL.s rfl (g87) rfl (WL.s rfl (g87) rfl (WL.s rfl (g87) rfl (WL.c rfl (o_pickF rfl (g87) (WL.c rfl (o_mvh vB (WL.s rfl (rfl) rfl (WL.s rfl (rfl) rfl (WL.s rfl (rfl) rfl (WL.c rfl (o_pickF rfl (rfl) (WL.c rfl (o_ash vB (WL.nil (W.ret (ret1v rfl vB ?_))))))))))))))))
     exact ⟨congrArg Value.bool (by rw [Bool.eq_iff_iff]; simp_all [rgtB, okB, namB, nameB_nil] <;> omega), hx⟩
    try simp only [cs8] at c83
    refine W.seq (W.region (WL.c rfl (o_eq rfl rfl (WL.c rfl (o_ash vB (WL.nil (W.cond rfl (fun c97 => ?_) (fun c97 => ?_))))))))
    ·try simp only [cs8] at c97
     refine W.seq (W.region (WL.c rfl (o_fa 2 TI41 rfl TI9 rfl rfl (WL.c rfl (o_ld TI9 rfl rfl (cell_of hC1 rfl) (WL.c rfl (o_call Try.call41 (lc rfl ln) ((rname_spec x.name _ hn).mono ?_))))))))
     rintro v101 w101 ⟨rfl, rfl⟩
     refine WL.c rfl (o_mvh vB (WL.sp 3 rfl (fun g102 => ?_) (fun g102 => ?_)))
     ·skip
      refine WL.g rfl (g102) rfl (o_fa 5 TI41 rfl TI3 rfl rfl (WL.g rfl (g102) rfl (o_ld TI3 rfl rfl (cell_of hC1 rfl) (WL.g rfl (g102) rfl (o_eq rfl rfl (WL.c rfl (o_pickA rfl rfl (WL.c rfl (o_mvh vB (WL.sp 8 rfl (fun g107 => ?_) (fun g107 => ?_)))))))))))
      ·skip
       refine WL.g rfl (g107) rfl (o_fa 1 TI41 rfl TI3 rfl rfl (WL.g rfl (g107) rfl (o_ld TI3 rfl rfl (cell_of hC1 rfl) (WL.g rfl (g107) rfl (o_eq rfl rfl (WL.c rfl (o_pickA rfl rfl (WL.c rfl (o_ash vB (WL.nil (W.ret (ret1v rfl vB ?_))))))))))))
       exact ⟨congrArg Value.bool (by rw [Bool.eq_iff_iff]; simp_all [rgtB, okB, namB, nameB_nil] <;> omega), hx⟩
      skip
      refine WL.s rfl (g107) rfl (WL.s rfl (g107) rfl (WL.s rfl (g107) rfl (WL.c rfl (o_pickF rfl (g107) (WL.c rfl (o_ash vB (WL.nil (W.ret (ret1v rfl vB ?_)))))))))
      exact ⟨congrArg Value.bool (by rw [Bool.eq_iff_iff]; simp_all [rgtB, okB, namB, nameB_nil] <;> omega), hx⟩
     skip
     refine WL.s rfl (g102) rfl (WL.s rfl (g102) rfl (WL.s rfl (g102) rfl (WL.c rfl (o_pickF rfl (g102) (WL.c rfl (o_mvh vB (WL.s rfl (rfl) rfl (WL.s rfl (rfl) rfl (WL.s rfl (rfl) rfl (WL.c rfl (o_pickF rfl (rfl) (WL.c rfl (o_ash vB (WL.nil (W.ret (ret1v rfl vB ?_))))))))))))))))
     exact ⟨congrArg Value.bool (by rw [Bool.eq_iff_iff]; simp_all [rgtB, okB, namB, nameB_nil] <;> omega), hx⟩
    try simp only [cs8] at c97
    refine W.skip (W.seq (W.region (WL.c rfl (o_ash vB (WL.nil (W.ret (ret1v rfl vB ?_)))))))
    exact ⟨congrArg Value.bool (by rw [Bool.eq_iff_iff]; simp_all [rgtB, okB, namB, nameB_nil] <;> omega), hx⟩
   try simp only [cs8] at c83
   refine W.region (WL.c rfl (o_eq rfl rfl (WL.c rfl (o_ash vB (WL.nil (W.cond rfl (fun c83 => ?_) (fun c83 => ?_)))))))
   ·try simp only [cs8] at c83
    refine W.seq (W.region (WL.c rfl (o_mvh vB (WL.c rfl (o_mvh vB (WL.sp 1 rfl (fun g87 => ?_) (fun g87 => ?_)))))))
    ·skip
     refine WL.g rfl (g87) rfl (o_fa 5 TI41 rfl TI3 rfl rfl (WL.g rfl (g87) rfl (o_ld TI3 rfl rfl (cell_of hC1 rfl) (WL.g rfl (g87) rfl (o_ge rfl rfl (WL.c rfl (o_pickA rfl rfl (WL.c rfl (o_mvh vB (WL.sp 6 rfl (fun g92 => ?_) (fun g92 => ?_)))))))))))
     ·skip
      refine WL.g rfl (g92) rfl (o_fa 1 TI41 rfl TI3 rfl rfl (WL.g rfl (g92) rfl (o_ld TI3 rfl rfl (cell_of hC1 rfl) (WL.g rfl (g92) rfl (o_eq rfl rfl (WL.c rfl (o_pickA rfl rfl (WL.c rfl (o_ash vB (WL.nil (W.ret (ret1v rfl vB ?_))))))))))))
      exact ⟨congrArg Value.bool (by rw [Bool.eq_iff_iff]; simp_all [rgtB, okB, namB, nameB_nil] <;> omega), hx⟩
     skip
     refine WL.s rfl (g92) rfl (WL.s rfl (g92) rfl (WL.s rfl (g92) rfl (WL.c rfl (o_pickF rfl (g92) (WL.c rfl (o_ash vB (WL.nil (W.ret (ret1v rfl vB ?_)))))))))
     exact ⟨congrArg Value.bool (by rw [Bool.eq_iff_iff]; simp_all [rgtB, okB, namB, nameB_nil] <;> omega), hx⟩
    skip
    refine WL.s rfl (g87) rfl (WL.s rfl (g87) rfl (WL.s rfl (g87) rfl (WL.c rfl (o_pickF rfl (g87) (WL.c rfl (o_mvh vB (WL.s rfl (rfl) rfl (WL.s rfl (rfl) rfl (WL.s rfl (rfl) rfl (WL.c rfl (o_pickF rfl (rfl) (WL.c rfl (o_ash vB (WL.nil (W.ret (ret1v rfl vB ?_))))))))))))))))
    exact ⟨congrArg Value.bool (by rw [Bool.eq_iff_iff]; simp_all [rgtB, okB, namB, nameB_nil] <;> omega), hx⟩
   try simp only [cs8] at c83
   refine W.seq (W.region (WL.c rfl (o_eq rfl rfl (WL.c rfl (o_ash vB (WL.nil (W.cond rfl (fun c97 => ?_) (fun c97 => ?_))))))))
   ·try simp only [cs8] at c97
    refine W.seq (W.region (WL.c rfl (o_fa 2 TI41 rfl TI9 rfl rfl (WL.c rfl (o_ld TI9 rfl rfl (cell_of hC1 rfl) (WL.c rfl (o_call Try.call41 (lc rfl ln) ((rname_spec x.name _ hn).mono ?_))))))))
    rintro v101 w101 ⟨rfl, rfl⟩
    refine WL.c rfl (o_mvh vB (WL.sp 3 rfl (fun g102 => ?_) (fun g102 => ?_)))
    ·skip
     refine WL.g rfl (g102) rfl (o_fa 5 TI41 rfl TI3 rfl rfl (WL.g rfl (g102) rfl (o_ld TI3 rfl rfl (cell_of hC1 rfl) (WL.g rfl (g102) rfl (o_eq rfl rfl (WL.c rfl (o_pickA rfl rfl (WL.c rfl (o_mvh vB (WL.sp 8 rfl (fun g107 => ?_) (fun g107 => ?_)))))))))))
     ·skip
      refine WL.g rfl (g107) rfl (o_fa 1 TI41 rfl TI3 rfl rfl (WL.g rfl (g107) rfl (o_ld TI3 rfl rfl (cell_of hC1 rfl) (WL.g rfl (g107) rfl (o_eq rfl rfl (WL.c rfl (o_pickA rfl rfl (WL.c rfl (o_ash vB (WL.nil (W.ret (ret1v rfl vB ?_))))))))))))
      exact ⟨congrArg Value.bool (by rw [Bool.eq_iff_iff]; simp_all [rgtB, okB, namB, nameB_nil] <;> omega), hx⟩
     skip
     refine WL.s rfl (g107) rfl (WL.s rfl (g107) rfl (WL.s rfl (g107) rfl (WL.c rfl (o_pickF rfl (g107) (WL.c rfl (o_ash vB (WL.nil (W.ret (ret1v rfl vB ?_)))))))))
     exact ⟨congrArg Value.bool (by rw [Bool.eq_iff_iff]; simp_all [rgtB, okB, namB, nameB_nil] <;> omega), hx⟩
    skip
    refine WL.s rfl (g102) rfl (WL.s rfl (g102) rfl (WL.s rfl (g102) rfl (WL.c rfl (o_pickF rfl (g102) (WL.c rfl (o_mvh vB (WL.s rfl (rfl) rfl (WL.s rfl (rfl) rfl (WL.s rfl (rfl) rfl (WL.c rfl (o_pickF rfl (rfl) (WL.c rfl (o_ash vB (WL.nil (W.ret (ret1v rfl vB ?_))))))))))))))))
    exact ⟨congrArg Value.bool (by rw [Bool.eq_iff_iff]; simp_all [rgtB, okB, namB, nameB_nil] <;> omega), hx⟩
   try simp only [cs8] at c97
   refine W.skip (W.seq (W.region (WL.c rfl (o_ash vB (WL.nil (W.ret (ret1v rfl vB ?_)))))))
   exact ⟨congrArg Value.bool (by rw [Bool.eq_iff_iff]; simp_all [rgtB, okB, namB, nameB_nil] <;> omega), hx⟩
  try simp only [cs8] at c51
  refine W.region (WL.c rfl (o_eq rfl rfl (WL.c rfl (o_ash vB (WL.nil (W.cond rfl (fun c51 => ?_) (fun c51 => ?_)))))))
  ·try simp only [cs8] at c51
   refine W.seq (W.region (WL.c rfl (o_mvh vB (WL.c rfl (o_mvh vB (WL.sp 1 rfl (fun g55 => ?_) (fun g55 => ?_)))))))
   ·skip
    refine WL.g rfl (g55) rfl (o_fa 5 TI41 rfl TI3 rfl rfl (WL.g rfl (g55) rfl (o_ld TI3 rfl rfl (cell_of hC1 rfl) (WL.g rfl (g55) rfl (o_eq rfl rfl (WL.c rfl (o_pickA rfl rfl (WL.c rfl (o_mvh vB (WL.sp 6 rfl (fun g60 => ?_) (fun g60 => ?_)))))))))))
    ·skip
     refine WL.g rfl (g60) rfl (o_fa 1 TI41 rfl TI3 rfl rfl (WL.g rfl (g60) rfl (o_ld TI3 rfl rfl (cell_of hC1 rfl) (WL.g rfl (g60) rfl (o_ge rfl rfl (WL.c rfl (o_pickA rfl rfl (WL.c rfl (o_mvh vB (WL.sp 11 rfl (fun g65 => ?_) (fun g65 => ?_)))))))))))
     ·skip
      refine WL.g rfl (g65) rfl (o_fa 1 TI41 rfl TI3 rfl rfl (WL.g rfl (g65) rfl (o_ld TI3 rfl rfl (cell_of hC1 rfl) (WL.g rfl (g65) rfl (o_le rfl rfl (WL.c rfl (o_pickA rfl rfl (WL.c rfl (o_ash vB (WL.nil (W.ret (ret1v rfl vB ?_))))))))))))
      exact ⟨congrArg Value.bool (by rw [Bool.eq_iff_iff]; simp_all [rgtB, okB, namB, nameB_nil] <;> omega), hx⟩
     skip
     refine WL.s rfl (g65) rfl (WL.s rfl (g65) rfl (WL.s rfl (g65) rfl (WL.c rfl (o_pickF rfl (g65) (WL.c rfl (o_ash vB (WL.nil (W.ret (ret1v rfl vB ?_)))))))))
     exact ⟨congrArg Value.bool (by rw [Bool.eq_iff_iff]; simp_all [rgtB, okB, namB, nameB_nil] <;> omega), hx⟩
    skip
    refine WL.s rfl (g60) rfl (WL.s rfl (g60) rfl (WL.s rfl (g60) rfl (WL.c rfl (o_pickF rfl (g60) (WL.c rfl (o_mvh vB (WL.s rfl (rfl) rfl (WL.s rfl (rfl) rfl (WL.s rfl (rfl) rfl (WL.c rfl (o_pickF rfl (rfl) (WL.c rfl (o_ash vB (WL.nil (W.ret (ret1v rfl vB ?_))))))))))))))))
    exact ⟨congrArg Value.bool (by rw [Bool.eq_iff_iff]; simp_all [rgtB, okB, namB, nameB_nil] <;> omega), hx⟩
   skip
   refine WL.s rfl (g55) rfl (WL.s rfl (g55) rfl (WL.s rfl (g55) rfl (WL.c rfl (o_pickF rfl (g55) (WL.c rfl (o_mvh vB (WL.s rfl (rfl) rfl (WL.s rfl (rfl) rfl (WL.s rfl (rfl) rfl (WL.c rfl (o_pickF rfl (rfl) (WL.c rfl (o_mvh vB (WL.s rfl (rfl) rfl (WL.s rfl (rfl) rfl (WL.s rfl (rfl) rfl (WL.c rfl (o_pickF rfl (rfl) (WL.c rfl (o_ash vB (WL.nil (W.ret (ret1v rfl vB ?_)))))))))))))))))))))))
   exact ⟨congrArg Value.bool (by rw [Bool.eq_iff_iff]; simp_all [rgtB, okB, namB, nameB_nil] <;> omega), hx⟩
  try simp only [cs8] at c51
  refine W.seq (W.region (WL.c rfl (o_eq rfl rfl (WL.c rfl (o_ash vB (WL.nil (W.cond rfl (fun c70 => ?_) (fun c70 => ?_))))))))
  ·try simp only [cs8] at c70
   refine W.seq (W.region (WL.c rfl (o_mvh vB (WL.c rfl (o_mvh vB (WL.sp 1 rfl (fun g73 => ?_) (fun g73 => ?_)))))))
   ·skip
    refine WL.g rfl (g73) rfl (o_fa 5 TI41 rfl TI3 rfl rfl (WL.g rfl (g73) rfl (o_ld TI3 rfl rfl (cell_of hC1 rfl) (WL.g rfl (g73) rfl (o_eq rfl rfl (WL.c rfl (o_pickA rfl rfl (WL.c rfl (o_mvh vB (WL.sp 6 rfl (fun g78 => ?_) (fun g78 => ?_)))))))))))
    ·skip
     refine WL.g rfl (g78) rfl (o_fa 1 TI41 rfl TI3 rfl rfl (WL.g rfl (g78) rfl (o_ld TI3 rfl rfl (cell_of hC1 rfl) (WL.g rfl (g78) rfl (o_eq rfl rfl (WL.c rfl (o_pickA rfl rfl (WL.c rfl (o_ash vB (WL.nil (W.ret (ret1v rfl vB ?_))))))))))))
     exact ⟨congrArg Value.bool (by rw [Bool.eq_iff_iff]; simp_all [rgtB, okB, namB, nameB_nil] <;> omega), hx⟩
    skip
    refine WL.s rfl (g78) rfl (WL.s rfl (g78) rfl (WL.s rfl (g78) rfl (WL.c rfl (o_pickF rfl (g78) (WL.c rfl (o_ash vB (WL.nil (W.ret (ret1v rfl vB ?_)))))))))
    exact ⟨congrArg Value.bool (by rw [Bool.eq_iff_iff]; simp_all [rgtB, okB, namB, nameB_nil] <;> omega), hx⟩
   skip
   refine WL.s rfl (g73) rfl (WL.s rfl (g73) rfl (WL.s rfl (g73) rfl (WL.c rfl (o_pickF rfl (g73) (WL.c rfl (o_mvh vB (WL.s rfl (rfl) rfl (WL.s rfl (rfl) rfl (WL.s rfl (rfl) rfl (WL.c rfl (o_pickF rfl (rfl) (WL.c rfl (o_ash vB (WL.nil (W.ret (ret1v rfl vB ?_))))))))))))))))
   exact ⟨congrArg Value.bool (by rw [Bool.eq_iff_iff]; simp_all [rgtB, okB, namB, nameB_nil] <;> omega), hx⟩
  try simp only [cs8] at c70
  refine W.seq (W.seq (W.region (WL.c rfl (o_eq rfl rfl (WL.c rfl (o_ash vB (WL.nil (W.cond rfl (fun c83 => ?_) (fun c83 => ?_)))))))))
  ·try simp only [cs8] at c83
   refine W.skip (W.cond rfl (fun c83 => ?_) (fun c83 => ?_))
   ·try simp only [cs8] at c83
    refine W.seq (W.region (WL.c rfl (o_mvh vB (WL.c rfl (o_mvh vB (WL.sp 1 rfl (fun g87 => ?_) (fun g87 => ?_)))))))
    ·skip
     refine WL.g rfl (g87) rfl (o_fa 5 TI41 rfl TI3 rfl rfl (WL.g rfl (g87) rfl (o_ld TI3 rfl rfl (cell_of hC1 rfl) (WL.g rfl (g87) rfl (o_ge rfl rfl (WL.c rfl (o_pickA rfl rfl (WL.c rfl (o_mvh vB (WL.sp 6 rfl (fun g92 => ?_) (fun g92 => ?_)))))))))))
     ·skip
      refine WL.g rfl (g92) rfl (o_fa 1 TI41 rfl TI3 rfl rfl (WL.g rfl (g92) rfl (o_ld TI3 rfl rfl (cell_of hC1 rfl) (WL.g rfl (g92) rfl (o_eq rfl rfl (WL.c rfl (o_pickA rfl rfl (WL.c rfl (o_ash vB (WL.nil (W.ret (ret1v rfl vB ?_))))))))))))
      exact ⟨congrArg Value.bool (by rw [Bool.eq_iff_iff]; simp_all [rgtB, okB, namB, nameB_nil] <;> omega), hx⟩
     skip
     refine WL.s rfl (g92) rfl (WL.s rfl (g92) rfl (WL.s rfl (g92) rfl (WL.c rfl (o_pickF rfl (g92) (WL.c rfl (o_ash vB (WL.nil (W.ret (ret1v rfl vB ?_)))))))))
     exact ⟨congrArg Value.bool (by rw [Bool.eq_iff_iff]; simp_all [rgtB, okB, namB, nameB_nil] <;> omega), hx⟩
    skip
    refine WL.s rfl (g87) rfl (WL.s rfl (g87) rfl (WL.s rfl (g87) rfl (WL.c rfl (o_pickF rfl (g87) (WL.c rfl (o_mvh vB (WL.s rfl (rfl) rfl (WL.s rfl (rfl) rfl (WL.s rfl (rfl) rfl (WL.c rfl (o_pickF rfl (rfl) (WL.c rfl (o_ash vB (WL.nil (W.ret (ret1v rfl vB ?_))))))))))))))))
    exact ⟨congrArg Value.bool (by rw [Bool.eq_iff_iff]; simp_all [rgtB, okB, namB, nameB_nil] <;> omega), hx⟩
   try simp only [cs8] at c83
   refine W.seq (W.region (WL.c rfl (o_eq rfl rfl (WL.c rfl (o_ash vB (WL.nil (W.cond rfl (fun c97 => ?_) (fun c97 => ?_))))))))
   ·try simp only [cs8] at c97
    refine W.seq (W.region (WL.c rfl (o_fa 2 TI41 rfl TI9 rfl rfl (WL.c rfl (o_ld TI9 rfl rfl (cell_of hC1 rfl) (WL.c rfl (o_call Try.call41 (lc rfl ln) ((rname_spec x.name _ hn).mono ?_))))))))
    rintro v101 w101 ⟨rfl, rfl⟩
    refine WL.c rfl (o_mvh vB (WL.sp 3 rfl (fun g102 => ?_) (fun g102 => ?_)))
    ·skip
     refine WL.g rfl (g102) rfl (o_fa 5 TI41 rfl TI3 rfl rfl (WL.g rfl (g102) rfl (o_ld TI3 rfl rfl (cell_of hC1 rfl) (WL.g rfl (g102) rfl (o_eq rfl rfl (WL.c rfl (o_pickA rfl rfl (WL.c rfl (o_mvh vB (WL.sp 8 rfl (fun g107 => ?_) (fun g107 => ?_)))))))))))
     ·skip
      refine WL.g rfl (g107) rfl (o_fa 1 TI41 rfl TI3 rfl rfl (WL.g rfl (g107) rfl (o_ld TI3 rfl rfl (cell_of hC1 rfl) (WL.g rfl (g107) rfl (o_eq rfl rfl (WL.c rfl (o_pickA rfl rfl (WL.c rfl (o_ash vB (WL.nil (W.ret (ret1v rfl vB ?_))))))))))))
      exact ⟨congrArg Value.bool (by rw [Bool.eq_iff_iff]; simp_all [rgtB, okB, namB, nameB_nil] <;> omega), hx⟩
     skip
     refine WL.s rfl (g107) rfl (WL.s rfl (g107) rfl (WL.s rfl (g107) rfl (WL.c rfl (o_pickF rfl (g107) (WL.c rfl (o_ash vB (WL.nil (W.ret (ret1v rfl vB ?_)))))))))
     exact ⟨congrArg Value.bool (by rw [Bool.eq_iff_iff]; simp_all [rgtB, okB, namB, nameB_nil] <;> omega), hx⟩
    skip
    refine WL.s rfl (g102) rfl (WL.s rfl (g102) rfl (WL.s rfl (g102) rfl (WL.c rfl (o_pickF rfl (g102) (WL.c rfl (o_mvh vB (WL.s rfl (rfl) rfl (WL.s rfl (rfl) rfl (WL.s rfl (rfl) rfl (WL.c rfl (o_pickF rfl (rfl) (WL.c rfl (o_ash vB (WL.nil (W.ret (ret1v rfl vB ?_))))))))))))))))
    exact ⟨congrArg Value.bool (by rw [Bool.eq_iff_iff]; simp_all [rgtB, okB, namB, nameB_nil] <;> omega), hx⟩
   try simp only [cs8] at c97
   refine W.skip (W.seq (W.region (WL.c rfl (o_ash vB (WL.nil (W.ret (ret1v rfl vB ?_)))))))
   exact ⟨congrArg Value.bool (by rw [Bool.eq_iff_iff]; simp_all [rgtB, okB, namB, nameB_nil] <;> omega), hx⟩
  try simp only [cs8] at c83
  refine W.region (WL.c rfl (o_eq rfl rfl (WL.c rfl (o_ash vB (WL.nil (W.cond rfl (fun c83 => ?_) (fun c83 => ?_)))))))
  ·try simp only [cs8] at c83
   refine W.seq (W.region (WL.c rfl (o_mvh vB (WL.c rfl (o_mvh vB (WL.sp 1 rfl (fun g87 => ?_) (fun g87 => ?_)))))))
   ·skip
    refine WL.g rfl (g87) rfl (o_fa 5 TI41 rfl TI3 rfl rfl (WL.g rfl (g87) rfl (o_ld TI3 rfl rfl (cell_of hC1 rfl) (WL.g rfl (g87) rfl (o_ge rfl rfl (WL.c rfl (o_pickA rfl rfl (WL.c rfl (o_mvh vB (WL.sp 6 rfl (fun g92 => ?_) (fun g92 => ?_)))))))))))
    ·skip
     refine WL.g rfl (g92) rfl (o_fa 1 TI41 rfl TI3 rfl rfl (WL.g rfl (g92) rfl (o_ld TI3 rfl rfl (cell_of hC1 rfl) (WL.g rfl (g92) rfl (o_eq rfl rfl (WL.c rfl (o_pickA rfl rfl (WL.c rfl (o_ash vB (WL.nil (W.ret (ret1v rfl vB ?_))))))))))))
     exact ⟨congrArg Value.bool (by rw [Bool.eq_iff_iff]; simp_all [rgtB, okB, namB, nameB_nil] <;> omega), hx⟩
    skip
    refine WL.s rfl (g92) rfl (WL.s rfl (g92) rfl (WL.s rfl (g92) rfl (WL.c rfl (o_pickF rfl (g92) (WL.c rfl (o_ash vB (WL.nil (W.ret (ret1v rfl vB ?_)))))))))
    exact ⟨congrArg Value.bool (by rw [Bool.eq_iff_iff]; simp_all [rgtB, okB, namB, nameB_nil] <;> omega), hx⟩
   skip
   refine WL.s rfl (g87) rfl (WL.s rfl (g87) rfl (WL.s rfl (g87) rfl (WL.c rfl (o_pickF rfl (g87) (WL.c rfl (o_mvh vB (WL.s rfl (rfl) rfl (WL.s rfl (rfl) rfl (WL.s rfl (rfl) rfl (WL.c rfl (o_pickF rfl (rfl) (WL.c rfl (o_ash vB (WL.nil (W.ret (ret1v rfl vB ?_))))))))))))))))
   exact ⟨congrArg Value.bool (by rw [Bool.eq_iff_iff]; simp_all [rgtB, okB, namB, nameB_nil] <;> omega), hx⟩
  try simp only [cs8] at c83
  refine W.seq (W.region (WL.c rfl (o_eq rfl rfl (WL.c rfl (o_ash vB (WL.nil (W.cond rfl (fun c97 => ?_) (fun c97 => ?_))))))))
  ·try simp only [cs8] at c97
   refine W.seq (W.region (WL.c rfl (o_fa 2 TI41 rfl TI9 rfl rfl (WL.c rfl (o_ld TI9 rfl rfl (cell_of hC1 rfl) (WL.c rfl (o_call Try.call41 (lc rfl ln) ((rname_spec x.name _ hn).mono ?_))))))))
   rintro v101 w101 ⟨rfl, rfl⟩
   refine WL.c rfl (o_mvh vB (WL.sp 3 rfl (fun g102 => ?_) (fun g102 => ?_)))
   ·skip
    refine WL.g rfl (g102) rfl (o_fa 5 TI41 rfl TI3 rfl rfl (WL.g rfl (g102) rfl (o_ld TI3 rfl rfl (cell_of hC1 rfl) (WL.g rfl (g102) rfl (o_eq rfl rfl (WL.c rfl (o_pickA rfl rfl (WL.c rfl (o_mvh vB (WL.sp 8 rfl (fun g107 => ?_) (fun g107 => ?_)))))))))))
    ·skip
     refine WL.g rfl (g107) rfl (o_fa 1 TI41 rfl TI3 rfl rfl (WL.g rfl (g107) rfl (o_ld TI3 rfl rfl (cell_of hC1 rfl) (WL.g rfl (g107) rfl (o_eq rfl rfl (WL.c rfl (o_pickA rfl rfl (WL.c rfl (o_ash vB (WL.nil (W.ret (ret1v rfl vB ?_))))))))))))
     exact ⟨congrArg Value.bool (by rw [Bool.eq_iff_iff]; simp_all [rgtB, okB, namB, nameB_nil] <;> omega), hx⟩
    skip
    refine WL.s rfl (g107) rfl (WL.s rfl (g107) rfl (WL.s rfl (g107) rfl (WL.c rfl (o_pickF rfl (g107) (WL.c rfl (o_ash vB (WL.nil (W.ret (ret1v rfl vB ?_)))))))))
    exact ⟨congrArg Value.bool (by rw [Bool.eq_iff_iff]; simp_all [rgtB, okB, namB, nameB_nil] <;> omega), hx⟩
   skip
   refine WL.s rfl (g102) rfl (WL.s rfl (g102) rfl (WL.s rfl (g102) rfl (WL.c rfl (o_pickF rfl (g102) (WL.c rfl (o_mvh vB (WL.s rfl (rfl) rfl (WL.s rfl (rfl) rfl (WL.s rfl (rfl) rfl (WL.c rfl (o_pickF rfl (rfl) (WL.c rfl (o_ash vB (WL.nil (W.ret (ret1v rfl vB ?_))))))))))))))))
   exact ⟨congrArg Value.bool (by rw [Bool.eq_iff_iff]; simp_all [rgtB, okB, namB, nameB_nil] <;> omega), hx⟩
  try simp only [cs8] at c97
  refine W.skip (W.seq (W.region (WL.c rfl (o_ash vB (WL.nil (W.ret (ret1v rfl vB ?_)))))))
  exact ⟨congrArg Value.bool (by rw [Bool.eq_iff_iff]; simp_all [rgtB, okB, namB, nameB_nil] <;> omega), hx⟩
 try simp only [cs8] at c37
 refine W.region (WL.c rfl (o_eq rfl rfl (WL.c rfl (o_ash vB (WL.nil (W.cond rfl (fun c37 => ?_) (fun c37 => ?_)))))))
 ·try simp only [cs8] at c37
  refine W.seq (W.region (WL.c rfl (o_mvh vB (WL.c rfl (o_mvh vB (WL.sp 1 rfl (fun g41 => ?_) (fun g41 => ?_)))))))
  ·skip
   refine WL.g rfl (g41) rfl (o_fa 5 TI41 rfl TI3 rfl rfl (WL.g rfl (g41) rfl (o_ld TI3 rfl rfl (cell_of hC1 rfl) (WL.g rfl (g41) rfl (o_eq rfl rfl (WL.c rfl (o_pickA rfl rfl (WL.c rfl (o_mvh vB (WL.sp 6 rfl (fun g46 => ?_) (fun g46 => ?_)))))))))))
   ·skip
    refine WL.g rfl (g46) rfl (o_fa 1 TI41 rfl TI3 rfl rfl (WL.g rfl (g46) rfl (o_ld TI3 rfl rfl (cell_of hC1 rfl) (WL.g rfl (g46) rfl (o_eq rfl rfl (WL.c rfl (o_pickA rfl rfl (WL.c rfl (o_ash vB (WL.nil (W.ret (ret1v rfl vB ?_))))))))))))
    exact ⟨congrArg Value.bool (by rw [Bool.eq_iff_iff]; simp_all [rgtB, okB, namB, nameB_nil] <;> omega), hx⟩
   skip
   refine WL.s rfl (g46) rfl (WL.s rfl (g46) rfl (WL.s rfl (g46) rfl (WL.c rfl (o_pickF rfl (g46) (WL.c rfl (o_ash vB (WL.nil (W.ret (ret1v rfl vB ?_)))))))))
   exact ⟨congrArg Value.bool (by rw [Bool.eq_iff_iff]; simp_all [rgtB, okB, namB, nameB_nil] <;> omega), hx⟩
  skip
  refine WL.s rfl (g41) rfl (WL.s rfl (g41) rfl (WL.s rfl (g41) rfl (WL.c rfl (o_pickF rfl (g41) (WL.c rfl (o_mvh vB (WL.s rfl (rfl) rfl (WL.s rfl (rfl) rfl (WL.s rfl (rfl) rfl (WL.c rfl (o_pickF rfl (rfl) (WL.c rfl (o_ash vB (WL.nil (W.ret (ret1v rfl vB ?_))))))))))))))))
  exact ⟨congrArg Value.bool (by rw [Bool.eq_iff_iff]; simp_all [rgtB, okB, namB, nameB_nil] <;> omega), hx⟩
 try simp only [cs8] at c37
 refine W.seq (W.seq (W.region (WL.c rfl (o_eq rfl rfl (WL.c rfl (o_ash vB (WL.nil (W.cond rfl (fun c51 => ?_) (fun c51 => ?_)))))))))
 ·try simp only [cs8] at c51
  refine W.skip (W.cond rfl (fun c51 => ?_) (fun c51 => ?_))
  ·try simp only [cs8] at c51
   refine W.seq (W.region (WL.c rfl (o_mvh vB (WL.c rfl (o_mvh vB (WL.sp 1 rfl (fun g55 => ?_) (fun g55 => ?_)))))))
   ·skip
    refine WL.g rfl (g55) rfl (o_fa 5 TI41 rfl TI3 rfl rfl (WL.g rfl (g55) rfl (o_ld TI3 rfl rfl (cell_of hC1 rfl) (WL.g rfl (g55) rfl (o_eq rfl rfl (WL.c rfl (o_pickA rfl rfl (WL.c rfl (o_mvh vB (WL.sp 6 rfl (fun g60 => ?_) (fun g60 => ?_)))))))))))
    ·skip
     refine WL.g rfl (g60) rfl (o_fa 1 TI41 rfl TI3 rfl rfl (WL.g rfl (g60) rfl (o_ld TI3 rfl rfl (cell_of hC1 rfl) (WL.g rfl (g60) rfl (o_ge rfl rfl (WL.c rfl (o_pickA rfl rfl (WL.c rfl (o_mvh vB (WL.sp 11 rfl (fun g65 => ?_) (fun g65 => ?_)))))))))))
     ·skip
      refine WL.g rfl (g65) rfl (o_fa 1 TI41 rfl TI3 rfl rfl (WL.g rfl (g65) rfl (o_ld TI3 rfl rfl (cell_of hC1 rfl) (WL.g rfl (g65) rfl (o_le rfl rfl (WL.c rfl (o_pickA rfl rfl (WL.c rfl (o_ash vB (WL.nil (W.ret (ret1v rfl vB ?_))))))))))))
      exact ⟨congrArg Value.bool (by rw [Bool.eq_iff_iff]; simp_all [rgtB, okB, namB, nameB_nil] <;> omega), hx⟩
     skip
     refine WL.s rfl (g65) rfl (WL.s rfl (g65) rfl (WL.s rfl (g65) rfl (WL.c rfl (o_pickF rfl (g65) (WL.c rfl (o_ash vB (WL.nil (W.ret (ret1v rfl vB ?_)))))))))
     exact ⟨congrArg Value.bool (by rw [Bool.eq_iff_iff]; simp_all [rgtB, okB, namB, nameB_nil] <;> omega), hx⟩
    skip
    refine WL.s rfl (g60) rfl (WL.s rfl (g60) rfl (WL.s rfl (g60) rfl (WL.c rfl (o_pickF rfl (g60) (WL.c rfl (o_mvh vB (WL.s rfl (rfl) rfl (WL.s rfl (rfl) rfl (WL.s rfl (rfl) rfl (WL.c rfl (o_pickF rfl (rfl) (WL.c rfl (o_ash vB (WL.nil (W.ret (ret1v rfl vB ?_))))))))))))))))
    exact ⟨congrArg Value.bool (by rw [Bool.eq_iff_iff]; simp_all [rgtB, okB, namB, nameB_nil] <;> omega), hx⟩
   skip
   refine WL.s rfl (g55) rfl (WL.s rfl (g55) rfl (WL.s rfl (g55) rfl (WL.c rfl (o_pickF rfl (g55) (WL.c rfl (o_mvh vB (WL.s rfl (rfl) rfl (WL.s rfl (rfl) rfl (WL.s rfl (rfl) rfl (WL.c rfl (o_pickF rfl (rfl) (WL.c rfl (o_mvh vB (WL.s rfl (rfl) rfl (WL.s rfl (rfl) rfl (WL.s rfl (rfl) rfl (WL.c rfl (o_pickF rfl (rfl) (WL.c rfl (o_ash vB (WL.nil (W.ret (ret1v rfl vB ?_)))))))))))))))))))))))
   exact ⟨congrArg Value.bool (by rw [Bool.eq_iff_iff]; simp_all [rgtB, okB, namB, nameB_nil] <;> omega), hx⟩
  try simp only [cs8] at c51
  refine W.seq (W.region (WL.c rfl (o_eq rfl rfl (WL.c rfl (o_ash vB (WL.nil (W.cond rfl (fun c70 => ?_) (fun c70 => ?_))))))))
  ·try simp only [cs8] at c70
   refine W.seq (W.region (WL.c rfl (o_mvh vB (WL.c rfl (o_mvh vB (WL.sp 1 rfl (fun g73 => ?_) (fun g73 => ?_)))))))
   ·skip
    refine WL.g rfl (g73) rfl (o_fa 5 TI41 rfl TI3 rfl rfl (WL.g rfl (g73) rfl (o_ld TI3 rfl rfl (cell_of hC1 rfl) (WL.g rfl (g73) rfl (o_eq rfl rfl (WL.c rfl (o_pickA rfl rfl (WL.c rfl (o_mvh vB (WL.sp 6 rfl (fun g78 => ?_) (fun g78 => ?_)))))))))))
    ·skip
     refine WL.g rfl (g78) rfl (o_fa 1 TI41 rfl TI3 rfl rfl (WL.g rfl (g78) rfl (o_ld TI3 rfl rfl (cell_of hC1 rfl) (WL.g rfl (g78) rfl (o_eq rfl rfl (WL.c rfl (o_pickA rfl rfl (WL.c rfl (o_ash vB (WL.nil (W.ret (ret1v rfl vB ?_))))))))))))
     exact ⟨congrArg Value.bool (by rw [Bool.eq_iff_iff]; simp_all [rgtB, okB, namB, nameB_nil] <;> omega), hx⟩
    skip
    refine WL.s rfl (g78) rfl (WL.s rfl (g78) rfl (WL.s rfl (g78) rfl (WL.c rfl (o_pickF rfl (g78) (WL.c rfl (o_ash vB (WL.nil (W.ret (ret1v rfl vB ?_)))))))))
    exact ⟨congrArg Value.bool (by rw [Bool.eq_iff_iff]; simp_all [rgtB, okB, namB, nameB_nil] <;> omega), hx⟩
   skip
   refine WL.s rfl (g73) rfl (WL.s rfl (g73) rfl (WL.s rfl (g73) rfl (WL.c rfl (o_pickF rfl (g73) (WL.c rfl (o_mvh vB (WL.s rfl (rfl) rfl (WL.s rfl (rfl) rfl (WL.s rfl (rfl) rfl (WL.c rfl (o_pickF rfl (rfl) (WL.c rfl (o_ash vB (WL.nil (W.ret (ret1v rfl vB ?_))))))))))))))))
   exact ⟨congrArg Value.bool (by rw [Bool.eq_iff_iff]; simp_all [rgtB, okB, namB, nameB_nil] <;> omega), hx⟩
  try simp only [cs8] at c70
  refine W.seq (W.seq (W.region (WL.c rfl (o_eq rfl rfl (WL.c rfl (o_ash vB (WL.nil (W.cond rfl (fun c83 => ?_) (fun c83 => ?_)))))))))
  ·try simp only [cs8] at c83
   refine W.skip (W.cond rfl (fun c83 => ?_) (fun c83 => ?_))
   ·try simp only [cs8] at c83
    refine W.seq (W.region (WL.c rfl (o_mvh vB (WL.c rfl (o_mvh vB (WL.sp 1 rfl (fun g87 => ?_) (fun g87 => ?_)))))))
    ·skip
     refine WL.g rfl (g87) rfl (o_fa 5 TI41 rfl TI3 rfl rfl (WL.g rfl (g87) rfl (o_ld TI3 rfl rfl (cell_of hC1 rfl) (WL.g rfl (g87) rfl (o_ge rfl rfl (WL.c rfl (o_pickA rfl rfl (WL.c rfl (o_mvh vB (WL.sp 6 rfl (fun g92 => ?_) (fun g92 => ?_)))))))))))
     ·skip
      refine WL.g rfl (g92) rfl (o_fa 1 TI41 rfl TI3 rfl rfl (WL.g rfl (g92) rfl (o_ld TI3 rfl rfl (cell_of hC1 rfl) (WL.g rfl (g92) rfl (o_eq rfl rfl (WL.c rfl (o_pickA rfl rfl (WL.c rfl (o_ash vB (WL.nil (W.ret (ret1v rfl vB ?_))))))))))))
      exact ⟨congrArg Value.bool (by rw [Bool.eq_iff_iff]; simp_all [rgtB, okB, namB, nameB_nil] <;> omega), hx⟩
     skip
     refine WL.s rfl (g92) rfl (WL.s rfl (g92) rfl (WL.s rfl (g92) rfl (WL.c rfl (o_pickF rfl (g92) (WL.c rfl (o_ash vB (WL.nil (W.ret (ret1v rfl vB ?_)))))))))
     exact ⟨congrArg Value.bool (by rw [Bool.eq_iff_iff]; simp_all [rgtB, okB, namB, nameB_nil] <;> omega), hx⟩
    skip
    refine WL.s rfl (g87) rfl (WL.s rfl (g87) rfl (WL.s rfl (g87) rfl (WL.c rfl (o_pickF rfl (g87) (WL.c rfl (o_mvh vB (WL.s rfl (rfl) rfl (WL.s rfl (rfl) rfl (WL.s rfl (rfl) rfl (WL.c rfl (o_pickF rfl (rfl) (WL.c rfl (o_ash vB (WL.nil (W.ret (ret1v rfl vB ?_))))))))))))))))
    exact ⟨congrArg Value.bool (by rw [Bool.eq_iff_iff]; simp_all [rgtB, okB, namB, nameB_nil] <;> omega), hx⟩
   try simp only [cs8] at c83
   refine W.seq (W.region (WL.c rfl (o_eq rfl rfl (WL.c rfl (o_ash vB (WL.nil (W.cond rfl (fun c97 => ?_) (fun c97 => ?_))))))))
   ·try simp only [cs8] at c97
    refine W.seq (W.region (WL.c rfl (o_fa 2 TI41 rfl TI9 rfl rfl (WL.c rfl (o_ld TI9 rfl rfl (cell_of hC1 rfl) (WL.c rfl (o_call Try.call41 (lc rfl ln) ((rname_spec x.name _ hn).mono ?_))))))))
    rintro v101 w101 ⟨rfl, rfl⟩
    refine WL.c rfl (o_mvh vB (WL.sp 3 rfl (fun g102 => ?_) (fun g102 => ?_)))
    ·skip
     refine WL.g rfl (g102) rfl (o_fa 5 TI41 rfl TI3 rfl rfl (WL.g rfl (g102) rfl (o_ld TI3 rfl rfl (cell_of hC1 rfl) (WL.g rfl (g102) rfl (o_eq rfl rfl (WL.c rfl (o_pickA rfl rfl (WL.c rfl (o_mvh vB (WL.sp 8 rfl (fun g107 => ?_) (fun g107 => ?_)))))))))))
     ·skip
      refine WL.g rfl (g107) rfl (o_fa 1 TI41 rfl TI3 rfl rfl (WL.g rfl (g107) rfl (o_ld TI3 rfl rfl (cell_of hC1 rfl) (WL.g rfl (g107) rfl (o_eq rfl rfl (WL.c rfl (o_pickA rfl rfl (WL.c rfl (o_ash vB (WL.nil (W.ret (ret1v rfl vB ?_))))))))))))
      exact ⟨congrArg Value.bool (by rw [Bool.eq_iff_iff]; simp_all [rgtB, okB, namB, nameB_nil] <;> omega), hx⟩
     skip
     refine WL.s rfl (g107) rfl (WL.s rfl (g107) rfl (WL.s rfl (g107) rfl (WL.c rfl (o_pickF rfl (g107) (WL.c rfl (o_ash vB (WL.nil (W.ret (ret1v rfl vB ?_)))))))))
     exact ⟨congrArg Value.bool (by rw [Bool.eq_iff_iff]; simp_all [rgtB, okB, namB, nameB_nil] <;> omega), hx⟩
    skip
    refine WL.s rfl (g102) rfl (WL.s rfl (g102) rfl (WL.s rfl (g102) rfl (WL.c rfl (o_pickF rfl (g102) (WL.c rfl (o_mvh vB (WL.s rfl (rfl) rfl (WL.s rfl (rfl) rfl (WL.s rfl (rfl) rfl (WL.c rfl (o_pickF rfl (rfl) (WL.c rfl (o_ash vB (WL.nil (W.ret (ret1v rfl vB ?_))))))))))))))))
    exact ⟨congrArg Value.bool (by rw [Bool.eq_iff_iff]; simp_all [rgtB, okB, namB, nameB_nil] <;> omega), hx⟩
   try simp only [cs8] at c97
   refine W.skip (W.seq (W.region (WL.c rfl (o_ash vB (WL.nil (W.ret (ret1v rfl vB ?_)))))))
   exact ⟨congrArg Value.bool (by rw [Bool.eq_iff_iff]; simp_all [rgtB, okB, namB, nameB_nil] <;> omega), hx⟩
  try simp only [cs8] at c83
  refine W.region (WL.c rfl (o_eq rfl rfl (WL.c rfl (o_ash vB (WL.nil (W.cond rfl (fun c83 => ?_) (fun c83 => ?_)))))))
  ·try simp only [cs8] at c83
   refine W.seq (W.region (WL.c rfl (o_mvh vB (WL.c rfl (o_mvh vB (WL.sp 1 rfl (fun g87 => ?_) (fun g87 => ?_)))))))
   ·skip
    refine WL.g rfl (g87) rfl (o_fa 5 TI41 rfl TI3 rfl rfl (WL.g rfl (g87) rfl (o_ld TI3 rfl rfl (cell_of hC1 rfl) (WL.g rfl (g87) rfl (o_ge rfl rfl (WL.c rfl (o_pickA rfl rfl (WL.c rfl (o_mvh vB (WL.sp 6 rfl (fun g92 => ?_) (fun g92 => ?_)))))))))))
    ·skip
     refine WL.g rfl (g92) rfl (o_fa 1 TI41 rfl TI3 rfl rfl (WL.g rfl (g92) rfl (o_ld TI3 rfl rfl (cell_of hC1 rfl) (WL.g rfl (g92) rfl (o_eq rfl rfl (WL.c rfl (o_pickA rfl rfl (WL.c rfl (o_ash vB (WL.nil (W.ret (ret1v rfl vB ?_))))))))))))
     exact ⟨congrArg Value.bool (by rw [Bool.eq_iff_iff]; simp_all [rgtB, okB, namB, nameB_nil] <;> omega), hx⟩
    skip
    refine WL.s rfl (g92) rfl (WL.s rfl (g92) rfl (WL.s rfl (g92) rfl (WL.c rfl (o_pickF rfl (g92) (WL.c rfl (o_ash vB (WL.nil (W.ret (ret1v rfl vB ?_)))))))))
    exact ⟨congrArg Value.bool (by rw [Bool.eq_iff_iff]; simp_all [rgtB, okB, namB, nameB_nil] <;> omega), hx⟩
   skip
   refine WL.s rfl (g87) rfl (WL.s rfl (g87) rfl (WL.s rfl (g87) rfl (WL.c rfl (o_pickF rfl (g87) (WL.c rfl (o_mvh vB (WL.s rfl (rfl) rfl (WL.s rfl (rfl) rfl (WL.s rfl (rfl) rfl (WL.c rfl (o_pickF rfl (rfl) (WL.c rfl (o_ash vB (WL.nil (W.ret (ret1v rfl vB ?_))))))))))))))))
   exact ⟨congrArg Value.bool (by rw [Bool.eq_iff_iff]; simp_all [rgtB, okB, namB, nameB_nil] <;> omega), hx⟩
  try simp only [cs8] at c83
  refine W.seq (W.region (WL.c rfl (o_eq rfl rfl (WL.c rfl (o_ash vB (WL.nil (W.cond rfl (fun c97 => ?_) (fun c97 => ?_))))))))
  ·try simp only [cs8] at c97
   refine W.seq (W.region (WL.c rfl (o_fa 2 TI41 rfl TI9 rfl rfl (WL.c rfl (o_ld TI9 rfl rfl (cell_of hC1 rfl) (WL.c rfl (o_call Try.call41 (lc rfl ln) ((rname_spec x.name _ hn).mono ?_))))))))
   rintro v101 w101 ⟨rfl, rfl⟩
   refine WL.c rfl (o_mvh vB (WL.sp 3 rfl (fun g102 => ?_) (fun g102 => ?_)))
   ·skip
    refine WL.g rfl (g102) rfl (o_fa 5 TI41 rfl TI3 rfl rfl (WL.g rfl (g102) rfl (o_ld TI3 rfl rfl (cell_of hC1 rfl) (WL.g rfl (g102) rfl (o_eq rfl rfl (WL.c rfl (o_pickA rfl rfl (WL.c rfl (o_mvh vB (WL.sp 8 rfl (fun g107 => ?_) (fun g107 => ?_)))))))))))
    ·skip
     refine WL.g rfl (g107) rfl (o_fa 1 TI41 rfl TI3 rfl rfl (WL.g rfl (g107) rfl (o_ld TI3 rfl rfl (cell_of hC1 rfl) (WL.g rfl (g107) rfl (o_eq rfl rfl (WL.c rfl (o_pickA rfl rfl (WL.c rfl (o_ash vB (WL.nil (W.ret (ret1v rfl vB ?_))))))))))))
     exact ⟨congrArg Value.bool (by rw [Bool.eq_iff_iff]; simp_all [rgtB, okB, namB, nameB_nil] <;> omega), hx⟩
    skip
    refine WL.s rfl (g107) rfl (WL.s rfl (g107) rfl (WL.s rfl (g107) rfl (WL.c rfl (o_pickF rfl (g107) (WL.c rfl (o_ash vB (WL.nil (W.ret (ret1v rfl vB ?_)))))))))
    exact ⟨congrArg Value.bool (by rw [Bool.eq_iff_iff]; simp_all [rgtB, okB, namB, nameB_nil] <;> omega), hx⟩
   skip
   refine WL.s rfl (g102) rfl (WL.s rfl (g102) rfl (WL.s rfl (g102) rfl (WL.c rfl (o_pickF rfl (g102) (WL.c rfl (o_mvh vB (WL.s rfl (rfl) rfl (WL.s rfl (rfl) rfl (WL.s rfl (rfl) rfl (WL.c rfl (o_pickF rfl (rfl) (WL.c rfl (o_ash vB (WL.nil (W.ret (ret1v rfl vB ?_))))))))))))))))
   exact ⟨congrArg Value.bool (by rw [Bool.eq_iff_iff]; simp_all [rgtB, okB, namB, nameB_nil] <;> omega), hx⟩
  try simp only [cs8] at c97
  refine W.skip (W.seq (W.region (WL.c rfl (o_ash vB (WL.nil (W.ret (ret1v rfl vB ?_)))))))
  exact ⟨congrArg Value.bool (by rw [Bool.eq_iff_iff]; simp_all [rgtB, okB, namB, nameB_nil] <;> omega), hx⟩
 try simp only [cs8] at c51
 refine W.region (WL.c rfl (o_eq rfl rfl (WL.c rfl (o_ash vB (WL.nil (W.cond rfl (fun c51 => ?_) (fun c51 => ?_)))))))
 ·try simp only [cs8] at c51
  refine W.seq (W.region (WL.c rfl (o_mvh vB (WL.c rfl (o_mvh vB (WL.sp 1 rfl (fun g55 => ?_) (fun g55 => ?_)))))))
  ·skip
   refine WL.g rfl (g55) rfl (o_fa 5 TI41 rfl TI3 rfl rfl (WL.g rfl (g55) rfl (o_ld TI3 rfl rfl (cell_of hC1 rfl) (WL.g rfl (g55) rfl (o_eq rfl rfl (WL.c rfl (o_pickA rfl rfl (WL.c rfl (o_mvh vB (WL.sp 6 rfl (fun g60 => ?_) (fun g60 => ?_)))))))))))
   ·skip
    refine WL.g rfl (g60) rfl (o_fa 1 TI41 rfl TI3 rfl rfl (WL.g rfl (g60) rfl (o_ld TI3 rfl rfl (cell_of hC1 rfl) (WL.g rfl (g60) rfl (o_ge rfl rfl (WL.c rfl (o_pickA rfl rfl (WL.c rfl (o_mvh vB (WL.sp 11 rfl (fun g65 => ?_) (fun g65 => ?_)))))))))))
    ·skip
     refine WL.g rfl (g65) rfl (o_fa 1 TI41 rfl TI3 rfl rfl (WL.g rfl (g65) rfl (o_ld TI3 rfl rfl (cell_of hC1 rfl) (WL.g rfl (g65) rfl (o_le rfl rfl (WL.c rfl (o_pickA rfl rfl (WL.c rfl (o_ash vB (WL.nil (W.ret (ret1v rfl vB ?_))))))))))))
     exact ⟨congrArg Value.bool (by rw [Bool.eq_iff_iff]; simp_all [rgtB, okB, namB, nameB_nil] <;> omega), hx⟩
    skip
    refine WL.s rfl (g65) rfl (WL.s rfl (g65) rfl (WL.s rfl (g65) rfl (WL.c rfl (o_pickF rfl (g65) (WL.c rfl (o_ash vB (WL.nil (W.ret (ret1v rfl vB ?_)))))))))
    exact ⟨congrArg Value.bool (by rw [Bool.eq_iff_iff]; simp_all [rgtB, okB, namB, nameB_nil] <;> omega), hx⟩
   skip
   refine WL.s rfl (g60) rfl (WL.s rfl (g60) rfl (WL.s rfl (g60) rfl (WL.c rfl (o_pickF rfl (g60) (WL.c rfl (o_mvh vB (WL.s rfl (rfl) rfl (WL.s rfl (rfl) rfl (WL.s rfl (rfl) rfl (WL.c rfl (o_pickF rfl (rfl) (WL.c rfl (o_ash vB (WL.nil (W.ret (ret1v rfl vB ?_))))))))))))))))
   exact ⟨congrArg Value.bool (by rw [Bool.eq_iff_iff]; simp_all [rgtB, okB, namB, nameB_nil] <;> omega), hx⟩
  skip
  refine WL.s rfl (g55) rfl (WL.s rfl (g55) rfl (WL.s rfl (g55) rfl (WL.c rfl (o_pickF rfl (g55) (WL.c rfl (o_mvh vB (WL.s rfl (rfl) rfl (WL.s rfl (rfl) rfl (WL.s rfl (rfl) rfl (WL.c rfl (o_pickF rfl (rfl) (WL.c rfl (o_mvh vB (WL.s rfl (rfl) rfl (WL.s rfl (rfl) rfl (WL.s rfl (rfl) rfl (WL.c rfl (o_pickF rfl (rfl) (WL.c rfl (o_ash vB (WL.nil (W.ret (ret1v rfl vB ?_)))))))))))))))))))))))
  exact ⟨congrArg Value.bool (by rw [Bool.eq_iff_iff]; simp_all [rgtB, okB, namB, nameB_nil] <;> omega), hx⟩
 try simp only [cs8] at c51
 refine W.seq (W.region (WL.c rfl (o_eq rfl rfl (WL.c rfl (o_ash vB (WL.nil (W.cond rfl (fun c70 => ?_) (fun c70 => ?_))))))))
 ·try simp only [cs8] at c70
  refine W.seq (W.region (WL.c rfl (o_mvh vB (WL.c rfl (o_mvh vB (WL.sp 1 rfl (fun g73 => ?_) (fun g73 => ?_)))))))
  ·skip
   refine WL.g rfl (g73) rfl (o_fa 5 TI41 rfl TI3 rfl rfl (WL.g rfl (g73) rfl (o_ld TI3 rfl rfl (cell_of hC1 rfl) (WL.g rfl (g73) rfl (o_eq rfl rfl (WL.c rfl (o_pickA rfl rfl (WL.c rfl (o_mvh vB (WL.sp 6 rfl (fun g78 => ?_) (fun g78 => ?_)))))))))))
   ·skip
    refine WL.g rfl (g78) rfl (o_fa 1 TI41 rfl TI3 rfl rfl (WL.g rfl (g78) rfl (o_ld TI3 rfl rfl (cell_of hC1 rfl) (WL.g rfl (g78) rfl (o_eq rfl rfl (WL.c rfl (o_pickA rfl rfl (WL.c rfl (o_ash vB (WL.nil (W.ret (ret1v rfl vB ?_))))))))))))
    exact ⟨congrArg Value.bool (by rw [Bool.eq_iff_iff]; simp_all [rgtB, okB, namB, nameB_nil] <;> omega), hx⟩
   skip
   refine WL.s rfl (g78) rfl (WL.s rfl (g78) rfl (WL.s rfl (g78) rfl (WL.c rfl (o_pickF rfl (g78) (WL.c rfl (o_ash vB (WL.nil (W.ret (ret1v rfl vB ?_)))))))))
   exact ⟨congrArg Value.bool (by rw [Bool.eq_iff_iff]; simp_all [rgtB, okB, namB, nameB_nil] <;> omega), hx⟩
  skip
  refine WL.s rfl (g73) rfl (WL.s rfl (g73) rfl (WL.s rfl (g73) rfl (WL.c rfl (o_pickF rfl (g73) (WL.c rfl (o_mvh vB (WL.s rfl (rfl) rfl (WL.s rfl (rfl) rfl (WL.s rfl (rfl) rfl (WL.c rfl (o_pickF rfl (rfl) (WL.c rfl (o_ash vB (WL.nil (W.ret (ret1v rfl vB ?_))))))))))))))))
  exact ⟨congrArg Value.bool (by rw [Bool.eq_iff_iff]; simp_all [rgtB, okB, namB, nameB_nil] <;> omega), hx⟩
 try simp only [cs8] at c70
 refine W.seq (W.seq (W.region (WL.c rfl (o_eq rfl rfl (WL.c rfl (o_ash vB (WL.nil (W.cond rfl (fun c83 => ?_) (fun c83 => ?_)))))))))
 ·try simp only [cs8] at c83
  refine W.skip (W.cond rfl (fun c83 => ?_) (fun c83 => ?_))
  ·try simp only [cs8] at c83
   refine W.seq (W.region (WL.c rfl (o_mvh vB (WL.c rfl (o_mvh vB (WL.sp 1 rfl (fun g87 => ?_) (fun g87 => ?_)))))))
   ·skip
    refine WL.g rfl (g87) rfl (o_fa 5 TI41 rfl TI3 rfl rfl (WL.g rfl (g87) rfl (o_ld TI3 rfl rfl (cell_of hC1 rfl) (WL.g rfl (g87) rfl (o_ge rfl rfl (WL.c rfl (o_pickA rfl rfl (WL.c rfl (o_mvh vB (WL.sp 6 rfl (fun g92 => ?_) (fun g92 => ?_)))))))))))
    ·skip
     refine WL.g rfl (g92) rfl (o_fa 1 TI41 rfl TI3 rfl rfl (WL.g rfl (g92) rfl (o_ld TI3 rfl rfl (cell_of hC1 rfl) (WL.g rfl (g92) rfl (o_eq rfl rfl (WL.c rfl (o_pickA rfl rfl (WL.c rfl (o_ash vB (WL.nil (W.ret (ret1v rfl vB ?_))))))))))))
     exact ⟨congrArg Value.bool (by rw [Bool.eq_iff_iff]; simp_all [rgtB, okB, namB, nameB_nil] <;> omega), hx⟩
    skip
    refine WL.s rfl (g92) rfl (WL.s rfl (g92) rfl (WL.s rfl (g92) rfl (WL.c rfl (o_pickF rfl (g92) (WL.c rfl (o_ash vB (WL.nil (W.ret (ret1v rfl vB ?_)))))))))
    exact ⟨congrArg Value.bool (by rw [Bool.eq_iff_iff]; simp_all [rgtB, okB, namB, nameB_nil] <;> omega), hx⟩
   skip
   refine WL.s rfl (g87) rfl (WL.s rfl (g87) rfl (WL.s rfl (g87) rfl (WL.c rfl (o_pickF rfl (g87) (WL.c rfl (o_mvh vB (WL.s rfl (rfl) rfl (WL.s rfl (rfl) rfl (WL.s rfl (rfl) rfl (WL.c rfl (o_pickF rfl (rfl) (WL.c rfl (o_ash vB (WL.nil (W.ret (ret1v rfl vB ?_))))))))))))))))
   exact ⟨congrArg Value.bool (by rw [Bool.eq_iff_iff]; simp_all [rgtB, okB, namB, nameB_nil] <;> omega), hx⟩
  try simp only [cs8] at c83
  refine W.seq (W.region (WL.c rfl (o_eq rfl rfl (WL.c rfl (o_ash vB (WL.nil (W.cond rfl (fun c97 => ?_) (fun c97 => ?_))))))))
  ·try simp only [cs8] at c97
   refine W.seq (W.region (WL.c rfl (o_fa 2 TI41 rfl TI9 rfl rfl (WL.c rfl (o_ld TI9 rfl rfl (cell_of hC1 rfl) (WL.c rfl (o_call Try.call41 (lc rfl ln) ((rname_spec x.name _ hn).mono ?_))))))))
   rintro v101 w101 ⟨rfl, rfl⟩
   refine WL.c rfl (o_mvh vB (WL.sp 3 rfl (fun g102 => ?_) (fun g102 => ?_)))
   ·skip
    refine WL.g rfl (g102) rfl (o_fa 5 TI41 rfl TI3 rfl rfl (WL.g rfl (g102) rfl (o_ld TI3 rfl rfl (cell_of hC1 rfl) (WL.g rfl (g102) rfl (o_eq rfl rfl (WL.c rfl (o_pickA rfl rfl (WL.c rfl (o_mvh vB (WL.sp 8 rfl (fun g107 => ?_) (fun g107 => ?_)))))))))))
    ·skip
     refine WL.g rfl (g107) rfl (o_fa 1 TI41 rfl TI3 rfl rfl (WL.g rfl (g107) rfl (o_ld TI3 rfl rfl (cell_of hC1 rfl) (WL.g rfl (g107) rfl (o_eq rfl rfl (WL.c rfl (o_pickA rfl rfl (WL.c rfl (o_ash vB (WL.nil (W.ret (ret1v rfl vB ?_))))))))))))
     exact ⟨congrArg Value.bool (by rw [Bool.eq_iff_iff]; simp_all [rgtB, okB, namB, nameB_nil] <;> omega), hx⟩
    skip
    refine WL.s rfl (g107) rfl (WL.s rfl (g107) rfl (WL.s rfl (g107) rfl (WL.c rfl (o_pickF rfl (g107) (WL.c rfl (o_ash vB (WL.nil (W.ret (ret1v rfl vB ?_)))))))))
    exact ⟨congrArg Value.bool (by rw [Bool.eq_iff_iff]; simp_all [rgtB, okB, namB, nameB_nil] <;> omega), hx⟩
   skip
   refine WL.s rfl (g102) rfl (WL.s rfl (g102) rfl (WL.s rfl (g102) rfl (WL.c rfl (o_pickF rfl (g102) (WL.c rfl (o_mvh vB (WL.s rfl (rfl) rfl (WL.s rfl (rfl) rfl (WL.s rfl (rfl) rfl (WL.c rfl (o_pickF rfl (rfl) (WL.c rfl (o_ash vB (WL.nil (W.ret (ret1v rfl vB ?_))))))))))))))))
   exact ⟨congrArg Value.bool (by rw [Bool.eq_iff_iff]; simp_all [rgtB, okB, namB, nameB_nil] <;> omega), hx⟩
  try simp only [cs8] at c97
  refine W.skip (W.seq (W.region (WL.c rfl (o_ash vB (WL.nil (W.ret (ret1v rfl vB ?_)))))))
  exact ⟨congrArg Value.bool (by rw [Bool.eq_iff_iff]; simp_all [rgtB, okB, namB, nameB_nil] <;> omega), hx⟩
 try simp only [cs8] at c83
 refine W.region (WL.c rfl (o_eq rfl rfl (WL.c rfl (o_ash vB (WL.nil (W.cond rfl (fun c83 => ?_) (fun c83 => ?_)))))))
 ·try simp only [cs8] at c83
  refine W.seq (W.region (WL.c rfl (o_mvh vB (WL.c rfl (o_mvh vB (WL.sp 1 rfl (fun g87 => ?_) (fun g87 => ?_)))))))
  ·skip
   refine WL.g rfl (g87) rfl (o_fa 5 TI41 rfl TI3 rfl rfl (WL.g rfl (g87) rfl (o_ld TI3 rfl rfl (cell_of hC1 rfl) (WL.g rfl (g87) rfl (o_ge rfl rfl (WL.c rfl (o_pickA rfl rfl (WL.c rfl (o_mvh vB (WL.sp 6 rfl (fun g92 => ?_) (fun g92 => ?_)))))))))))
   ·skip
    refine WL.g rfl (g92) rfl (o_fa 1 TI41 rfl TI3 rfl rfl (WL.g rfl (g92) rfl (o_ld TI3 rfl rfl (cell_of hC1 rfl) (WL.g rfl (g92) rfl (o_eq rfl rfl (WL.c rfl (o_pickA rfl rfl (WL.c rfl (o_ash vB (WL.nil (W.ret (ret1v rfl vB ?_))))))))))))
    exact ⟨congrArg Value.bool (by rw [Bool.eq_iff_iff]; simp_all [rgtB, okB, namB, nameB_nil] <;> omega), hx⟩
   skip
   refine WL.s rfl (g92) rfl (WL.s rfl (g92) rfl (WL.s rfl (g92) rfl (WL.c rfl (o_pickF rfl (g92) (WL.c rfl (o_ash vB (WL.nil (W.ret (ret1v rfl vB ?_)))))))))
   exact ⟨congrArg Value.bool (by rw [Bool.eq_iff_iff]; simp_all [rgtB, okB, namB, nameB_nil] <;> omega), hx⟩
  skip
  refine WL.s rfl (g87) rfl (WL.s rfl (g87) rfl (WL.s rfl (g87) rfl (WL.c rfl (o_pickF rfl (g87) (WL.c rfl (o_mvh vB (WL.s rfl (rfl) rfl (WL.s rfl (rfl) rfl (WL.s rfl (rfl) rfl (WL.c rfl (o_pickF rfl (rfl) (WL.c rfl (o_ash vB (WL.nil (W.ret (ret1v rfl vB ?_))))))))))))))))
  exact ⟨congrArg Value.bool (by rw [Bool.eq_iff_iff]; simp_all [rgtB, okB, namB, nameB_nil] <;> omega), hx⟩
 try simp only [cs8] at c83
 refine W.seq (W.region (WL.c rfl (o_eq rfl rfl (WL.c rfl (o_ash vB (WL.nil (W.cond rfl (fun c97 => ?_) (fun c97 => ?_))))))))
 ·try simp only [cs8] at c97
  refine W.seq (W.region (WL.c rfl (o_fa 2 TI41 rfl TI9 rfl rfl (WL.c rfl (o_ld TI9 rfl rfl (cell_of hC1 rfl) (WL.c rfl (o_call Try.call41 (lc rfl ln) ((rname_spec x.name _ hn).mono ?_))))))))
  rintro v101 w101 ⟨rfl, rfl⟩
  refine WL.c rfl (o_mvh vB (WL.sp 3 rfl (fun g102 => ?_) (fun g102 => ?_)))
  ·skip
   refine WL.g rfl (g102) rfl (o_fa 5 TI41 rfl TI3 rfl rfl (WL.g rfl (g102) rfl (o_ld TI3 rfl rfl (cell_of hC1 rfl) (WL.g rfl (g102) rfl (o_eq rfl rfl (WL.c rfl (o_pickA rfl rfl (WL.c rfl (o_mvh vB (WL.sp 8 rfl (fun g107 => ?_) (fun g107 => ?_)))))))))))
   ·skip
    refine WL.g rfl (g107) rfl (o_fa 1 TI41 rfl TI3 rfl rfl (WL.g rfl (g107) rfl (o_ld TI3 rfl rfl (cell_of hC1 rfl) (WL.g rfl (g107) rfl (o_eq rfl rfl (WL.c rfl (o_pickA rfl rfl (WL.c rfl (o_ash vB (WL.nil (W.ret (ret1v rfl vB ?_))))))))))))
    exact ⟨congrArg Value.bool (by rw [Bool.eq_iff_iff]; simp_all [rgtB, okB, namB, nameB_nil] <;> omega), hx⟩
   skip
   refine WL.s rfl (g107) rfl (WL.s rfl (g107) rfl (WL.s rfl (g107) rfl (WL.c rfl (o_pickF rfl (g107) (WL.c rfl (o_ash vB (WL.nil (W.ret (ret1v rfl vB ?_)))))))))
   exact ⟨congrArg Value.bool (by rw [Bool.eq_iff_iff]; simp_all [rgtB, okB, namB, nameB_nil] <;> omega), hx⟩
  skip
  refine WL.s rfl (g102) rfl (WL.s rfl (g102) rfl (WL.s rfl (g102) rfl (WL.c rfl (o_pickF rfl (g102) (WL.c rfl (o_mvh vB (WL.s rfl (rfl) rfl (WL.s rfl (rfl) rfl (WL.s rfl (rfl) rfl (WL.c rfl (o_pickF rfl (rfl) (WL.c rfl (o_ash vB (WL.nil (W.ret (ret1v rfl vB ?_))))))))))))))))
  exact ⟨congrArg Value.bool (by rw [Bool.eq_iff_iff]; simp_all [rgtB, okB, namB, nameB_nil] <;> omega), hx⟩
 try simp only [cs8] at c97
 refine W.skip (W.seq (W.region (WL.c rfl (o_ash vB (WL.nil (W.ret (ret1v rfl vB ?_)))))))
 exact ⟨congrArg Value.bool (by rw [Bool.eq_iff_iff]; simp_all [rgtB, okB, namB, nameB_nil] <;> omega), hx⟩
theorem placed_spec (x : Ex) (above : Int) (w0 : World) (hl : x.label.length ≤ 9223372036854775807) : Ca Try.prog 86 #[.agg (exV x).toArray, .int .i64 above] w0 (fun v w' => v = .bool (plcB x above) ∧ Ext w0 w') := by
 refine Ca.of Try.func86 Try.ntmps86 rfl rfl (W.seq (W.region (WL.c rfl (o_boxB rfl ?_))))
 intro w1 hC1 hx hs1
 obtain ⟨c1, hc1⟩ : ∃ c, c = w0.heap.size := ⟨_, rfl⟩
 rw [← hc1] at hC1 ⊢
 replace hC1 : w1.heap[c1]? = some (.cells (exV x).toArray 41 (0, 0)) := hC1
 refine WL.c rfl (o_ash vB (WL.nil (W.seq (W.region (WL.c rfl (o_fa 3 TI41 rfl TI9 rfl rfl (WL.c rfl (o_ld TI9 rfl rfl (cell_of hC1 rfl) (WL.c rfl (o_eqT rfl rfl (WL.c rfl (o_ash vB (WL.nil (W.seq (W.region (WL.c rfl (o_fa 4 TI41 rfl TI3 rfl rfl (WL.c rfl (o_ld TI3 rfl rfl (cell_of hC1 rfl) (WL.c rfl (o_eq rfl rfl (WL.c rfl (o_ash vB (WL.nil (W.seq (W.seq (W.region (WL.c rfl (o_mvh vI (WL.c rfl (o_eq rfl rfl (WL.nil (W.cond rfl (fun c14 => ?_) (fun c14 => ?_))))))))))))))))))))))))))))))))))
 ·try simp only [cs8] at c14
  refine W.region (WL.c rfl (o_fa 3 TI41 rfl TI9 rfl rfl (WL.c rfl (o_ld TI9 rfl rfl (cell_of hC1 rfl) (WL.c rfl (o_call Try.call41 (lc rfl ln) ((rname_spec x.label _ hl).mono ?_)))))))
  rintro v17 w17 ⟨rfl, rfl⟩
  refine WL.c rfl (o_ash vB (WL.nil (W.seq (W.seq (W.region (WL.c rfl (o_mvh vI (WL.c rfl (o_eq rfl rfl (WL.nil (W.cond rfl (fun c19 => ?_) (fun c19 => ?_))))))))))))
  ·try simp only [cs8] at c19
   refine W.region (WL.c rfl (o_fa 4 TI41 rfl TI3 rfl rfl (WL.c rfl (o_ld TI3 rfl rfl (cell_of hC1 rfl) (WL.c rfl (o_ge rfl rfl (WL.c rfl (o_mvh vB (WL.sp 3 rfl (fun g23 => ?_) (fun g23 => ?_))))))))))
   ·skip
    refine WL.g rfl (g23) rfl (o_fa 4 TI41 rfl TI3 rfl rfl (WL.g rfl (g23) rfl (o_ld TI3 rfl rfl (cell_of hC1 rfl) (WL.g rfl (g23) rfl (o_le rfl rfl (WL.c rfl (o_pickA rfl rfl (WL.c rfl (o_ash vB (WL.nil (W.seq (W.region (WL.c rfl (o_mvh vB (WL.c rfl (o_mvh vB (WL.sp 1 rfl (fun g29 => ?_) (fun g29 => ?_))))))))))))))))))
    ·skip
     refine WL.g rfl (g29) rfl (o_mvh vB (WL.c rfl (o_pickA rfl rfl (WL.c rfl (o_ash vB (WL.nil (W.ret (ret1v rfl vB ?_))))))))
     exact ⟨congrArg Value.bool (by rw [Bool.eq_iff_iff]; simp_all [plcB, labB, tagB] <;> omega), hx⟩
    skip
    refine WL.s rfl (g29) rfl (WL.c rfl (o_pickF rfl (g29) (WL.c rfl (o_ash vB (WL.nil (W.ret (ret1v rfl vB ?_)))))))
    exact ⟨congrArg Value.bool (by rw [Bool.eq_iff_iff]; simp_all [plcB, labB, tagB] <;> omega), hx⟩
   skip
   refine WL.s rfl (g23) rfl (WL.s rfl (g23) rfl (WL.s rfl (g23) rfl (WL.c rfl (o_pickF rfl (g23) (WL.c rfl (o_ash vB (WL.nil (W.seq (W.region (WL.c rfl (o_mvh vB (WL.c rfl (o_mvh vB (WL.sp 1 rfl (fun g29 => ?_) (fun g29 => ?_)))))))))))))))
   ·skip
    refine WL.g rfl (g29) rfl (o_mvh vB (WL.c rfl (o_pickA rfl rfl (WL.c rfl (o_ash vB (WL.nil (W.ret (ret1v rfl vB ?_))))))))
    exact ⟨congrArg Value.bool (by rw [Bool.eq_iff_iff]; simp_all [plcB, labB, tagB] <;> omega), hx⟩
   skip
   refine WL.s rfl (g29) rfl (WL.c rfl (o_pickF rfl (g29) (WL.c rfl (o_ash vB (WL.nil (W.ret (ret1v rfl vB ?_)))))))
   exact ⟨congrArg Value.bool (by rw [Bool.eq_iff_iff]; simp_all [plcB, labB, tagB] <;> omega), hx⟩
  try simp only [cs8] at c19
  refine W.skip (W.seq (W.region (WL.c rfl (o_mvh vB (WL.c rfl (o_mvh vB (WL.sp 1 rfl (fun g29 => ?_) (fun g29 => ?_))))))))
  ·skip
   refine WL.g rfl (g29) rfl (o_mvh vB (WL.c rfl (o_pickA rfl rfl (WL.c rfl (o_ash vB (WL.nil (W.ret (ret1v rfl vB ?_))))))))
   exact ⟨congrArg Value.bool (by rw [Bool.eq_iff_iff]; simp_all [plcB, labB, tagB] <;> omega), hx⟩
  skip
  refine WL.s rfl (g29) rfl (WL.c rfl (o_pickF rfl (g29) (WL.c rfl (o_ash vB (WL.nil (W.ret (ret1v rfl vB ?_)))))))
  exact ⟨congrArg Value.bool (by rw [Bool.eq_iff_iff]; simp_all [plcB, labB, tagB] <;> omega), hx⟩
 try simp only [cs8] at c14
 refine W.skip (W.seq (W.seq (W.region (WL.c rfl (o_mvh vI (WL.c rfl (o_eq rfl rfl (WL.nil (W.cond rfl (fun c19 => ?_) (fun c19 => ?_))))))))))
 ·try simp only [cs8] at c19
  refine W.region (WL.c rfl (o_fa 4 TI41 rfl TI3 rfl rfl (WL.c rfl (o_ld TI3 rfl rfl (cell_of hC1 rfl) (WL.c rfl (o_ge rfl rfl (WL.c rfl (o_mvh vB (WL.sp 3 rfl (fun g23 => ?_) (fun g23 => ?_))))))))))
  ·skip
   refine WL.g rfl (g23) rfl (o_fa 4 TI41 rfl TI3 rfl rfl (WL.g rfl (g23) rfl (o_ld TI3 rfl rfl (cell_of hC1 rfl) (WL.g rfl (g23) rfl (o_le rfl rfl (WL.c rfl (o_pickA rfl rfl (WL.c rfl (o_ash vB (WL.nil (W.seq (W.region (WL.c rfl (o_mvh vB (WL.c rfl (o_mvh vB (WL.sp 1 rfl (fun g29 => ?_) (fun g29 => ?_))))))))))))))))))
   ·skip
    refine WL.g rfl (g29) rfl (o_mvh vB (WL.c rfl (o_pickA rfl rfl (WL.c rfl (o_ash vB (WL.nil (W.ret (ret1v rfl vB ?_))))))))
    exact ⟨congrArg Value.bool (by rw [Bool.eq_iff_iff]; simp_all [plcB, labB, tagB] <;> omega), hx⟩
   skip
   refine WL.s rfl (g29) rfl (WL.c rfl (o_pickF rfl (g29) (WL.c rfl (o_ash vB (WL.nil (W.ret (ret1v rfl vB ?_)))))))
   exact ⟨congrArg Value.bool (by rw [Bool.eq_iff_iff]; simp_all [plcB, labB, tagB] <;> omega), hx⟩
  skip
  refine WL.s rfl (g23) rfl (WL.s rfl (g23) rfl (WL.s rfl (g23) rfl (WL.c rfl (o_pickF rfl (g23) (WL.c rfl (o_ash vB (WL.nil (W.seq (W.region (WL.c rfl (o_mvh vB (WL.c rfl (o_mvh vB (WL.sp 1 rfl (fun g29 => ?_) (fun g29 => ?_)))))))))))))))
  ·skip
   refine WL.g rfl (g29) rfl (o_mvh vB (WL.c rfl (o_pickA rfl rfl (WL.c rfl (o_ash vB (WL.nil (W.ret (ret1v rfl vB ?_))))))))
   exact ⟨congrArg Value.bool (by rw [Bool.eq_iff_iff]; simp_all [plcB, labB, tagB] <;> omega), hx⟩
  skip
  refine WL.s rfl (g29) rfl (WL.c rfl (o_pickF rfl (g29) (WL.c rfl (o_ash vB (WL.nil (W.ret (ret1v rfl vB ?_)))))))
  exact ⟨congrArg Value.bool (by rw [Bool.eq_iff_iff]; simp_all [plcB, labB, tagB] <;> omega), hx⟩
 try simp only [cs8] at c19
 refine W.skip (W.seq (W.region (WL.c rfl (o_mvh vB (WL.c rfl (o_mvh vB (WL.sp 1 rfl (fun g29 => ?_) (fun g29 => ?_))))))))
 ·skip
  refine WL.g rfl (g29) rfl (o_mvh vB (WL.c rfl (o_pickA rfl rfl (WL.c rfl (o_ash vB (WL.nil (W.ret (ret1v rfl vB ?_))))))))
  exact ⟨congrArg Value.bool (by rw [Bool.eq_iff_iff]; simp_all [plcB, labB, tagB] <;> omega), hx⟩
 skip
 refine WL.s rfl (g29) rfl (WL.c rfl (o_pickF rfl (g29) (WL.c rfl (o_ash vB (WL.nil (W.ret (ret1v rfl vB ?_)))))))
 exact ⟨congrArg Value.bool (by rw [Bool.eq_iff_iff]; simp_all [plcB, labB, tagB] <;> omega), hx⟩
end Go.Proofs.Ytpbflfgigfdohaa

namespace Go.Proofs.Ytpbflfgigfdohaa
open Go Go.Vc Go.RowKit Go.Proofs

def opV2 (o : Opn) : List Value := [.int .i64 o.kind, .int .i64 o.left]
def opsQ (S : List Opn) : List Value := S.reverse.flatMap opV2
theorem opsQ_cons (o : Opn) (S : List Opn) : opsQ (o :: S) = opsQ S ++ opV2 o := by simp [opsQ]
theorem opsQ_len (S : List Opn) : (opsQ S).length = S.length * 2 := by
 induction S with
 | nil => rfl
 | cons o S ih => rw [opsQ_cons, List.length_append, ih, List.length_cons]; show _ + 2 = _; omega
theorem opsQ_get {o : Opn} {S : List Opn} {k : Nat} (v : Value) (h : (opV2 o)[k]? = some v) : (opsQ (o :: S))[S.length * 2 + k]? = some v := by
 rw [opsQ_cons, List.getElem?_append_right (by rw [opsQ_len]; omega), opsQ_len, Nat.add_sub_cancel_left, h]
theorem opsQ_take {o : Opn} {S : List Opn} : (opsQ (o :: S)).take (S.length * 2) = opsQ S := by
 rw [opsQ_cons]; exact List.take_left' (opsQ_len S)
theorem opsQ_set {o : Opn} {S : List Opn} {z : Int} : (opsQ (o :: S)).set (S.length * 2 + 1) (.int .i64 z) = opsQ ({ o with left := z } :: S) := by
 rw [opsQ_cons, opsQ_cons, List.set_append_right _ _ (by rw [opsQ_len]; omega), opsQ_len, Nat.add_sub_cancel_left]
 rfl
theorem leftB_z {o : Opn} {S : List Opn} (h : o.left = 0) : leftB (o :: S) = leftB S := by rw [leftB, List.any_cons, h]; rfl
theorem leftB_n {o : Opn} {S : List Opn} (h : ¬ o.left = 0) (h0 : 0 ≤ o.left) : leftB (o :: S) = true := by rw [leftB, List.any_cons, decide_eq_true (by omega)]; rfl

set_option maxHeartbeats 4000000 in
theorem nodes_spec (l : List Ex) (v : Value) (w0 : World) (hS : Sl w0 7 v l.length (exs l)) (hl : l.length ≤ 4611686018427387904) (hln : ∀ x ∈ l, x.name.length ≤ 9223372036854775807 ∧ x.label.length ≤ 9223372036854775807) : Ca Try.prog 63 #[v] w0 (fun r w' => r = .tuple #[.int .i64 ((chkT l).1 : Int), .int .i64 ((chkT l).2 : Int)] ∧ Ext w0 w') := by
 have hx : Ext w0 w0 := Only.refl _ _
 refine Ca.of Try.func63 Try.ntmps63 rfl rfl (W.seq (W.region (WL.c rfl (o_ash vI (WL.c rfl (o_ash vI (WL.nil (W.seq (W.region (WL.c rfl (o_bldC (cs := [(.int .i64 0), (.int .i64 1)]) TI143 (Sizes.cons TI3 (Sizes.cons TI3 Sizes.nil)) rfl (lcp vI (lcp vI lnp)) rfl rfl (WL.c rfl (o_bs1 TI144 TI143 (show _ = Value.agg #[.int .i64 0, .int .i64 1] from rfl) (by decide) (by decide) rfl ?_)))))))))))))
 have hown : (w0.alloc (.cells (Value.agg #[.int .i64 0, .int .i64 1]).cells 143)).ownsRow w0.heap.size 143 2 (.slice (some ⟨w0.heap.size, 0, none⟩) 1 1) [(⟨0, 1, 0⟩ : Opn)].length (opsQ [⟨0, 1, 0⟩]) := own_new1 rfl
 replace hx : Ext w0 (w0.alloc (.cells (Value.agg #[.int .i64 0, .int .i64 1]).cells 143)) := Only.alloc w0 _
 generalize w0.alloc (.cells (Value.agg #[.int .i64 0, .int .i64 1]).cells 143) = w1 at *
 refine WL.c rfl (o_ash (by first | exact vS | exact rfl) (WL.nil (W.seq (W.region (WL.c rfl (o_ash vI (WL.nil (W.block (W.loop (fun e w => ∃ (i : Nat) (S : List Opn) (sv : Value), i ≤ l.length ∧ e 0 = v ∧ e 4 = sv ∧ e 5 = .int .i64 (i : Int) ∧ w.ownsRow w0.heap.size 143 2 sv S.length (opsQ S) ∧ OkS S ∧ S.length ≤ 18 ∧ chkT l = chkE S i (l.drop i) ∧ Ext w0 w) (fun e w => l.length - (intOf (e 5)).toNat) ?_ ?_)))))))))
 ·refine ⟨0, [⟨0, 1, 0⟩], _, Nat.zero_le _, rfl, rfl, rfl, hown, ⟨rfl, by decide, by decide, trivial⟩, by decide, rfl, hx⟩
 rintro e w ⟨i, S0, sv0, hi, h0, h4, h5, hown, hok, hSl, hres, hx⟩
 have hm5 := h5
 refine W.seq (W.block (W.seq (W.block (W.loop (fun e w => ∃ (S : List Opn) (sv : Value), e 0 = v ∧ e 4 = sv ∧ e 5 = .int .i64 (i : Int) ∧ w.ownsRow w0.heap.size 143 2 sv S.length (opsQ S) ∧ OkS S ∧ S.length ≤ 18 ∧ popZ S0 = popZ S ∧ leftB S0 = leftB S ∧ Ext w0 w) (fun e w => slen (e 4)) ?_ ?_))))
 ·exact ⟨S0, sv0, h0, h4, h5, hown, hok, hSl, rfl, rfl, hx⟩
 rintro e w ⟨S, sv, h0, h4, h5, hown, hok, hSl, hpz, hlb, hx⟩
 have hm4 := h4
 refine W.seq (W.seq ?_)
 rcases S with _ | ⟨o, S⟩
 ·skip
  skip
  refine W.region (WL.c rfl (o_mvh h4 (WL.c rfl (o_lenR TI144 rfl (Sl.own hown) (WL.c rfl (o_gt rfl rfl (WL.c rfl (o_mvh vB (WL.s rfl (decide_eq_false (by simp)) rfl (WL.s rfl (decide_eq_false (by simp)) rfl (WL.s rfl (decide_eq_false (by simp)) rfl (WL.s rfl (decide_eq_false (by simp)) rfl (WL.s rfl (decide_eq_false (by simp)) rfl (WL.s rfl (decide_eq_false (by simp)) rfl (WL.s rfl (decide_eq_false (by simp)) rfl (WL.s rfl (decide_eq_false (by simp)) rfl (WL.c rfl (o_pickF rfl (decide_eq_false (by simp)) (WL.nil (W.condF' rfl (rfl) (W.exit (W.seq (W.seq (W.region (WL.c rfl (o_mvh h4 (WL.c rfl (o_lenR TI144 rfl (Sl.own hown) (WL.c rfl (o_eq rfl rfl (WL.c rfl (o_mvh vB (WL.g rfl (by simp) rfl (o_mvh h5 (WL.g rfl (by simp) rfl (o_mvh h0 (WL.g rfl (by simp) rfl (o_lenR TI37 rfl (hS.ext hx) (WL.g rfl (by simp) rfl (o_eq rfl rfl (WL.c rfl (o_pickA rfl rfl (WL.nil (W.cond rfl (fun c38 => ?_) (fun c38 => ?_)))))))))))))))))))))))))))))))))))))))))))))
  ·try simp only [cs8] at c38
   have hil : i = l.length := by simp at c38; omega
   rw [hil, List.drop_length, chkE_nil, hlb, if_neg (by simp [leftB])] at hres
   refine W.seq (W.region (WL.c rfl (o_ash vI (WL.c rfl (o_ash vI (WL.nil (W.ret (ret2v rfl vI vI ?_))))))))
   rw [hres]
   exact ⟨rfl, hx⟩
  try simp only [cs8] at c38
  have hil : i < l.length := by simp at c38; omega
  have hlc : l.drop i = l[i] :: l.drop (i + 1) := (List.getElem_cons_drop hil).symm
  have h062 := hres.trans (by rw [hlc, chkE_z hpz])
  refine W.skip (W.seq (W.seq (W.region (WL.c rfl (o_mvh h4 (WL.c rfl (o_lenR TI144 rfl (Sl.own hown) (WL.c rfl (o_eq rfl rfl (WL.c rfl (o_mvh vB (WL.s rfl (by simp) rfl (WL.s rfl (by simp) rfl (WL.s rfl (by simp) rfl (WL.s rfl (by simp) rfl (WL.c rfl (o_pickT rfl (by simp) (WL.nil (W.condT' rfl (by simp) (W.seq (W.region (WL.c rfl (o_mvh h5 (WL.c rfl (o_ash vI (WL.c rfl (o_ash vI (WL.nil (W.ret (ret2v rfl vI vI ?_))))))))))))))))))))))))))))))
  rw [h062]
  exact ⟨rfl, hx⟩
 skip
 replace hown : w.ownsRow w0.heap.size 143 2 sv (S.length + 1) (opsQ (o :: S)) := hown
 obtain ⟨g, cap, rfl, hgb⟩ := own_some hown (by omega)
 have hcap : S.length + 1 ≤ cap := by obtain ⟨_, _, hv, hh⟩ := own_form hown; cases hv; exact hh
 obtain ⟨hdp, hlo, hhi, hok2⟩ := OkS_cons.1 hok
 have hSl2 : S.length + 1 ≤ 18 := hSl
 refine W.region (WL.c rfl (o_mvh h4 (WL.c rfl (o_lenR TI144 rfl (Sl.own hown) (WL.c rfl (o_gt rfl rfl (WL.c rfl (o_mvh vB (WL.g rfl (decide_eq_true (by omega)) rfl (o_mvh h4 (WL.g rfl (decide_eq_true (by omega)) rfl (o_mvh h4 (WL.g rfl (decide_eq_true (by omega)) rfl (o_lenR TI144 rfl (Sl.own hown) (WL.g rfl (decide_eq_true (by omega)) rfl (o_subi rfl rfl (by omega) (WL.g rfl (decide_eq_true (by omega)) rfl (o_ixB (i := S.length) TI144 TI143 rfl (by show Value.int .i64 _ = _; congr 1; omega) (by omega) (WL.g rfl (decide_eq_true (by omega)) rfl (o_fa 1 TI143 rfl TI3 rfl rfl (WL.g rfl (decide_eq_true (by omega)) rfl (o_ld TI3 rfl rfl (own_cell hown (j := 0 + S.length * 2 + 1) (by rw [Nat.zero_add]; exact opsQ_get _ rfl)) (WL.g rfl (decide_eq_true (by omega)) rfl (o_eq rfl rfl (WL.c rfl (o_pickA rfl rfl (WL.nil (W.cond rfl (fun c24 => ?_) (fun c24 => ?_)))))))))))))))))))))))))))))
 ·try simp only [cs8] at c24
  have hz : o.left = 0 := c24.2
  refine W.skip (W.block (W.region (WL.c rfl (o_mvh h4 (WL.c rfl (o_mvh h4 (WL.c rfl (o_lenR TI144 rfl (Sl.own hown) (WL.c rfl (o_subi rfl rfl (by omega) (WL.c rfl (o_slv (h := S.length) TI144 TI143 rfl Lo.n (Hi.s (by show Value.int .i64 _ = _; congr 1; omega)) (Nat.zero_le _) (by omega) ?_))))))))))))
  rw [sliced0]
  have hown2 := own_take hown (m := S.length) (by omega)
  rw [opsQ_take] at hown2
  refine WL.c rfl (o_ash (by first | exact vS | exact rfl) (WL.nil (⟨⟨S, _, h0, rfl, h5, hown2, hok.2.2.2, by omega, by rw [hpz, popZ_z hz], by rw [hlb, leftB_z hz], hx⟩, ?_⟩)))
  rw [hm4]; show S.length < S.length + 1; omega
 try simp only [cs8] at c24
 have hz : ¬ o.left = 0 := fun hz => by rcases c24 with c | c; omega; exact c hz
 have hpz2 := hpz.trans (popZ_n hz)
 refine W.exit (W.seq (W.seq (W.region (WL.c rfl (o_mvh h4 (WL.c rfl (o_lenR TI144 rfl (Sl.own hown) (WL.c rfl (o_eq rfl rfl (WL.c rfl (o_mvh vB (WL.s rfl (decide_eq_false (by omega)) rfl (WL.s rfl (decide_eq_false (by omega)) rfl (WL.s rfl (decide_eq_false (by omega)) rfl (WL.s rfl (decide_eq_false (by omega)) rfl (WL.c rfl (o_pickF rfl (decide_eq_false (by omega)) (WL.nil (W.condF' rfl (rfl) (W.skip (W.seq (W.seq (W.region (WL.c rfl (o_mvh h4 (WL.c rfl (o_lenR TI144 rfl (Sl.own hown) (WL.c rfl (o_eq rfl rfl (WL.c rfl (o_mvh vB (WL.g rfl (decide_eq_false (by omega)) rfl (o_mvh h5 (WL.g rfl (decide_eq_false (by omega)) rfl (o_mvh h0 (WL.g rfl (decide_eq_false (by omega)) rfl (o_lenR TI37 rfl (hS.ext hx) (WL.g rfl (decide_eq_false (by omega)) rfl (o_eq rfl rfl (WL.c rfl (o_pickO rfl rfl (WL.nil (W.cond rfl (fun c47 => ?_) (fun c47 => ?_))))))))))))))))))))))))))))))))))))))))))))
 ·try simp only [cs8] at c47
  have hil : i = l.length := by simp at c47; omega
  rw [hil, List.drop_length, chkE_nil, hlb, leftB_n hz hlo, if_pos rfl] at hres
  refine W.seq (W.region (WL.c rfl (o_mvh h5 (WL.c rfl (o_ash vI (WL.c rfl (o_ash vI (WL.nil (W.ret (ret2v rfl vI vI ?_))))))))))
  rw [hres]
  exact ⟨by rw [hil]; rfl, hx⟩
 try simp only [cs8] at c47
 have hil : i < l.length := by simp at c47; omega
 have hlc : l.drop i = l[i] :: l.drop (i + 1) := (List.getElem_cons_drop hil).symm
 have hres2 := hres.trans (by rw [hlc, chkE_o hpz2])
 obtain ⟨tb, to_, tc, hvv, htc⟩ := Sl.exq (hS.ext hx) hil
 refine W.skip (W.seq (W.region (WL.c rfl (o_mvh h0 (WL.c rfl (o_mvh h5 (WL.c rfl (o_ixB (i := i) TI37 TI41 (show _ = _ from hvv) rfl (by omega) (WL.c rfl (o_ldA TI41 rfl rfl htc rfl (WL.c rfl (o_alB TI41 ?_))))))))))))
 intro w6 hC6 hx6 hs6
 refine WL.u (o_stA TI41 rfl (show _ = Value.agg (exV l[i]).toArray from rfl) rfl rfl hC6 rfl ?_)
 intro w7 hC7 ho7 hs7
 have hxb := Ext.own hx6 (Nat.le_refl _) ho7
 clear hC6 hx6 hs6 ho7 hs7 htc
 have hgw := (hown.lt g rfl).2
 have hgl := (hown.lt g rfl).1
 replace hown := own_ext hown hxb
 replace hx := hx.tr hxb
 obtain ⟨c6, hc6⟩ : ∃ c, c = w.heap.size := ⟨_, rfl⟩
 rw [← hc6] at hC7 ⊢
 have hcg : ¬ g = c6 := by omega
 refine WL.nil (W.seq (W.region (WL.c rfl (o_mvh h4 (WL.c rfl (o_lenR TI144 rfl (Sl.own hown) (WL.c rfl (o_subi rfl rfl (by omega) ?_))))))))
 rw [show (((S.length + 1 : Nat) : Int) - 1) = (S.length : Int) by omega]
 refine WL.c rfl (o_ash vI (WL.nil (W.seq (W.block (W.seq (W.region (WL.c rfl (o_mvh vI (WL.c rfl (o_gt rfl rfl (WL.c rfl (o_ash vB (WL.nil (W.cond rfl (fun c56 => ?_) (fun c56 => ?_)))))))))))))))
 ·try simp only [cs8] at c56
  have hdeep : 16 < o.deep := by omega
  rw [if_pos hdeep] at hres2
  refine W.seq (W.region (WL.c rfl (o_mvh h5 (WL.c rfl (o_ash vI (WL.c rfl (o_ash vI (WL.nil (W.ret (ret2v rfl vI vI ?_))))))))))
  rw [hres2]
  exact ⟨rfl, hx⟩
 try simp only [cs8] at c56
 have hdeep : ¬ 16 < o.deep := by omega
 rw [if_neg hdeep] at hres2
 refine W.seq (W.seq (W.region (WL.c rfl (o_fa 0 TI41 rfl TI3 rfl rfl (WL.c rfl (o_ld TI3 rfl rfl (cell_of hC7 rfl) (WL.c rfl (o_eq rfl rfl (WL.c rfl (o_mvh vB (WL.sp 3 rfl (fun g64 => ?_) (fun g64 => ?_))))))))))))
 ·skip
  refine WL.g rfl (g64) rfl (o_fa 5 TI41 rfl TI3 rfl rfl (WL.g rfl (g64) rfl (o_ld TI3 rfl rfl (cell_of hC7 rfl) (WL.g rfl (g64) rfl (o_gt rfl rfl (WL.c rfl (o_pickA rfl rfl (WL.c rfl (o_ash vB (WL.nil (W.cut (fun e1 w1 => e1 0 = v ∧ e1 4 = Value.slice (some ⟨g, 0, none⟩) (S.length + 1) cap ∧ e1 5 = .int .i64 (i : Int) ∧ e1 6 = .pointer (some ⟨c6, 0, none⟩) ∧ e1 7 = .int .i64 (S.length : Int) ∧ e1 60 = .bool (manyB l[i]) ∧ w1 = w7) ?_ ?_)))))))))))
  ·-- both ways
   refine W.cond rfl (fun c60 => ?_) (fun c60 => ?_)
   ·try simp only [cs8] at c60
    refine W.skip ?_
    exact ⟨h0, h4, h5, rfl, rfl, congrArg Value.bool (by rw [Bool.eq_iff_iff]; (try simp only [decide_eq_true_eq, decide_eq_false_iff_not] at g64); (try simp only [decide_eq_true_eq, decide_eq_false_iff_not] at g72); (try (cases c60; done)); all_goals simp only [manyB, Bool.or_eq_true, Bool.and_eq_true, decide_eq_true_eq, Bool.false_eq_true, false_iff]; all_goals omega), rfl⟩
   try simp only [cs8] at c60
   refine W.region (WL.c rfl (o_fa 0 TI41 rfl TI3 rfl rfl (WL.c rfl (o_ld TI3 rfl rfl (cell_of hC7 rfl) (WL.c rfl (o_eq rfl rfl (WL.c rfl (o_mvh vB (WL.sp 3 rfl (fun g72 => ?_) (fun g72 => ?_))))))))))
   ·skip
    refine WL.g rfl (g72) rfl (o_fa 5 TI41 rfl TI3 rfl rfl (WL.g rfl (g72) rfl (o_ld TI3 rfl rfl (cell_of hC7 rfl) (WL.g rfl (g72) rfl (o_gt rfl rfl (WL.c rfl (o_pickA rfl rfl (WL.c rfl (o_ash vB (WL.nil ?_))))))))))
    exact ⟨h0, h4, h5, rfl, rfl, congrArg Value.bool (by rw [Bool.eq_iff_iff]; (try simp only [decide_eq_true_eq, decide_eq_false_iff_not] at g64); (try simp only [decide_eq_true_eq, decide_eq_false_iff_not] at g72); (try (cases c60; done)); all_goals simp only [manyB, Bool.or_eq_true, Bool.and_eq_true, decide_eq_true_eq, Bool.false_eq_true, false_iff]; all_goals omega), rfl⟩
   skip
   refine WL.s rfl (g72) rfl (WL.s rfl (g72) rfl (WL.s rfl (g72) rfl (WL.c rfl (o_pickF rfl (g72) (WL.c rfl (o_ash vB (WL.nil ?_)))))))
   exact ⟨h0, h4, h5, rfl, rfl, congrArg Value.bool (by rw [Bool.eq_iff_iff]; (try simp only [decide_eq_true_eq, decide_eq_false_iff_not] at g64); (try simp only [decide_eq_true_eq, decide_eq_false_iff_not] at g72); (try (cases c60; done)); all_goals simp only [manyB, Bool.or_eq_true, Bool.and_eq_true, decide_eq_true_eq, Bool.false_eq_true, false_iff]; all_goals omega), rfl⟩
  rintro e w ⟨h0, h4, h5, h6, h7, h60, rfl⟩
  refine W.cond h60 (fun c60 => ?_) (fun c60 => ?_)
  ·try simp only [cs8] at c60
   refine W.seq ?_
   have hmany : manyB l[i] = true := by simpa using c60
   rw [if_pos hmany] at hres2
   refine W.region (WL.c rfl (o_mvh h5 (WL.c rfl (o_ash vI (WL.c rfl (o_ash vI (WL.nil (W.ret (ret2v rfl vI vI ?_)))))))))
   rw [hres2]
   exact ⟨rfl, hx⟩
  try simp only [cs8] at c60
  refine W.seq ?_
  cases hrgt : rgtB l[i]
  ·skip
   skip
   have hmany : manyB l[i] = false := by simpa using c60
   rw [if_neg (by simp [hmany])] at hres2
   obtain ⟨wd, hwd⟩ : ∃ wd, wd = w.drew := ⟨_, rfl⟩
   have hxd : Ext w wd := hwd ▸ Only.drew w
   replace hown := own_ext hown hxd
   replace hC7 := hxd.blk hC7 (fun h => h)
   replace hx := hx.tr hxd
   refine W.draw (Ext) [(0, fun v _ => v = _), (4, fun v _ => v = _), (5, fun v _ => v = _), (6, fun v _ => v = _), (7, fun v _ => v = _)] rfl (by kernel_rfl) (Only.refl No) (fun _ _ _ h k => h.trans k) ⟨Mono.eq, Mono.eq, Mono.eq, Mono.eq, Mono.eq, trivial⟩ ⟨h0, h4, h5, h6, h7, trivial⟩ (WD.p rfl (fun e w hR hh => by obtain ⟨h6, -⟩ := hh; rw [← hwd] at hR; exact SG.n (o_ldA TI41 rfl h6 (show Cells w c6 0 (exV l[i]) from Cells.of (hR.blk hC7 (fun h => h)) 0 _ (by simp)) rfl ⟨rfl, Only.refl No _⟩)) (WD.p rfl (fun e w hR hh => by obtain ⟨h79, -⟩ := hh; exact SG.n (o_call Try.call85 (lc h79 ln) ((rright_spec l[i] _ (hln _ (List.getElem_mem hil)).1).mono (fun v w' h => h)))) (WD.p rfl (fun e w hR hh => by obtain ⟨h80, -⟩ := hh; exact SG.n (o_not' h80 ⟨rfl, Only.refl No _⟩)) (WD.p rfl (fun e w hR hh => by obtain ⟨h81, -⟩ := hh; exact SG.n (o_mvh h81 ⟨rfl, Only.refl No _⟩)) (WD.p rfl (fun e w hR hh => by obtain ⟨h82, h6, -⟩ := hh; rw [← hwd] at hR; exact SG.s h82 (by simp [hrgt]) ⟨rfl, Only.refl No _⟩) (WD.p rfl (fun e w hR hh => by obtain ⟨h82, h4, -⟩ := hh; exact SG.s h82 (by simp [hrgt]) ⟨rfl, Only.refl No _⟩) (WD.p rfl (fun e w hR hh => by obtain ⟨h82, h7, -⟩ := hh; exact SG.s h82 (by simp [hrgt]) ⟨rfl, Only.refl No _⟩) (WD.p rfl (fun e w hR hh => by obtain ⟨h85, h84, h82, -⟩ := hh; exact SG.s h82 (by simp [hrgt]) ⟨rfl, Only.refl No _⟩) (WD.p rfl (fun e w hR hh => by obtain ⟨h86, h82, -⟩ := hh; exact SG.s h82 (by simp [hrgt]) ⟨rfl, Only.refl No _⟩) (WD.p rfl (fun e w hR hh => by obtain ⟨h87, h82, -⟩ := hh; rw [← hwd] at hR; exact SG.s h82 (by simp [hrgt]) ⟨rfl, Only.refl No _⟩) (WD.p rfl (fun e w hR hh => by obtain ⟨h88, h83, h82, -⟩ := hh; exact SG.s h82 (by simp [hrgt]) ⟨rfl, Only.refl No _⟩) (WD.p rfl (fun e w hR hh => by obtain ⟨h89, h82, -⟩ := hh; exact SG.s h82 (by simp [hrgt]) ⟨rfl, Only.refl No _⟩) (WD.p rfl (fun e w hR hh => by obtain ⟨h90, h82, -⟩ := hh; exact SG.n (o_pickT h82 (by simp [hrgt]) ⟨rfl, Only.refl No _⟩)) (WD.p rfl (fun e w hR hh => by obtain ⟨h91, -⟩ := hh; exact SG.n (o_ash h91 ⟨rfl, Only.refl No _⟩)) ?_))))))))))))))
   rintro e w hR ⟨h78, h91, h90, h89, h88, h87, h86, h85, h84, h83, h82, h81, h80, h79, h0, h4, h5, h6, h7, -⟩
   rw [← hwd] at hR
   replace hown := own_ext hown hR
   replace hC7 := hR.blk hC7 (fun h => h)
   replace hx := hx.tr hR
   refine W.condT' h78 (rfl) (W.seq ?_)
   have hright : rightB l[i] o.kind = false := by rw [rightB_two, hrgt]; rfl
   rw [if_pos hright] at hres2
   refine W.region (WL.c rfl (o_mvh h5 (WL.c rfl (o_ash vI (WL.c rfl (o_ash vI (WL.nil (W.ret (ret2v rfl vI vI ?_)))))))))
   rw [hres2]
   exact ⟨rfl, hx⟩
  skip
  skip
  have hmany : manyB l[i] = false := by simpa using c60
  rw [if_neg (by simp [hmany])] at hres2
  obtain ⟨wd, hwd⟩ : ∃ wd, wd = w.drew := ⟨_, rfl⟩
  have hxd : Ext w wd := hwd ▸ Only.drew w
  replace hown := own_ext hown hxd
  replace hC7 := hxd.blk hC7 (fun h => h)
  replace hx := hx.tr hxd
  refine W.draw (Ext) [(0, fun v _ => v = _), (4, fun v _ => v = _), (5, fun v _ => v = _), (6, fun v _ => v = _), (7, fun v _ => v = _)] rfl (by kernel_rfl) (Only.refl No) (fun _ _ _ h k => h.trans k) ⟨Mono.eq, Mono.eq, Mono.eq, Mono.eq, Mono.eq, trivial⟩ ⟨h0, h4, h5, h6, h7, trivial⟩ (WD.p rfl (fun e w hR hh => by obtain ⟨h6, -⟩ := hh; rw [← hwd] at hR; exact SG.n (o_ldA TI41 rfl h6 (show Cells w c6 0 (exV l[i]) from Cells.of (hR.blk hC7 (fun h => h)) 0 _ (by simp)) rfl ⟨rfl, Only.refl No _⟩)) (WD.p rfl (fun e w hR hh => by obtain ⟨h79, -⟩ := hh; exact SG.n (o_call Try.call85 (lc h79 ln) ((rright_spec l[i] _ (hln _ (List.getElem_mem hil)).1).mono (fun v w' h => h)))) (WD.p rfl (fun e w hR hh => by obtain ⟨h80, -⟩ := hh; exact SG.n (o_not' h80 ⟨rfl, Only.refl No _⟩)) (WD.p rfl (fun e w hR hh => by obtain ⟨h81, -⟩ := hh; exact SG.n (o_mvh h81 ⟨rfl, Only.refl No _⟩)) (WD.p rfl (fun e w hR hh => by obtain ⟨h82, h6, -⟩ := hh; rw [← hwd] at hR; exact SG.g h82 (by simp [hrgt]) (o_ldA TI41 rfl h6 (show Cells w c6 0 (exV l[i]) from Cells.of (hR.blk hC7 (fun h => h)) 0 _ (by simp)) rfl ⟨rfl, Only.refl No _⟩)) (WD.p rfl (fun e w hR hh => by obtain ⟨h82, h4, -⟩ := hh; exact SG.g h82 (by simp [hrgt]) (o_mvh h4 ⟨rfl, Only.refl No _⟩)) (WD.p rfl (fun e w hR hh => by obtain ⟨h82, h7, -⟩ := hh; exact SG.g h82 (by simp [hrgt]) (o_mvh h7 ⟨rfl, Only.refl No _⟩)) (WD.p rfl (fun e w hR hh => by obtain ⟨h85, h84, h82, -⟩ := hh; exact SG.g h82 (by simp [hrgt]) (o_ixB (i := S.length) TI144 TI143 h84 h85 (by omega) ⟨rfl, Only.refl No _⟩)) (WD.p rfl (fun e w hR hh => by obtain ⟨h86, h82, -⟩ := hh; exact SG.g h82 (by simp [hrgt]) (o_fa 0 TI143 rfl TI3 rfl h86 ⟨rfl, Only.refl No _⟩)) (WD.p rfl (fun e w hR hh => by obtain ⟨h87, h82, -⟩ := hh; rw [← hwd] at hR; exact SG.g h82 (by simp [hrgt]) (o_ld TI3 rfl h87 (own_cell (own_ext hown hR) (j := 0 + S.length * 2 + 0) (by rw [Nat.zero_add]; exact opsQ_get _ rfl)) ⟨rfl, Only.refl No _⟩)) (WD.p rfl (fun e w hR hh => by obtain ⟨h88, h83, h82, -⟩ := hh; exact SG.g h82 (by simp [hrgt]) (o_call Try.call86 (lc h83 (lc h88 ln)) ((placed_spec l[i] o.kind _ (hln _ (List.getElem_mem hil)).2).mono (fun v w' h => h)))) (WD.p rfl (fun e w hR hh => by obtain ⟨h89, h82, -⟩ := hh; exact SG.g h82 (by simp [hrgt]) (o_not' h89 ⟨rfl, Only.refl No _⟩)) (WD.p rfl (fun e w hR hh => by obtain ⟨h90, h82, -⟩ := hh; exact SG.n (o_pickO h82 h90 ⟨rfl, Only.refl No _⟩)) (WD.p rfl (fun e w hR hh => by obtain ⟨h91, -⟩ := hh; exact SG.n (o_ash h91 ⟨rfl, Only.refl No _⟩)) ?_))))))))))))))
  rintro e w hR ⟨h78, h91, h90, h89, h88, h87, h86, h85, h84, h83, h82, h81, h80, h79, h0, h4, h5, h6, h7, -⟩
  rw [← hwd] at hR
  replace hown := own_ext hown hR
  replace hC7 := hR.blk hC7 (fun h => h)
  replace hx := hx.tr hR
  refine W.cond h78 (fun c78 => ?_) (fun c78 => ?_)
  ·try simp only [cs8] at c78
   have hright : rightB l[i] o.kind = false := by rw [rightB_two, hrgt]; simpa [hrgt] using c78
   rw [if_pos hright] at hres2
   refine W.seq (W.region (WL.c rfl (o_mvh h5 (WL.c rfl (o_ash vI (WL.c rfl (o_ash vI (WL.nil (W.ret (ret2v rfl vI vI ?_))))))))))
   rw [hres2]
   exact ⟨rfl, hx⟩
  try simp only [cs8] at c78
  have hright : rightB l[i] o.kind = true := by rw [rightB_two, hrgt]; simpa [hrgt] using c78
  rw [if_neg (by simp [hright])] at hres2
  have hkd := rightB_kids hright hmany
  refine W.skip (W.seq (W.region (WL.c rfl (o_mvh h4 (WL.c rfl (o_mvh h7 (WL.c rfl (o_ixB (i := S.length) TI144 TI143 rfl rfl (by omega) (WL.c rfl (o_fa 1 TI143 rfl TI3 rfl rfl (WL.c rfl (o_ld TI3 rfl rfl (own_cell hown (j := 0 + S.length * 2 + 1) (by rw [Nat.zero_add]; exact opsQ_get _ rfl)) (WL.c rfl (o_subi rfl rfl (by omega) (WL.c rfl (o_ixB (i := S.length) TI144 TI143 rfl rfl (by omega) (WL.c rfl (o_fa 1 TI143 rfl TI3 rfl rfl (WL.u (o_stRj (i := S.length * 2 + 1) TI3 rfl (by omega) (show _ = Value.int .i64 (o.left - 1) from rfl) rfl hown rfl (by omega) ?_))))))))))))))))))))
  intro wA hown' hoA hsA
  replace hown : wA.ownsRow w0.heap.size 143 2 (Value.slice (some ⟨g, 0, none⟩) (S.length + 1) cap) (S.length + 1) (opsQ ({ o with left := o.left - 1 } :: S)) := by rw [← opsQ_set]; exact hown'
  clear hown'
  replace hC7 := hoA.blk hC7 (fun hk => hcg (by simpa [Value.ownBlock] using hk))
  replace hx := hx.trans' hoA (fun _ h => h) (fun k hk he => by have := ob he; omega)
  have hok3 : OkS ({ o with left := o.left - 1 } :: S) := ⟨hdp, by show 0 ≤ o.left - 1; omega, by show o.left - 1 ≤ 64; omega, hok2⟩
  refine WL.nil (W.seq (W.region (WL.c rfl (o_fa 5 TI41 rfl TI3 rfl h6 (WL.c rfl (o_ld TI3 rfl rfl (cell_of hC7 rfl) (WL.c rfl (o_gt rfl rfl (WL.nil (W.cond rfl (fun c103 => ?_) (fun c103 => ?_)))))))))))
  ·try simp only [cs8] at c103
   have hkp : 0 < l[i].kids := by omega
   refine W.region (WL.c rfl (o_mvh h4 (WL.c rfl (o_fa 0 TI41 rfl TI3 rfl h6 (WL.c rfl (o_ld TI3 rfl rfl (cell_of hC7 rfl) (WL.c rfl (o_fa 5 TI41 rfl TI3 rfl h6 (WL.c rfl (o_ld TI3 rfl rfl (cell_of hC7 rfl) (WL.c rfl (o_bldC (cs := [_, _]) TI143 (Sizes.cons TI3 (Sizes.cons TI3 Sizes.nil)) rfl (lcp vI (lcp vI lnp)) rfl rfl (WL.apO (w0.heap.size) rfl rfl TI144 TI143 rfl rfl hown (by decide) (by decide) rfl (fun a ha => List.all_eq_true.1 (show List.all _ (fun a => a.oneCell') = true from rfl) a ha) rfl (by rw [maxLen_eq]; omega) (by omega) hx.size ?_)))))))))))))
   intro v111 w111 hown111 ho111 hb111 _
   have hrow : w111.ownsRow w0.heap.size 143 2 v111 (⟨l[i].kind, l[i].kids, o.deep + 1⟩ :: { o with left := o.left - 1 } :: S).length (opsQ (⟨l[i].kind, l[i].kids, o.deep + 1⟩ :: { o with left := o.left - 1 } :: S)) := by rw [opsQ_cons ⟨l[i].kind, l[i].kids, o.deep + 1⟩]; exact hown111
   replace ho111 : Only (fun k => (Value.slice (some ⟨g, 0, none⟩) (S.length + 1) cap).ownBlock = some k) wA w111 := ho111
   replace hx := hx.trans' ho111 (fun _ h => h) (fun k hk he => by have := ob he; omega)
   have hokN : OkS (⟨l[i].kind, l[i].kids, o.deep + 1⟩ :: { o with left := o.left - 1 } :: S) := ⟨by simp only [List.length_cons]; omega, hkd.1, hkd.2, hok3⟩
   refine WL.c rfl (o_ash (by first | exact vS | exact rfl) (WL.nil (W.region (WL.c rfl (o_mvh h5 (WL.c rfl (o_addi rfl rfl (by omega) (WL.c rfl (o_ash vI (WL.nil (⟨⟨i + 1, _, _, by omega, h0, by first | exact h4 | exact rfl, rfl, hrow, hokN, by simp only [List.length_cons]; omega, ?_, hx⟩, ?_⟩)))))))))))
   ·rw [hres, hlc, chkE_o hpz2, if_neg hdeep, if_neg (by simp [hmany]), if_neg (by simp [hright])]
    all_goals first | rfl | exact chkE_pz hkz
   show l.length - ((i : Int) + 1).toNat < _
   rw [hm5]; simp [intOf]; omega
  try simp only [cs8] at c103
  have hkz : l[i].kids = 0 := by omega
  have hrow := hown
  have hokN := hok3
  refine W.skip (W.region (WL.c rfl (o_mvh h5 (WL.c rfl (o_addi rfl rfl (by omega) (WL.c rfl (o_ash vI (WL.nil (⟨⟨i + 1, _, _, by omega, h0, by first | exact h4 | exact rfl, rfl, hrow, hokN, by simp only [List.length_cons]; omega, ?_, hx⟩, ?_⟩)))))))))
  ·rw [hres, hlc, chkE_o hpz2, if_neg hdeep, if_neg (by simp [hmany]), if_neg (by simp [hright])]
   all_goals first | rfl | exact chkE_pz hkz
  show l.length - ((i : Int) + 1).toNat < _
  rw [hm5]; simp [intOf]; omega
 skip
 refine WL.s rfl (g64) rfl (WL.s rfl (g64) rfl (WL.s rfl (g64) rfl (WL.c rfl (o_pickF rfl (g64) (WL.c rfl (o_ash vB (WL.nil (W.cut (fun e1 w1 => e1 0 = v ∧ e1 4 = Value.slice (some ⟨g, 0, none⟩) (S.length + 1) cap ∧ e1 5 = .int .i64 (i : Int) ∧ e1 6 = .pointer (some ⟨c6, 0, none⟩) ∧ e1 7 = .int .i64 (S.length : Int) ∧ e1 60 = .bool (manyB l[i]) ∧ w1 = w7) ?_ ?_))))))))
 ·-- both ways
  refine W.cond rfl (fun c60 => ?_) (fun c60 => ?_)
  ·try simp only [cs8] at c60
   refine W.skip ?_
   exact ⟨h0, h4, h5, rfl, rfl, congrArg Value.bool (by rw [Bool.eq_iff_iff]; (try simp only [decide_eq_true_eq, decide_eq_false_iff_not] at g64); (try simp only [decide_eq_true_eq, decide_eq_false_iff_not] at g72); (try (cases c60; done)); all_goals simp only [manyB, Bool.or_eq_true, Bool.and_eq_true, decide_eq_true_eq, Bool.false_eq_true, false_iff]; all_goals omega), rfl⟩
  try simp only [cs8] at c60
  refine W.region (WL.c rfl (o_fa 0 TI41 rfl TI3 rfl rfl (WL.c rfl (o_ld TI3 rfl rfl (cell_of hC7 rfl) (WL.c rfl (o_eq rfl rfl (WL.c rfl (o_mvh vB (WL.sp 3 rfl (fun g72 => ?_) (fun g72 => ?_))))))))))
  ·skip
   refine WL.g rfl (g72) rfl (o_fa 5 TI41 rfl TI3 rfl rfl (WL.g rfl (g72) rfl (o_ld TI3 rfl rfl (cell_of hC7 rfl) (WL.g rfl (g72) rfl (o_gt rfl rfl (WL.c rfl (o_pickA rfl rfl (WL.c rfl (o_ash vB (WL.nil ?_))))))))))
   exact ⟨h0, h4, h5, rfl, rfl, congrArg Value.bool (by rw [Bool.eq_iff_iff]; (try simp only [decide_eq_true_eq, decide_eq_false_iff_not] at g64); (try simp only [decide_eq_true_eq, decide_eq_false_iff_not] at g72); (try (cases c60; done)); all_goals simp only [manyB, Bool.or_eq_true, Bool.and_eq_true, decide_eq_true_eq, Bool.false_eq_true, false_iff]; all_goals omega), rfl⟩
  skip
  refine WL.s rfl (g72) rfl (WL.s rfl (g72) rfl (WL.s rfl (g72) rfl (WL.c rfl (o_pickF rfl (g72) (WL.c rfl (o_ash vB (WL.nil ?_)))))))
  exact ⟨h0, h4, h5, rfl, rfl, congrArg Value.bool (by rw [Bool.eq_iff_iff]; (try simp only [decide_eq_true_eq, decide_eq_false_iff_not] at g64); (try simp only [decide_eq_true_eq, decide_eq_false_iff_not] at g72); (try (cases c60; done)); all_goals simp only [manyB, Bool.or_eq_true, Bool.and_eq_true, decide_eq_true_eq, Bool.false_eq_true, false_iff]; all_goals omega), rfl⟩
 rintro e w ⟨h0, h4, h5, h6, h7, h60, rfl⟩
 refine W.cond h60 (fun c60 => ?_) (fun c60 => ?_)
 ·try simp only [cs8] at c60
  refine W.seq ?_
  have hmany : manyB l[i] = true := by simpa using c60
  rw [if_pos hmany] at hres2
  refine W.region (WL.c rfl (o_mvh h5 (WL.c rfl (o_ash vI (WL.c rfl (o_ash vI (WL.nil (W.ret (ret2v rfl vI vI ?_)))))))))
  rw [hres2]
  exact ⟨rfl, hx⟩
 try simp only [cs8] at c60
 refine W.seq ?_
 cases hrgt : rgtB l[i]
 ·skip
  skip
  have hmany : manyB l[i] = false := by simpa using c60
  rw [if_neg (by simp [hmany])] at hres2
  obtain ⟨wd, hwd⟩ : ∃ wd, wd = w.drew := ⟨_, rfl⟩
  have hxd : Ext w wd := hwd ▸ Only.drew w
  replace hown := own_ext hown hxd
  replace hC7 := hxd.blk hC7 (fun h => h)
  replace hx := hx.tr hxd
  refine W.draw (Ext) [(0, fun v _ => v = _), (4, fun v _ => v = _), (5, fun v _ => v = _), (6, fun v _ => v = _), (7, fun v _ => v = _)] rfl (by kernel_rfl) (Only.refl No) (fun _ _ _ h k => h.trans k) ⟨Mono.eq, Mono.eq, Mono.eq, Mono.eq, Mono.eq, trivial⟩ ⟨h0, h4, h5, h6, h7, trivial⟩ (WD.p rfl (fun e w hR hh => by obtain ⟨h6, -⟩ := hh; rw [← hwd] at hR; exact SG.n (o_ldA TI41 rfl h6 (show Cells w c6 0 (exV l[i]) from Cells.of (hR.blk hC7 (fun h => h)) 0 _ (by simp)) rfl ⟨rfl, Only.refl No _⟩)) (WD.p rfl (fun e w hR hh => by obtain ⟨h79, -⟩ := hh; exact SG.n (o_call Try.call85 (lc h79 ln) ((rright_spec l[i] _ (hln _ (List.getElem_mem hil)).1).mono (fun v w' h => h)))) (WD.p rfl (fun e w hR hh => by obtain ⟨h80, -⟩ := hh; exact SG.n (o_not' h80 ⟨rfl, Only.refl No _⟩)) (WD.p rfl (fun e w hR hh => by obtain ⟨h81, -⟩ := hh; exact SG.n (o_mvh h81 ⟨rfl, Only.refl No _⟩)) (WD.p rfl (fun e w hR hh => by obtain ⟨h82, h6, -⟩ := hh; rw [← hwd] at hR; exact SG.s h82 (by simp [hrgt]) ⟨rfl, Only.refl No _⟩) (WD.p rfl (fun e w hR hh => by obtain ⟨h82, h4, -⟩ := hh; exact SG.s h82 (by simp [hrgt]) ⟨rfl, Only.refl No _⟩) (WD.p rfl (fun e w hR hh => by obtain ⟨h82, h7, -⟩ := hh; exact SG.s h82 (by simp [hrgt]) ⟨rfl, Only.refl No _⟩) (WD.p rfl (fun e w hR hh => by obtain ⟨h85, h84, h82, -⟩ := hh; exact SG.s h82 (by simp [hrgt]) ⟨rfl, Only.refl No _⟩) (WD.p rfl (fun e w hR hh => by obtain ⟨h86, h82, -⟩ := hh; exact SG.s h82 (by simp [hrgt]) ⟨rfl, Only.refl No _⟩) (WD.p rfl (fun e w hR hh => by obtain ⟨h87, h82, -⟩ := hh; rw [← hwd] at hR; exact SG.s h82 (by simp [hrgt]) ⟨rfl, Only.refl No _⟩) (WD.p rfl (fun e w hR hh => by obtain ⟨h88, h83, h82, -⟩ := hh; exact SG.s h82 (by simp [hrgt]) ⟨rfl, Only.refl No _⟩) (WD.p rfl (fun e w hR hh => by obtain ⟨h89, h82, -⟩ := hh; exact SG.s h82 (by simp [hrgt]) ⟨rfl, Only.refl No _⟩) (WD.p rfl (fun e w hR hh => by obtain ⟨h90, h82, -⟩ := hh; exact SG.n (o_pickT h82 (by simp [hrgt]) ⟨rfl, Only.refl No _⟩)) (WD.p rfl (fun e w hR hh => by obtain ⟨h91, -⟩ := hh; exact SG.n (o_ash h91 ⟨rfl, Only.refl No _⟩)) ?_))))))))))))))
  rintro e w hR ⟨h78, h91, h90, h89, h88, h87, h86, h85, h84, h83, h82, h81, h80, h79, h0, h4, h5, h6, h7, -⟩
  rw [← hwd] at hR
  replace hown := own_ext hown hR
  replace hC7 := hR.blk hC7 (fun h => h)
  replace hx := hx.tr hR
  refine W.condT' h78 (rfl) (W.seq ?_)
  have hright : rightB l[i] o.kind = false := by rw [rightB_two, hrgt]; rfl
  rw [if_pos hright] at hres2
  refine W.region (WL.c rfl (o_mvh h5 (WL.c rfl (o_ash vI (WL.c rfl (o_ash vI (WL.nil (W.ret (ret2v rfl vI vI ?_)))))))))
  rw [hres2]
  exact ⟨rfl, hx⟩
 skip
 skip
 have hmany : manyB l[i] = false := by simpa using c60
 rw [if_neg (by simp [hmany])] at hres2
 obtain ⟨wd, hwd⟩ : ∃ wd, wd = w.drew := ⟨_, rfl⟩
 have hxd : Ext w wd := hwd ▸ Only.drew w
 replace hown := own_ext hown hxd
 replace hC7 := hxd.blk hC7 (fun h => h)
 replace hx := hx.tr hxd
 refine W.draw (Ext) [(0, fun v _ => v = _), (4, fun v _ => v = _), (5, fun v _ => v = _), (6, fun v _ => v = _), (7, fun v _ => v = _)] rfl (by kernel_rfl) (Only.refl No) (fun _ _ _ h k => h.trans k) ⟨Mono.eq, Mono.eq, Mono.eq, Mono.eq, Mono.eq, trivial⟩ ⟨h0, h4, h5, h6, h7, trivial⟩ (WD.p rfl (fun e w hR hh => by obtain ⟨h6, -⟩ := hh; rw [← hwd] at hR; exact SG.n (o_ldA TI41 rfl h6 (show Cells w c6 0 (exV l[i]) from Cells.of (hR.blk hC7 (fun h => h)) 0 _ (by simp)) rfl ⟨rfl, Only.refl No _⟩)) (WD.p rfl (fun e w hR hh => by obtain ⟨h79, -⟩ := hh; exact SG.n (o_call Try.call85 (lc h79 ln) ((rright_spec l[i] _ (hln _ (List.getElem_mem hil)).1).mono (fun v w' h => h)))) (WD.p rfl (fun e w hR hh => by obtain ⟨h80, -⟩ := hh; exact SG.n (o_not' h80 ⟨rfl, Only.refl No _⟩)) (WD.p rfl (fun e w hR hh => by obtain ⟨h81, -⟩ := hh; exact SG.n (o_mvh h81 ⟨rfl, Only.refl No _⟩)) (WD.p rfl (fun e w hR hh => by obtain ⟨h82, h6, -⟩ := hh; rw [← hwd] at hR; exact SG.g h82 (by simp [hrgt]) (o_ldA TI41 rfl h6 (show Cells w c6 0 (exV l[i]) from Cells.of (hR.blk hC7 (fun h => h)) 0 _ (by simp)) rfl ⟨rfl, Only.refl No _⟩)) (WD.p rfl (fun e w hR hh => by obtain ⟨h82, h4, -⟩ := hh; exact SG.g h82 (by simp [hrgt]) (o_mvh h4 ⟨rfl, Only.refl No _⟩)) (WD.p rfl (fun e w hR hh => by obtain ⟨h82, h7, -⟩ := hh; exact SG.g h82 (by simp [hrgt]) (o_mvh h7 ⟨rfl, Only.refl No _⟩)) (WD.p rfl (fun e w hR hh => by obtain ⟨h85, h84, h82, -⟩ := hh; exact SG.g h82 (by simp [hrgt]) (o_ixB (i := S.length) TI144 TI143 h84 h85 (by omega) ⟨rfl, Only.refl No _⟩)) (WD.p rfl (fun e w hR hh => by obtain ⟨h86, h82, -⟩ := hh; exact SG.g h82 (by simp [hrgt]) (o_fa 0 TI143 rfl TI3 rfl h86 ⟨rfl, Only.refl No _⟩)) (WD.p rfl (fun e w hR hh => by obtain ⟨h87, h82, -⟩ := hh; rw [← hwd] at hR; exact SG.g h82 (by simp [hrgt]) (o_ld TI3 rfl h87 (own_cell (own_ext hown hR) (j := 0 + S.length * 2 + 0) (by rw [Nat.zero_add]; exact opsQ_get _ rfl)) ⟨rfl, Only.refl No _⟩)) (WD.p rfl (fun e w hR hh => by obtain ⟨h88, h83, h82, -⟩ := hh; exact SG.g h82 (by simp [hrgt]) (o_call Try.call86 (lc h83 (lc h88 ln)) ((placed_spec l[i] o.kind _ (hln _ (List.getElem_mem hil)).2).mono (fun v w' h => h)))) (WD.p rfl (fun e w hR hh => by obtain ⟨h89, h82, -⟩ := hh; exact SG.g h82 (by simp [hrgt]) (o_not' h89 ⟨rfl, Only.refl No _⟩)) (WD.p rfl (fun e w hR hh => by obtain ⟨h90, h82, -⟩ := hh; exact SG.n (o_pickO h82 h90 ⟨rfl, Only.refl No _⟩)) (WD.p rfl (fun e w hR hh => by obtain ⟨h91, -⟩ := hh; exact SG.n (o_ash h91 ⟨rfl, Only.refl No _⟩)) ?_))))))))))))))
 rintro e w hR ⟨h78, h91, h90, h89, h88, h87, h86, h85, h84, h83, h82, h81, h80, h79, h0, h4, h5, h6, h7, -⟩
 rw [← hwd] at hR
 replace hown := own_ext hown hR
 replace hC7 := hR.blk hC7 (fun h => h)
 replace hx := hx.tr hR
 refine W.cond h78 (fun c78 => ?_) (fun c78 => ?_)
 ·try simp only [cs8] at c78
  have hright : rightB l[i] o.kind = false := by rw [rightB_two, hrgt]; simpa [hrgt] using c78
  rw [if_pos hright] at hres2
  refine W.seq (W.region (WL.c rfl (o_mvh h5 (WL.c rfl (o_ash vI (WL.c rfl (o_ash vI (WL.nil (W.ret (ret2v rfl vI vI ?_))))))))))
  rw [hres2]
  exact ⟨rfl, hx⟩
 try simp only [cs8] at c78
 have hright : rightB l[i] o.kind = true := by rw [rightB_two, hrgt]; simpa [hrgt] using c78
 rw [if_neg (by simp [hright])] at hres2
 have hkd := rightB_kids hright hmany
 refine W.skip (W.seq (W.region (WL.c rfl (o_mvh h4 (WL.c rfl (o_mvh h7 (WL.c rfl (o_ixB (i := S.length) TI144 TI143 rfl rfl (by omega) (WL.c rfl (o_fa 1 TI143 rfl TI3 rfl rfl (WL.c rfl (o_ld TI3 rfl rfl (own_cell hown (j := 0 + S.length * 2 + 1) (by rw [Nat.zero_add]; exact opsQ_get _ rfl)) (WL.c rfl (o_subi rfl rfl (by omega) (WL.c rfl (o_ixB (i := S.length) TI144 TI143 rfl rfl (by omega) (WL.c rfl (o_fa 1 TI143 rfl TI3 rfl rfl (WL.u (o_stRj (i := S.length * 2 + 1) TI3 rfl (by omega) (show _ = Value.int .i64 (o.left - 1) from rfl) rfl hown rfl (by omega) ?_))))))))))))))))))))
 intro wA hown' hoA hsA
 replace hown : wA.ownsRow w0.heap.size 143 2 (Value.slice (some ⟨g, 0, none⟩) (S.length + 1) cap) (S.length + 1) (opsQ ({ o with left := o.left - 1 } :: S)) := by rw [← opsQ_set]; exact hown'
 clear hown'
 replace hC7 := hoA.blk hC7 (fun hk => hcg (by simpa [Value.ownBlock] using hk))
 replace hx := hx.trans' hoA (fun _ h => h) (fun k hk he => by have := ob he; omega)
 have hok3 : OkS ({ o with left := o.left - 1 } :: S) := ⟨hdp, by show 0 ≤ o.left - 1; omega, by show o.left - 1 ≤ 64; omega, hok2⟩
 refine WL.nil (W.seq (W.region (WL.c rfl (o_fa 5 TI41 rfl TI3 rfl h6 (WL.c rfl (o_ld TI3 rfl rfl (cell_of hC7 rfl) (WL.c rfl (o_gt rfl rfl (WL.nil (W.cond rfl (fun c103 => ?_) (fun c103 => ?_)))))))))))
 ·try simp only [cs8] at c103
  have hkp : 0 < l[i].kids := by omega
  refine W.region (WL.c rfl (o_mvh h4 (WL.c rfl (o_fa 0 TI41 rfl TI3 rfl h6 (WL.c rfl (o_ld TI3 rfl rfl (cell_of hC7 rfl) (WL.c rfl (o_fa 5 TI41 rfl TI3 rfl h6 (WL.c rfl (o_ld TI3 rfl rfl (cell_of hC7 rfl) (WL.c rfl (o_bldC (cs := [_, _]) TI143 (Sizes.cons TI3 (Sizes.cons TI3 Sizes.nil)) rfl (lcp vI (lcp vI lnp)) rfl rfl (WL.apO (w0.heap.size) rfl rfl TI144 TI143 rfl rfl hown (by decide) (by decide) rfl (fun a ha => List.all_eq_true.1 (show List.all _ (fun a => a.oneCell') = true from rfl) a ha) rfl (by rw [maxLen_eq]; omega) (by omega) hx.size ?_)))))))))))))
  intro v111 w111 hown111 ho111 hb111 _
  have hrow : w111.ownsRow w0.heap.size 143 2 v111 (⟨l[i].kind, l[i].kids, o.deep + 1⟩ :: { o with left := o.left - 1 } :: S).length (opsQ (⟨l[i].kind, l[i].kids, o.deep + 1⟩ :: { o with left := o.left - 1 } :: S)) := by rw [opsQ_cons ⟨l[i].kind, l[i].kids, o.deep + 1⟩]; exact hown111
  replace ho111 : Only (fun k => (Value.slice (some ⟨g, 0, none⟩) (S.length + 1) cap).ownBlock = some k) wA w111 := ho111
  replace hx := hx.trans' ho111 (fun _ h => h) (fun k hk he => by have := ob he; omega)
  have hokN : OkS (⟨l[i].kind, l[i].kids, o.deep + 1⟩ :: { o with left := o.left - 1 } :: S) := ⟨by simp only [List.length_cons]; omega, hkd.1, hkd.2, hok3⟩
  refine WL.c rfl (o_ash (by first | exact vS | exact rfl) (WL.nil (W.region (WL.c rfl (o_mvh h5 (WL.c rfl (o_addi rfl rfl (by omega) (WL.c rfl (o_ash vI (WL.nil (⟨⟨i + 1, _, _, by omega, h0, by first | exact h4 | exact rfl, rfl, hrow, hokN, by simp only [List.length_cons]; omega, ?_, hx⟩, ?_⟩)))))))))))
  ·rw [hres, hlc, chkE_o hpz2, if_neg hdeep, if_neg (by simp [hmany]), if_neg (by simp [hright])]
   all_goals first | rfl | exact chkE_pz hkz
  show l.length - ((i : Int) + 1).toNat < _
  rw [hm5]; simp [intOf]; omega
 try simp only [cs8] at c103
 have hkz : l[i].kids = 0 := by omega
 have hrow := hown
 have hokN := hok3
 refine W.skip (W.region (WL.c rfl (o_mvh h5 (WL.c rfl (o_addi rfl rfl (by omega) (WL.c rfl (o_ash vI (WL.nil (⟨⟨i + 1, _, _, by omega, h0, by first | exact h4 | exact rfl, rfl, hrow, hokN, by simp only [List.length_cons]; omega, ?_, hx⟩, ?_⟩)))))))))
 ·rw [hres, hlc, chkE_o hpz2, if_neg hdeep, if_neg (by simp [hmany]), if_neg (by simp [hright])]
  all_goals first | rfl | exact chkE_pz hkz
 show l.length - ((i : Int) + 1).toNat < _
 rw [hm5]; simp [intOf]; omega
set_option maxHeartbeats 2000000 in
theorem rcheck_spec (D : List Df) (dv : Value) (V : Nat → Value) (w0 : World) (hD : DefR w0 D dv V) (hlim : DLim D) : Ca Try.prog 35 #[.agg #[dv]] w0 (fun r w' => r = rs3 (chkS D) ∧ Ext w0 w') := by
 refine Ca.of Try.func35 Try.ntmps35 rfl rfl (W.seq (W.region (WL.c rfl (o_boxB rfl ?_))))
 intro w1 hC1 hx1 hs1
 have hx := hx1
 replace hC1 : w1.heap[w0.heap.size]? = some (.cells #[dv] 25 (0, 0)) := hC1
 obtain ⟨c1, hc1⟩ : ∃ c, c = w0.heap.size := ⟨_, rfl⟩
 rw [← hc1] at hC1 ⊢
 replace hD := hD.ext hx1
 refine WL.c rfl (o_ash vI (WL.c rfl (o_ash vI (WL.c rfl (o_ash vI (WL.nil (W.seq (W.seq (W.region (WL.c rfl (o_fa 0 TI25 rfl TI23 rfl rfl (WL.c rfl (o_ld TI23 rfl rfl (cell_of hC1 rfl) (WL.c rfl (o_lenR TI23 rfl hD.row (WL.c rfl (o_gt rfl rfl (WL.nil (W.cond rfl (fun c11 => ?_) (fun c11 => ?_))))))))))))))))))))
 ·try simp only [cs8] at c11
  have hn : 256 < D.length := by omega
  refine W.seq (W.region (WL.c rfl (o_ash vI (WL.c rfl (o_ash vI (WL.c rfl (o_ash vI (WL.nil (W.ret (ret3v rfl vI vI vI ?_))))))))))
  exact ⟨by rw [chkS, if_pos hn]; rfl, hx⟩
 try simp only [cs8] at c11
 have hn : ¬ 256 < D.length := by omega
 refine W.skip (W.seq (W.seq (W.region (WL.c rfl (o_ash vI (WL.nil (W.block (W.loop (fun e w => ∃ i : Nat, i ≤ D.length ∧ e 1 = .pointer (some ⟨c1, 0, none⟩) ∧ e 5 = .int .i64 (i : Int) ∧ w.heap[c1]? = some (.cells #[dv] 25 (0, 0)) ∧ chkS D = chkA i (D.drop i) ∧ DefR w D dv V ∧ Ext w0 w) (fun e w => D.length - (intOf (e 5)).toNat) ?_ ?_))))))))
 ·exact ⟨0, Nat.zero_le _, rfl, rfl, hC1, by rw [chkS, if_neg hn]; rfl, hD, hx⟩
 rintro e w ⟨i, hi, h1, h5, hC1, hres, hD, hx⟩
 have hm5 := h5
 refine W.seq (W.seq (W.region (WL.c rfl (o_mvh h5 (WL.c rfl (o_fa 0 TI25 rfl TI23 rfl h1 (WL.c rfl (o_ld TI23 rfl rfl (cell_of hC1 rfl) (WL.c rfl (o_lenR TI23 rfl hD.row (WL.c rfl (o_lt rfl rfl (WL.nil (W.cond rfl (fun c16 => ?_) (fun c16 => ?_)))))))))))))))
 ·try simp only [cs8] at c16
  have hil : i < D.length := by omega
  obtain ⟨tb, to_, tc, rfl, htc, hty⟩ := hD.atk hil
  have hdr : D.drop i = D[i] :: D.drop (i + 1) := (List.getElem_cons_drop hil).symm
  have hli := hlim _ (List.getElem_mem hil)
  refine W.skip (W.seq (W.block (W.seq (W.seq (W.region (WL.c rfl (o_fa 0 TI25 rfl TI23 rfl h1 (WL.c rfl (o_ld TI23 rfl rfl (cell_of hC1 rfl) (WL.c rfl (o_mvh h5 (WL.c rfl (o_ixB TI23 TI39 rfl rfl (by omega) (WL.c rfl (o_fa 0 TI39 rfl TI9 rfl rfl (WL.c rfl (o_ld TI9 rfl rfl (htc 0 _ rfl) (WL.c rfl (o_call Try.call41 (lc rfl ln) ((rname_spec D[i].name _ hli.1).mono ?_))))))))))))))))))))
  rintro v25 w25 ⟨rfl, rfl⟩
  refine WL.c rfl (o_not' rfl (WL.nil (W.cond rfl (fun c26 => ?_) (fun c26 => ?_))))
  ·try simp only [cs8] at c26
   have hnm : nameB D[i].name = false := by simpa using c26
   refine W.seq (W.region (WL.c rfl (o_mvh h5 (WL.c rfl (o_ash vI (WL.c rfl (o_ash vI (WL.c rfl (o_ash vI (WL.nil (W.ret (ret3v rfl vI vI vI ?_))))))))))))
   rw [hres, hdr, chkA_cons, if_pos hnm]
   exact ⟨rfl, hx⟩
  try simp only [cs8] at c26
  have hnm : nameB D[i].name = true := by simpa using c26
  refine W.skip (W.seq (W.region (WL.c rfl (o_fa 0 TI25 rfl TI23 rfl h1 (WL.c rfl (o_ld TI23 rfl rfl (cell_of hC1 rfl) (WL.c rfl (o_mvh h5 (WL.c rfl (o_ixB TI23 TI39 rfl rfl (by omega) (WL.c rfl (o_fa 2 TI39 rfl TI37 rfl rfl (WL.c rfl (o_ld TI37 rfl rfl (htc 2 _ rfl) (WL.c rfl (o_call Try.call63 (lc rfl ln) ((nodes_spec D[i].ty (V i) _ hty hli.2.1 hli.2.2).mono ?_)))))))))))))))))
  rintro v35 w35 ⟨rfl, hx35⟩
  replace hx := hx.tr hx35
  replace hD := hD.ext hx35
  replace hC1 := hx35.blk hC1 (fun h => h)
  refine WL.c rfl (o_mvh (by first | exact (show _ = Value.tuple _ from rfl) | exact rfl) (WL.c rfl (o_ext rfl rfl (WL.c rfl (o_ext rfl rfl (WL.c rfl (o_ash vI (WL.c rfl (o_ash vI (WL.nil (W.seq (W.region (WL.c rfl (o_mvh vI (WL.c rfl (o_ne rfl rfl (WL.nil (W.cond rfl (fun c39 => ?_) (fun c39 => ?_)))))))))))))))))))
  ·try simp only [cs8] at c39
   have hce : ¬ (chkT D[i].ty).2 = 0 := by omega
   refine W.seq (W.region (WL.c rfl (o_mvh h5 (WL.c rfl (o_mvh vI (WL.c rfl (o_mvh vI (WL.c rfl (o_ash vI (WL.c rfl (o_ash vI (WL.c rfl (o_ash vI (WL.nil (W.ret (ret3v rfl vI vI vI ?_))))))))))))))))
   rw [hres, hdr, chkA_cons, if_neg (by simp [hnm]), if_neg hce]
   exact ⟨rfl, hx⟩
  try simp only [cs8] at c39
  have hce : (chkT D[i].ty).2 = 0 := by omega
  refine W.skip (W.region (WL.c rfl (o_mvh h5 (WL.c rfl (o_addi rfl rfl (by omega) (WL.c rfl (o_ash vI (WL.nil (⟨⟨i + 1, by omega, h1, rfl, hC1, ?_, hD, hx⟩, ?_⟩)))))))))
  ·rw [hres, hdr, chkA_cons, if_neg (by simp [hnm]), if_pos hce]
  show D.length - ((i : Int) + 1).toNat < _
  rw [hm5]; simp [intOf]; omega
 try simp only [cs8] at c16
 have hil : i = D.length := by omega
 rw [hil, List.drop_length, chkA_nil] at hres
 refine W.exit (W.seq (W.region (WL.c rfl (o_ash vI (WL.c rfl (o_ash vI (WL.c rfl (o_ash vI (WL.nil (W.ret (ret3v rfl vI vI vI ?_)))))))))))
 rw [hres]
 exact ⟨rfl, hx⟩
end Go.Proofs.Ytpbflfgigfdohaa
