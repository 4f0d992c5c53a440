/-
  No cell of these rows narrows 'for every input' (looked for: loops, veiled, ifaces, maps, wideKeys, modest, calm, conditions, laid).
  DERIVED. THE GIVEN ROWS OF THIS SEAT. 6 by the template 'for every input the law returns true; each argument reads behind the call as it read before'; 0 by the template 'total and deterministic' (their statements: YtgcehajdldicfaaTotals.lean).
  GIVEN WITH THE SEED: the statements are not yours to turn. If you find one false, say at which input.
  Laid BY PROGRAM, IN A SANDBOX (cutbox-rows.mjs): the forced cells as the released guide's own fill.sh prints them over the translation 28c12bdc60ff0d8f… (all of the seat's roots in one cut). By AI agents, Wed Nov 11 2026. No macro, syntax, notation, axiom, sorry.
-/
import Derived.Test.YtgcehajdldicfaaChecked
import GoSem.Claim
import GoSem.ClaimJoined
import GoSem.ClaimMapViews
import Derived.JoinedTies
import Derived.KernelRfl
namespace Go.Proofs.Ytgcehajdldicfaa
/- THE CELL 'sum', in the pinned program and in every row, IS THE sha256 OF THE DUMP (.gsa) THAT YtgcehajdldicfaaProg.lean LOADS. Nothing in Lean hashes anything: it is a label: what it is worth is what the hold of that sum in a sandbox is worth. -/
noncomputable def Try.pinned : Pinned := { name := "ytgcehajdldicfaa", sum := "28c12bdc60ff0d8f9643ff6f9cd0b46961094835f02f8589714555ed02d7e67f", checked := Try.checked }
namespace Rows
def none {H : Type} : Left H := { results := [], args := [] }

/-- 'mortiselaw08.NamesExact': WHATEVER THE INPUT: true; the input reads as it did. -/
def namesExactSpec : ChangeSpec := { name := "namesExact", fn := fun _ => fun
  | [d1, d2, d3, d4, d5] => { results := [.lit (.bool true)], args := [d1, d2, d3, d4, d5] }
  | _ => none }
def namesExactRow : OpenClaim := { program := "ytgcehajdldicfaa", sum := "28c12bdc60ff0d8f9643ff6f9cd0b46961094835f02f8589714555ed02d7e67f", func := "mortise/mortiselaw08.NamesExact", spec := "namesExact", unfollowed := true, recurses := true, apart := false }
def NamesExactSaid : Prop := namesExactRow.holds Try.pinned (OpenSpec.ofChange namesExactSpec)

/-- ITS FALSE NEIGHBOUR: 'it returns false'. Refute it at one input. -/
def namesExactWrong : ChangeSpec := { name := "namesExact", fn := fun _ => fun
  | [d1, d2, d3, d4, d5] => { results := [.lit (.bool false)], args := [d1, d2, d3, d4, d5] }
  | _ => none }
def NamesExactWrongFalsely : Prop := namesExactRow.holds Try.pinned (OpenSpec.ofChange namesExactWrong)

/-- 'mortiselaw08.NamesOrder': WHATEVER THE INPUT: true; the input reads as it did. -/
def namesOrderSpec : ChangeSpec := { name := "namesOrder", fn := fun _ => fun
  | [d] => { results := [.lit (.bool true)], args := [d] }
  | _ => none }
def namesOrderRow : OpenClaim := { program := "ytgcehajdldicfaa", sum := "28c12bdc60ff0d8f9643ff6f9cd0b46961094835f02f8589714555ed02d7e67f", func := "mortise/mortiselaw08.NamesOrder", spec := "namesOrder", unfollowed := true, recurses := true, apart := false }
def NamesOrderSaid : Prop := namesOrderRow.holds Try.pinned (OpenSpec.ofChange namesOrderSpec)

/-- ITS FALSE NEIGHBOUR: 'it returns false'. Refute it at one input. -/
def namesOrderWrong : ChangeSpec := { name := "namesOrder", fn := fun _ => fun
  | [d] => { results := [.lit (.bool false)], args := [d] }
  | _ => none }
def NamesOrderWrongFalsely : Prop := namesOrderRow.holds Try.pinned (OpenSpec.ofChange namesOrderWrong)

/-- 'mortiselaw08.NamesRenamed': WHATEVER THE INPUT: true; the input reads as it did. -/
def namesRenamedSpec : ChangeSpec := { name := "namesRenamed", fn := fun _ => fun
  | [d] => { results := [.lit (.bool true)], args := [d] }
  | _ => none }
def namesRenamedRow : OpenClaim := { program := "ytgcehajdldicfaa", sum := "28c12bdc60ff0d8f9643ff6f9cd0b46961094835f02f8589714555ed02d7e67f", func := "mortise/mortiselaw08.NamesRenamed", spec := "namesRenamed", unfollowed := true, recurses := true, apart := false }
def NamesRenamedSaid : Prop := namesRenamedRow.holds Try.pinned (OpenSpec.ofChange namesRenamedSpec)

/-- ITS FALSE NEIGHBOUR: 'it returns false'. Refute it at one input. -/
def namesRenamedWrong : ChangeSpec := { name := "namesRenamed", fn := fun _ => fun
  | [d] => { results := [.lit (.bool false)], args := [d] }
  | _ => none }
def NamesRenamedWrongFalsely : Prop := namesRenamedRow.holds Try.pinned (OpenSpec.ofChange namesRenamedWrong)

/-- 'mortiselaw08.NamesShuffled': WHATEVER THE INPUT: true; the input reads as it did. -/
def namesShuffledSpec : ChangeSpec := { name := "namesShuffled", fn := fun _ => fun
  | [d1, d2] => { results := [.lit (.bool true)], args := [d1, d2] }
  | _ => none }
def namesShuffledRow : OpenClaim := { program := "ytgcehajdldicfaa", sum := "28c12bdc60ff0d8f9643ff6f9cd0b46961094835f02f8589714555ed02d7e67f", func := "mortise/mortiselaw08.NamesShuffled", spec := "namesShuffled", unfollowed := true, recurses := true, apart := false }
def NamesShuffledSaid : Prop := namesShuffledRow.holds Try.pinned (OpenSpec.ofChange namesShuffledSpec)

/-- ITS FALSE NEIGHBOUR: 'it returns false'. Refute it at one input. -/
def namesShuffledWrong : ChangeSpec := { name := "namesShuffled", fn := fun _ => fun
  | [d1, d2] => { results := [.lit (.bool false)], args := [d1, d2] }
  | _ => none }
def NamesShuffledWrongFalsely : Prop := namesShuffledRow.holds Try.pinned (OpenSpec.ofChange namesShuffledWrong)

/-- 'mortiselaw08.NamesRing': WHATEVER THE INPUT: true; the input reads as it did. -/
def namesRingSpec : ChangeSpec := { name := "namesRing", fn := fun _ => fun
  | [d1, d2, d3, d4] => { results := [.lit (.bool true)], args := [d1, d2, d3, d4] }
  | _ => none }
def namesRingRow : OpenClaim := { program := "ytgcehajdldicfaa", sum := "28c12bdc60ff0d8f9643ff6f9cd0b46961094835f02f8589714555ed02d7e67f", func := "mortise/mortiselaw08.NamesRing", spec := "namesRing", unfollowed := true, recurses := true, apart := false }
def NamesRingSaid : Prop := namesRingRow.holds Try.pinned (OpenSpec.ofChange namesRingSpec)

/-- ITS FALSE NEIGHBOUR: 'it returns false'. Refute it at one input. -/
def namesRingWrong : ChangeSpec := { name := "namesRing", fn := fun _ => fun
  | [d1, d2, d3, d4] => { results := [.lit (.bool false)], args := [d1, d2, d3, d4] }
  | _ => none }
def NamesRingWrongFalsely : Prop := namesRingRow.holds Try.pinned (OpenSpec.ofChange namesRingWrong)

/-- 'mortiselaw08.NamesOwn': WHATEVER THE INPUT: true; the input reads as it did. -/
def namesOwnSpec : ChangeSpec := { name := "namesOwn", fn := fun _ => fun
  | [d1, d2] => { results := [.lit (.bool true)], args := [d1, d2] }
  | _ => none }
def namesOwnRow : OpenClaim := { program := "ytgcehajdldicfaa", sum := "28c12bdc60ff0d8f9643ff6f9cd0b46961094835f02f8589714555ed02d7e67f", func := "mortise/mortiselaw08.NamesOwn", spec := "namesOwn", unfollowed := true, recurses := true, apart := false }
def NamesOwnSaid : Prop := namesOwnRow.holds Try.pinned (OpenSpec.ofChange namesOwnSpec)

/-- ITS FALSE NEIGHBOUR: 'it returns false'. Refute it at one input. -/
def namesOwnWrong : ChangeSpec := { name := "namesOwn", fn := fun _ => fun
  | [d1, d2] => { results := [.lit (.bool false)], args := [d1, d2] }
  | _ => none }
def NamesOwnWrongFalsely : Prop := namesOwnRow.holds Try.pinned (OpenSpec.ofChange namesOwnWrong)

/- THE SECOND FORM. 'bulk': how many values and letters a reading holds, each counted each time it is reached (what is shared counts as often as it is met; a slice's spare places count too). A statement '..UptoSaid' is the law's where the arguments, and the package variables that the reading takes, are together of bulk at most 1048576: NARROWER than '..Said'. Prove '..Said' where nothing that the law and all that it calls make is longer than what came in: it says more and counts as full. Else prove '..UptoSaid'. A law counts once. -/
mutual
def uptoBulk {H : Type} : DataW H → Nat
  | .lit (.string bytes) => bytes.length + 1
  | .lit _ => 1
  | .nil => 1
  | .ptr d => uptoBulk d + 1
  | .slice elems spare => uptoBulkAll elems + uptoBulkAll spare + 1
  | .agg parts => uptoBulkAll parts + 1
  | .iface _ d => uptoBulk d + 1
  | .map entries => uptoBulkEntries entries + 1
  | .held _ => 1
def uptoBulkAll {H : Type} : List (DataW H) → Nat
  | [] => 0
  | d :: r => uptoBulk d + uptoBulkAll r
def uptoBulkEntries {H : Type} : List (Lit × DataW H) → Nat
  | [] => 0
  | x :: r => uptoBulkEntry x + uptoBulkEntries r
def uptoBulkEntry {H : Type} : Lit × DataW H → Nat
  | (.string bytes, d) => bytes.length + uptoBulk d + 1
  | (_, d) => uptoBulk d + 1
 end
def uptoSmall : (H : Type) → List (DataW H) → Bool := fun _ ds => decide (uptoBulkAll ds ≤ 1048576)
def OpenSpec.upto (s : _root_.Go.ChangeSpec) : _root_.Go.OpenSpec := { _root_.Go.OpenSpec.ofChange s with cond := some uptoSmall }

/-- 'mortiselaw08.NamesExact', WHERE WHAT IT READS IS OF BULK AT MOST 1048576: true; the input reads as it did. -/
def namesExactUptoRow : OpenClaim := { program := "ytgcehajdldicfaa", sum := "28c12bdc60ff0d8f9643ff6f9cd0b46961094835f02f8589714555ed02d7e67f", func := "mortise/mortiselaw08.NamesExact", spec := "namesExact", unfollowed := true, recurses := true, apart := false, narrowed := true }
def NamesExactUptoSaid : Prop := namesExactUptoRow.holds Try.pinned (OpenSpec.upto namesExactSpec)

/-- 'mortiselaw08.NamesOrder', WHERE WHAT IT READS IS OF BULK AT MOST 1048576: true; the input reads as it did. -/
def namesOrderUptoRow : OpenClaim := { program := "ytgcehajdldicfaa", sum := "28c12bdc60ff0d8f9643ff6f9cd0b46961094835f02f8589714555ed02d7e67f", func := "mortise/mortiselaw08.NamesOrder", spec := "namesOrder", unfollowed := true, recurses := true, apart := false, narrowed := true }
def NamesOrderUptoSaid : Prop := namesOrderUptoRow.holds Try.pinned (OpenSpec.upto namesOrderSpec)

/-- 'mortiselaw08.NamesRenamed', WHERE WHAT IT READS IS OF BULK AT MOST 1048576: true; the input reads as it did. -/
def namesRenamedUptoRow : OpenClaim := { program := "ytgcehajdldicfaa", sum := "28c12bdc60ff0d8f9643ff6f9cd0b46961094835f02f8589714555ed02d7e67f", func := "mortise/mortiselaw08.NamesRenamed", spec := "namesRenamed", unfollowed := true, recurses := true, apart := false, narrowed := true }
def NamesRenamedUptoSaid : Prop := namesRenamedUptoRow.holds Try.pinned (OpenSpec.upto namesRenamedSpec)

/-- 'mortiselaw08.NamesShuffled', WHERE WHAT IT READS IS OF BULK AT MOST 1048576: true; the input reads as it did. -/
def namesShuffledUptoRow : OpenClaim := { program := "ytgcehajdldicfaa", sum := "28c12bdc60ff0d8f9643ff6f9cd0b46961094835f02f8589714555ed02d7e67f", func := "mortise/mortiselaw08.NamesShuffled", spec := "namesShuffled", unfollowed := true, recurses := true, apart := false, narrowed := true }
def NamesShuffledUptoSaid : Prop := namesShuffledUptoRow.holds Try.pinned (OpenSpec.upto namesShuffledSpec)

/-- 'mortiselaw08.NamesRing', WHERE WHAT IT READS IS OF BULK AT MOST 1048576: true; the input reads as it did. -/
def namesRingUptoRow : OpenClaim := { program := "ytgcehajdldicfaa", sum := "28c12bdc60ff0d8f9643ff6f9cd0b46961094835f02f8589714555ed02d7e67f", func := "mortise/mortiselaw08.NamesRing", spec := "namesRing", unfollowed := true, recurses := true, apart := false, narrowed := true }
def NamesRingUptoSaid : Prop := namesRingUptoRow.holds Try.pinned (OpenSpec.upto namesRingSpec)

/-- 'mortiselaw08.NamesOwn', WHERE WHAT IT READS IS OF BULK AT MOST 1048576: true; the input reads as it did. -/
def namesOwnUptoRow : OpenClaim := { program := "ytgcehajdldicfaa", sum := "28c12bdc60ff0d8f9643ff6f9cd0b46961094835f02f8589714555ed02d7e67f", func := "mortise/mortiselaw08.NamesOwn", spec := "namesOwn", unfollowed := true, recurses := true, apart := false, narrowed := true }
def NamesOwnUptoSaid : Prop := namesOwnUptoRow.holds Try.pinned (OpenSpec.upto namesOwnSpec)

end Rows
end Go.Proofs.Ytgcehajdldicfaa
