/-
  No cell of these rows narrows 'for every input' (looked for: loops, veiled, ifaces, maps, wideKeys, modest, calm, conditions, laid).
  DERIVED. THE GIVEN ROWS OF THIS SEAT. 8 by the template 'for every input the law returns true; each argument reads behind the call as it read before'; 0 by the template 'total and deterministic' (their statements: YtcljkkfpcomdcaaTotals.lean).
  GIVEN WITH THE SEED: the statements are not yours to turn. If you find one false, say at which input.
  Laid BY PROGRAM, IN A SANDBOX (cutbox-rows.mjs): the forced cells as the released guide's own fill.sh prints them over the translation 99595c9176bda873… (all of the seat's roots in one cut). By AI agents, Wed Nov 11 2026. No macro, syntax, notation, axiom, sorry.
-/
import Derived.Test.YtcljkkfpcomdcaaChecked
import GoSem.Claim
import GoSem.ClaimJoined
import GoSem.ClaimMapViews
import Derived.JoinedTies
import Derived.KernelRfl
namespace Go.Proofs.Ytcljkkfpcomdcaa
/- THE CELL 'sum', in the pinned program and in every row, IS THE sha256 OF THE DUMP (.gsa) THAT YtcljkkfpcomdcaaProg.lean LOADS. Nothing in Lean hashes anything: it is a label: what it is worth is what the hold of that sum in a sandbox is worth. -/
noncomputable def Try.pinned : Pinned := { name := "ytcljkkfpcomdcaa", sum := "99595c9176bda873b1874dacd5ee9a3275908a6818ad5e8d19cdd9cc03dbea48", checked := Try.checked }
namespace Rows
def none {H : Type} : Left H := { results := [], args := [] }

/-- 'mortiselaw06.SyntaxParses': WHATEVER THE INPUT: true; the input reads as it did. -/
def syntaxParsesSpec : ChangeSpec := { name := "syntaxParses", fn := fun _ => fun
  | [d1, d2] => { results := [.lit (.bool true)], args := [d1, d2] }
  | _ => none }
def syntaxParsesRow : OpenClaim := { program := "ytcljkkfpcomdcaa", sum := "99595c9176bda873b1874dacd5ee9a3275908a6818ad5e8d19cdd9cc03dbea48", func := "mortise/mortiselaw06.SyntaxParses", spec := "syntaxParses", inPlace := ["internal/bytealg.IndexByteString"], unfollowed := true, recurses := true, apart := false }
def SyntaxParsesSaid : Prop := syntaxParsesRow.holds Try.pinned (OpenSpec.ofChange syntaxParsesSpec)

/-- ITS FALSE NEIGHBOUR: 'it returns false'. Refute it at one input. -/
def syntaxParsesWrong : ChangeSpec := { name := "syntaxParses", fn := fun _ => fun
  | [d1, d2] => { results := [.lit (.bool false)], args := [d1, d2] }
  | _ => none }
def SyntaxParsesWrongFalsely : Prop := syntaxParsesRow.holds Try.pinned (OpenSpec.ofChange syntaxParsesWrong)

/-- 'mortiselaw06.SyntaxChecks': WHATEVER THE INPUT: true; the input reads as it did. -/
def syntaxChecksSpec : ChangeSpec := { name := "syntaxChecks", fn := fun _ => fun
  | [d1, d2, d3, d4] => { results := [.lit (.bool true)], args := [d1, d2, d3, d4] }
  | _ => none }
def syntaxChecksRow : OpenClaim := { program := "ytcljkkfpcomdcaa", sum := "99595c9176bda873b1874dacd5ee9a3275908a6818ad5e8d19cdd9cc03dbea48", func := "mortise/mortiselaw06.SyntaxChecks", spec := "syntaxChecks", inPlace := ["internal/bytealg.IndexByteString"], unfollowed := true, recurses := true, apart := false }
def SyntaxChecksSaid : Prop := syntaxChecksRow.holds Try.pinned (OpenSpec.ofChange syntaxChecksSpec)

/-- ITS FALSE NEIGHBOUR: 'it returns false'. Refute it at one input. -/
def syntaxChecksWrong : ChangeSpec := { name := "syntaxChecks", fn := fun _ => fun
  | [d1, d2, d3, d4] => { results := [.lit (.bool false)], args := [d1, d2, d3, d4] }
  | _ => none }
def SyntaxChecksWrongFalsely : Prop := syntaxChecksRow.holds Try.pinned (OpenSpec.ofChange syntaxChecksWrong)

/-- 'mortiselaw06.SyntaxBack': WHATEVER THE INPUT: true; the input reads as it did. -/
def syntaxBackSpec : ChangeSpec := { name := "syntaxBack", fn := fun _ => fun
  | [d] => { results := [.lit (.bool true)], args := [d] }
  | _ => none }
def syntaxBackRow : OpenClaim := { program := "ytcljkkfpcomdcaa", sum := "99595c9176bda873b1874dacd5ee9a3275908a6818ad5e8d19cdd9cc03dbea48", func := "mortise/mortiselaw06.SyntaxBack", spec := "syntaxBack", inPlace := ["internal/bytealg.IndexByteString"], unfollowed := true, recurses := true, apart := false }
def SyntaxBackSaid : Prop := syntaxBackRow.holds Try.pinned (OpenSpec.ofChange syntaxBackSpec)

/-- ITS FALSE NEIGHBOUR: 'it returns false'. Refute it at one input. -/
def syntaxBackWrong : ChangeSpec := { name := "syntaxBack", fn := fun _ => fun
  | [d] => { results := [.lit (.bool false)], args := [d] }
  | _ => none }
def SyntaxBackWrongFalsely : Prop := syntaxBackRow.holds Try.pinned (OpenSpec.ofChange syntaxBackWrong)

/-- 'mortiselaw06.SyntaxPlaces': WHATEVER THE INPUT: true; the input reads as it did. -/
def syntaxPlacesSpec : ChangeSpec := { name := "syntaxPlaces", fn := fun _ => fun
  | [d] => { results := [.lit (.bool true)], args := [d] }
  | _ => none }
def syntaxPlacesRow : OpenClaim := { program := "ytcljkkfpcomdcaa", sum := "99595c9176bda873b1874dacd5ee9a3275908a6818ad5e8d19cdd9cc03dbea48", func := "mortise/mortiselaw06.SyntaxPlaces", spec := "syntaxPlaces", inPlace := ["internal/bytealg.IndexByteString"], unfollowed := true, recurses := true, apart := false }
def SyntaxPlacesSaid : Prop := syntaxPlacesRow.holds Try.pinned (OpenSpec.ofChange syntaxPlacesSpec)

/-- ITS FALSE NEIGHBOUR: 'it returns false'. Refute it at one input. -/
def syntaxPlacesWrong : ChangeSpec := { name := "syntaxPlaces", fn := fun _ => fun
  | [d] => { results := [.lit (.bool false)], args := [d] }
  | _ => none }
def SyntaxPlacesWrongFalsely : Prop := syntaxPlacesRow.holds Try.pinned (OpenSpec.ofChange syntaxPlacesWrong)

/-- 'mortiselaw06.SyntaxTokens': WHATEVER THE INPUT: true; the input reads as it did. -/
def syntaxTokensSpec : ChangeSpec := { name := "syntaxTokens", fn := fun _ => fun
  | [d1, d2] => { results := [.lit (.bool true)], args := [d1, d2] }
  | _ => none }
def syntaxTokensRow : OpenClaim := { program := "ytcljkkfpcomdcaa", sum := "99595c9176bda873b1874dacd5ee9a3275908a6818ad5e8d19cdd9cc03dbea48", func := "mortise/mortiselaw06.SyntaxTokens", spec := "syntaxTokens", inPlace := ["internal/bytealg.IndexByteString"], unfollowed := true, recurses := true, apart := false }
def SyntaxTokensSaid : Prop := syntaxTokensRow.holds Try.pinned (OpenSpec.ofChange syntaxTokensSpec)

/-- ITS FALSE NEIGHBOUR: 'it returns false'. Refute it at one input. -/
def syntaxTokensWrong : ChangeSpec := { name := "syntaxTokens", fn := fun _ => fun
  | [d1, d2] => { results := [.lit (.bool false)], args := [d1, d2] }
  | _ => none }
def SyntaxTokensWrongFalsely : Prop := syntaxTokensRow.holds Try.pinned (OpenSpec.ofChange syntaxTokensWrong)

/-- 'mortiselaw06.SyntaxJoins': WHATEVER THE INPUT: true; the input reads as it did. -/
def syntaxJoinsSpec : ChangeSpec := { name := "syntaxJoins", fn := fun _ => fun
  | [d1, d2] => { results := [.lit (.bool true)], args := [d1, d2] }
  | _ => none }
def syntaxJoinsRow : OpenClaim := { program := "ytcljkkfpcomdcaa", sum := "99595c9176bda873b1874dacd5ee9a3275908a6818ad5e8d19cdd9cc03dbea48", func := "mortise/mortiselaw06.SyntaxJoins", spec := "syntaxJoins", inPlace := ["internal/bytealg.IndexByteString"], unfollowed := true, recurses := true, apart := false }
def SyntaxJoinsSaid : Prop := syntaxJoinsRow.holds Try.pinned (OpenSpec.ofChange syntaxJoinsSpec)

/-- ITS FALSE NEIGHBOUR: 'it returns false'. Refute it at one input. -/
def syntaxJoinsWrong : ChangeSpec := { name := "syntaxJoins", fn := fun _ => fun
  | [d1, d2] => { results := [.lit (.bool false)], args := [d1, d2] }
  | _ => none }
def SyntaxJoinsWrongFalsely : Prop := syntaxJoinsRow.holds Try.pinned (OpenSpec.ofChange syntaxJoinsWrong)

/-- 'mortiselaw06.SyntaxGoesOn': WHATEVER THE INPUT: true; the input reads as it did. -/
def syntaxGoesOnSpec : ChangeSpec := { name := "syntaxGoesOn", fn := fun _ => fun
  | [d] => { results := [.lit (.bool true)], args := [d] }
  | _ => none }
def syntaxGoesOnRow : OpenClaim := { program := "ytcljkkfpcomdcaa", sum := "99595c9176bda873b1874dacd5ee9a3275908a6818ad5e8d19cdd9cc03dbea48", func := "mortise/mortiselaw06.SyntaxGoesOn", spec := "syntaxGoesOn", inPlace := ["internal/bytealg.IndexByteString"], unfollowed := true, recurses := true, apart := false }
def SyntaxGoesOnSaid : Prop := syntaxGoesOnRow.holds Try.pinned (OpenSpec.ofChange syntaxGoesOnSpec)

/-- ITS FALSE NEIGHBOUR: 'it returns false'. Refute it at one input. -/
def syntaxGoesOnWrong : ChangeSpec := { name := "syntaxGoesOn", fn := fun _ => fun
  | [d] => { results := [.lit (.bool false)], args := [d] }
  | _ => none }
def SyntaxGoesOnWrongFalsely : Prop := syntaxGoesOnRow.holds Try.pinned (OpenSpec.ofChange syntaxGoesOnWrong)

/-- 'mortiselaw06.SyntaxOwn': WHATEVER THE INPUT: true; the input reads as it did. -/
def syntaxOwnSpec : ChangeSpec := { name := "syntaxOwn", fn := fun _ => fun
  | [d] => { results := [.lit (.bool true)], args := [d] }
  | _ => none }
def syntaxOwnRow : OpenClaim := { program := "ytcljkkfpcomdcaa", sum := "99595c9176bda873b1874dacd5ee9a3275908a6818ad5e8d19cdd9cc03dbea48", func := "mortise/mortiselaw06.SyntaxOwn", spec := "syntaxOwn", inPlace := ["internal/bytealg.IndexByteString"], unfollowed := true, recurses := true, apart := false }
def SyntaxOwnSaid : Prop := syntaxOwnRow.holds Try.pinned (OpenSpec.ofChange syntaxOwnSpec)

/-- ITS FALSE NEIGHBOUR: 'it returns false'. Refute it at one input. -/
def syntaxOwnWrong : ChangeSpec := { name := "syntaxOwn", fn := fun _ => fun
  | [d] => { results := [.lit (.bool false)], args := [d] }
  | _ => none }
def SyntaxOwnWrongFalsely : Prop := syntaxOwnRow.holds Try.pinned (OpenSpec.ofChange syntaxOwnWrong)

/- THE SECOND FORM. 'bulk': how many values and letters a reading holds, each counted each time it is reached (what is shared counts as often as it is met; a slice's spare places count too). A statement '..UptoSaid' is the law's where the arguments, and the package variables that the reading takes, are together of bulk at most 1048576: NARROWER than '..Said'. Prove '..Said' where nothing that the law and all that it calls make is longer than what came in: it says more and counts as full. Else prove '..UptoSaid'. A law counts once. -/
mutual
def uptoBulk {H : Type} : DataW H → Nat
  | .lit (.string bytes) => bytes.length + 1
  | .lit _ => 1
  | .nil => 1
  | .ptr d => uptoBulk d + 1
  | .slice elems spare => uptoBulkAll elems + uptoBulkAll spare + 1
  | .agg parts => uptoBulkAll parts + 1
  | .iface _ d => uptoBulk d + 1
  | .map entries => uptoBulkEntries entries + 1
  | .held _ => 1
def uptoBulkAll {H : Type} : List (DataW H) → Nat
  | [] => 0
  | d :: r => uptoBulk d + uptoBulkAll r
def uptoBulkEntries {H : Type} : List (Lit × DataW H) → Nat
  | [] => 0
  | x :: r => uptoBulkEntry x + uptoBulkEntries r
def uptoBulkEntry {H : Type} : Lit × DataW H → Nat
  | (.string bytes, d) => bytes.length + uptoBulk d + 1
  | (_, d) => uptoBulk d + 1
 end
def uptoSmall : (H : Type) → List (DataW H) → Bool := fun _ ds => decide (uptoBulkAll ds ≤ 1048576)
def OpenSpec.upto (s : _root_.Go.ChangeSpec) : _root_.Go.OpenSpec := { _root_.Go.OpenSpec.ofChange s with cond := some uptoSmall }

/-- 'mortiselaw06.SyntaxParses', WHERE WHAT IT READS IS OF BULK AT MOST 1048576: true; the input reads as it did. -/
def syntaxParsesUptoRow : OpenClaim := { program := "ytcljkkfpcomdcaa", sum := "99595c9176bda873b1874dacd5ee9a3275908a6818ad5e8d19cdd9cc03dbea48", func := "mortise/mortiselaw06.SyntaxParses", spec := "syntaxParses", inPlace := ["internal/bytealg.IndexByteString"], unfollowed := true, recurses := true, apart := false, narrowed := true }
def SyntaxParsesUptoSaid : Prop := syntaxParsesUptoRow.holds Try.pinned (OpenSpec.upto syntaxParsesSpec)

/-- 'mortiselaw06.SyntaxChecks', WHERE WHAT IT READS IS OF BULK AT MOST 1048576: true; the input reads as it did. -/
def syntaxChecksUptoRow : OpenClaim := { program := "ytcljkkfpcomdcaa", sum := "99595c9176bda873b1874dacd5ee9a3275908a6818ad5e8d19cdd9cc03dbea48", func := "mortise/mortiselaw06.SyntaxChecks", spec := "syntaxChecks", inPlace := ["internal/bytealg.IndexByteString"], unfollowed := true, recurses := true, apart := false, narrowed := true }
def SyntaxChecksUptoSaid : Prop := syntaxChecksUptoRow.holds Try.pinned (OpenSpec.upto syntaxChecksSpec)

/-- 'mortiselaw06.SyntaxBack', WHERE WHAT IT READS IS OF BULK AT MOST 1048576: true; the input reads as it did. -/
def syntaxBackUptoRow : OpenClaim := { program := "ytcljkkfpcomdcaa", sum := "99595c9176bda873b1874dacd5ee9a3275908a6818ad5e8d19cdd9cc03dbea48", func := "mortise/mortiselaw06.SyntaxBack", spec := "syntaxBack", inPlace := ["internal/bytealg.IndexByteString"], unfollowed := true, recurses := true, apart := false, narrowed := true }
def SyntaxBackUptoSaid : Prop := syntaxBackUptoRow.holds Try.pinned (OpenSpec.upto syntaxBackSpec)

/-- 'mortiselaw06.SyntaxPlaces', WHERE WHAT IT READS IS OF BULK AT MOST 1048576: true; the input reads as it did. -/
def syntaxPlacesUptoRow : OpenClaim := { program := "ytcljkkfpcomdcaa", sum := "99595c9176bda873b1874dacd5ee9a3275908a6818ad5e8d19cdd9cc03dbea48", func := "mortise/mortiselaw06.SyntaxPlaces", spec := "syntaxPlaces", inPlace := ["internal/bytealg.IndexByteString"], unfollowed := true, recurses := true, apart := false, narrowed := true }
def SyntaxPlacesUptoSaid : Prop := syntaxPlacesUptoRow.holds Try.pinned (OpenSpec.upto syntaxPlacesSpec)

/-- 'mortiselaw06.SyntaxTokens', WHERE WHAT IT READS IS OF BULK AT MOST 1048576: true; the input reads as it did. -/
def syntaxTokensUptoRow : OpenClaim := { program := "ytcljkkfpcomdcaa", sum := "99595c9176bda873b1874dacd5ee9a3275908a6818ad5e8d19cdd9cc03dbea48", func := "mortise/mortiselaw06.SyntaxTokens", spec := "syntaxTokens", inPlace := ["internal/bytealg.IndexByteString"], unfollowed := true, recurses := true, apart := false, narrowed := true }
def SyntaxTokensUptoSaid : Prop := syntaxTokensUptoRow.holds Try.pinned (OpenSpec.upto syntaxTokensSpec)

/-- 'mortiselaw06.SyntaxJoins', WHERE WHAT IT READS IS OF BULK AT MOST 1048576: true; the input reads as it did. -/
def syntaxJoinsUptoRow : OpenClaim := { program := "ytcljkkfpcomdcaa", sum := "99595c9176bda873b1874dacd5ee9a3275908a6818ad5e8d19cdd9cc03dbea48", func := "mortise/mortiselaw06.SyntaxJoins", spec := "syntaxJoins", inPlace := ["internal/bytealg.IndexByteString"], unfollowed := true, recurses := true, apart := false, narrowed := true }
def SyntaxJoinsUptoSaid : Prop := syntaxJoinsUptoRow.holds Try.pinned (OpenSpec.upto syntaxJoinsSpec)

/-- 'mortiselaw06.SyntaxGoesOn', WHERE WHAT IT READS IS OF BULK AT MOST 1048576: true; the input reads as it did. -/
def syntaxGoesOnUptoRow : OpenClaim := { program := "ytcljkkfpcomdcaa", sum := "99595c9176bda873b1874dacd5ee9a3275908a6818ad5e8d19cdd9cc03dbea48", func := "mortise/mortiselaw06.SyntaxGoesOn", spec := "syntaxGoesOn", inPlace := ["internal/bytealg.IndexByteString"], unfollowed := true, recurses := true, apart := false, narrowed := true }
def SyntaxGoesOnUptoSaid : Prop := syntaxGoesOnUptoRow.holds Try.pinned (OpenSpec.upto syntaxGoesOnSpec)

/-- 'mortiselaw06.SyntaxOwn', WHERE WHAT IT READS IS OF BULK AT MOST 1048576: true; the input reads as it did. -/
def syntaxOwnUptoRow : OpenClaim := { program := "ytcljkkfpcomdcaa", sum := "99595c9176bda873b1874dacd5ee9a3275908a6818ad5e8d19cdd9cc03dbea48", func := "mortise/mortiselaw06.SyntaxOwn", spec := "syntaxOwn", inPlace := ["internal/bytealg.IndexByteString"], unfollowed := true, recurses := true, apart := false, narrowed := true }
def SyntaxOwnUptoSaid : Prop := syntaxOwnUptoRow.holds Try.pinned (OpenSpec.upto syntaxOwnSpec)

end Rows
end Go.Proofs.Ytcljkkfpcomdcaa
