/-
  No cell of these rows narrows 'for every input' (looked for: loops, veiled, ifaces, maps, wideKeys, modest, calm, conditions, laid).
  DERIVED. THE GIVEN ROWS OF THIS SEAT. 6 by the template 'for every input the law returns true; each argument reads behind the call as it read before'; 0 by the template 'total and deterministic' (their statements: YtiabjbaegdgmmaaTotals.lean).
  GIVEN WITH THE SEED: the statements are not yours to turn. If you find one false, say at which input.
  Laid BY PROGRAM, IN A SANDBOX (cutbox-rows.mjs): the forced cells as the released guide's own fill.sh prints them over the translation abeb2d24a409eabe… (all of the seat's roots in one cut). By AI agents, Wed Nov 11 2026. No macro, syntax, notation, axiom, sorry.
-/
import Derived.Test.YtiabjbaegdgmmaaChecked
import GoSem.Claim
import GoSem.ClaimJoined
import GoSem.ClaimMapViews
import Derived.JoinedTies
import Derived.KernelRfl
namespace Go.Proofs.Ytiabjbaegdgmmaa
/- THE CELL 'sum', in the pinned program and in every row, IS THE sha256 OF THE DUMP (.gsa) THAT YtiabjbaegdgmmaaProg.lean LOADS. Nothing in Lean hashes anything: it is a label: what it is worth is what the hold of that sum in a sandbox is worth. -/
noncomputable def Try.pinned : Pinned := { name := "ytiabjbaegdgmmaa", sum := "abeb2d24a409eabe272e0fe998626d5016aa03793a95a787b18c944949b7f8c5", checked := Try.checked }
namespace Rows
def none {H : Type} : Left H := { results := [], args := [] }

/-- 'mortiselaw05.TokensCuts': WHATEVER THE INPUT: true; the input reads as it did. -/
def tokensCutsSpec : ChangeSpec := { name := "tokensCuts", fn := fun _ => fun
  | [d1, d2] => { results := [.lit (.bool true)], args := [d1, d2] }
  | _ => none }
def tokensCutsRow : OpenClaim := { program := "ytiabjbaegdgmmaa", sum := "abeb2d24a409eabe272e0fe998626d5016aa03793a95a787b18c944949b7f8c5", func := "mortise/mortiselaw05.TokensCuts", spec := "tokensCuts", inPlace := ["internal/bytealg.IndexByteString"], unfollowed := true, recurses := true, apart := false }
def TokensCutsSaid : Prop := tokensCutsRow.holds Try.pinned (OpenSpec.ofChange tokensCutsSpec)

/-- ITS FALSE NEIGHBOUR: 'it returns false'. Refute it at one input. -/
def tokensCutsWrong : ChangeSpec := { name := "tokensCuts", fn := fun _ => fun
  | [d1, d2] => { results := [.lit (.bool false)], args := [d1, d2] }
  | _ => none }
def TokensCutsWrongFalsely : Prop := tokensCutsRow.holds Try.pinned (OpenSpec.ofChange tokensCutsWrong)

/-- 'mortiselaw05.TokensWords': WHATEVER THE INPUT: true; the input reads as it did. -/
def tokensWordsSpec : ChangeSpec := { name := "tokensWords", fn := fun _ => fun
  | [d] => { results := [.lit (.bool true)], args := [d] }
  | _ => none }
def tokensWordsRow : OpenClaim := { program := "ytiabjbaegdgmmaa", sum := "abeb2d24a409eabe272e0fe998626d5016aa03793a95a787b18c944949b7f8c5", func := "mortise/mortiselaw05.TokensWords", spec := "tokensWords", inPlace := ["internal/bytealg.IndexByteString"], unfollowed := true, recurses := true, apart := false }
def TokensWordsSaid : Prop := tokensWordsRow.holds Try.pinned (OpenSpec.ofChange tokensWordsSpec)

/-- ITS FALSE NEIGHBOUR: 'it returns false'. Refute it at one input. -/
def tokensWordsWrong : ChangeSpec := { name := "tokensWords", fn := fun _ => fun
  | [d] => { results := [.lit (.bool false)], args := [d] }
  | _ => none }
def TokensWordsWrongFalsely : Prop := tokensWordsRow.holds Try.pinned (OpenSpec.ofChange tokensWordsWrong)

/-- 'mortiselaw05.TokensPlaces': WHATEVER THE INPUT: true; the input reads as it did. -/
def tokensPlacesSpec : ChangeSpec := { name := "tokensPlaces", fn := fun _ => fun
  | [d] => { results := [.lit (.bool true)], args := [d] }
  | _ => none }
def tokensPlacesRow : OpenClaim := { program := "ytiabjbaegdgmmaa", sum := "abeb2d24a409eabe272e0fe998626d5016aa03793a95a787b18c944949b7f8c5", func := "mortise/mortiselaw05.TokensPlaces", spec := "tokensPlaces", inPlace := ["internal/bytealg.IndexByteString"], unfollowed := true, recurses := true, apart := false }
def TokensPlacesSaid : Prop := tokensPlacesRow.holds Try.pinned (OpenSpec.ofChange tokensPlacesSpec)

/-- ITS FALSE NEIGHBOUR: 'it returns false'. Refute it at one input. -/
def tokensPlacesWrong : ChangeSpec := { name := "tokensPlaces", fn := fun _ => fun
  | [d] => { results := [.lit (.bool false)], args := [d] }
  | _ => none }
def TokensPlacesWrongFalsely : Prop := tokensPlacesRow.holds Try.pinned (OpenSpec.ofChange tokensPlacesWrong)

/-- 'mortiselaw05.TokensAgain': WHATEVER THE INPUT: true; the input reads as it did. -/
def tokensAgainSpec : ChangeSpec := { name := "tokensAgain", fn := fun _ => fun
  | [d1, d2] => { results := [.lit (.bool true)], args := [d1, d2] }
  | _ => none }
def tokensAgainRow : OpenClaim := { program := "ytiabjbaegdgmmaa", sum := "abeb2d24a409eabe272e0fe998626d5016aa03793a95a787b18c944949b7f8c5", func := "mortise/mortiselaw05.TokensAgain", spec := "tokensAgain", inPlace := ["internal/bytealg.IndexByteString"], unfollowed := true, recurses := true, apart := false }
def TokensAgainSaid : Prop := tokensAgainRow.holds Try.pinned (OpenSpec.ofChange tokensAgainSpec)

/-- ITS FALSE NEIGHBOUR: 'it returns false'. Refute it at one input. -/
def tokensAgainWrong : ChangeSpec := { name := "tokensAgain", fn := fun _ => fun
  | [d1, d2] => { results := [.lit (.bool false)], args := [d1, d2] }
  | _ => none }
def TokensAgainWrongFalsely : Prop := tokensAgainRow.holds Try.pinned (OpenSpec.ofChange tokensAgainWrong)

/-- 'mortiselaw05.TokensFront': WHATEVER THE INPUT: true; the input reads as it did. -/
def tokensFrontSpec : ChangeSpec := { name := "tokensFront", fn := fun _ => fun
  | [d1, d2] => { results := [.lit (.bool true)], args := [d1, d2] }
  | _ => none }
def tokensFrontRow : OpenClaim := { program := "ytiabjbaegdgmmaa", sum := "abeb2d24a409eabe272e0fe998626d5016aa03793a95a787b18c944949b7f8c5", func := "mortise/mortiselaw05.TokensFront", spec := "tokensFront", inPlace := ["internal/bytealg.IndexByteString"], unfollowed := true, recurses := true, apart := false }
def TokensFrontSaid : Prop := tokensFrontRow.holds Try.pinned (OpenSpec.ofChange tokensFrontSpec)

/-- ITS FALSE NEIGHBOUR: 'it returns false'. Refute it at one input. -/
def tokensFrontWrong : ChangeSpec := { name := "tokensFront", fn := fun _ => fun
  | [d1, d2] => { results := [.lit (.bool false)], args := [d1, d2] }
  | _ => none }
def TokensFrontWrongFalsely : Prop := tokensFrontRow.holds Try.pinned (OpenSpec.ofChange tokensFrontWrong)

/-- 'mortiselaw05.TokensApart': WHATEVER THE INPUT: true; the input reads as it did. -/
def tokensApartSpec : ChangeSpec := { name := "tokensApart", fn := fun _ => fun
  | [d] => { results := [.lit (.bool true)], args := [d] }
  | _ => none }
def tokensApartRow : OpenClaim := { program := "ytiabjbaegdgmmaa", sum := "abeb2d24a409eabe272e0fe998626d5016aa03793a95a787b18c944949b7f8c5", func := "mortise/mortiselaw05.TokensApart", spec := "tokensApart", inPlace := ["internal/bytealg.IndexByteString"], unfollowed := true, recurses := true, apart := false }
def TokensApartSaid : Prop := tokensApartRow.holds Try.pinned (OpenSpec.ofChange tokensApartSpec)

/-- ITS FALSE NEIGHBOUR: 'it returns false'. Refute it at one input. -/
def tokensApartWrong : ChangeSpec := { name := "tokensApart", fn := fun _ => fun
  | [d] => { results := [.lit (.bool false)], args := [d] }
  | _ => none }
def TokensApartWrongFalsely : Prop := tokensApartRow.holds Try.pinned (OpenSpec.ofChange tokensApartWrong)

/- THE SECOND FORM. 'bulk': how many values and letters a reading holds, each counted each time it is reached (what is shared counts as often as it is met; a slice's spare places count too). A statement '..UptoSaid' is the law's where the arguments, and the package variables that the reading takes, are together of bulk at most 1048576: NARROWER than '..Said'. Prove '..Said' where nothing that the law and all that it calls make is longer than what came in: it says more and counts as full. Else prove '..UptoSaid'. A law counts once. -/
mutual
def uptoBulk {H : Type} : DataW H → Nat
  | .lit (.string bytes) => bytes.length + 1
  | .lit _ => 1
  | .nil => 1
  | .ptr d => uptoBulk d + 1
  | .slice elems spare => uptoBulkAll elems + uptoBulkAll spare + 1
  | .agg parts => uptoBulkAll parts + 1
  | .iface _ d => uptoBulk d + 1
  | .map entries => uptoBulkEntries entries + 1
  | .held _ => 1
def uptoBulkAll {H : Type} : List (DataW H) → Nat
  | [] => 0
  | d :: r => uptoBulk d + uptoBulkAll r
def uptoBulkEntries {H : Type} : List (Lit × DataW H) → Nat
  | [] => 0
  | x :: r => uptoBulkEntry x + uptoBulkEntries r
def uptoBulkEntry {H : Type} : Lit × DataW H → Nat
  | (.string bytes, d) => bytes.length + uptoBulk d + 1
  | (_, d) => uptoBulk d + 1
 end
def uptoSmall : (H : Type) → List (DataW H) → Bool := fun _ ds => decide (uptoBulkAll ds ≤ 1048576)
def OpenSpec.upto (s : _root_.Go.ChangeSpec) : _root_.Go.OpenSpec := { _root_.Go.OpenSpec.ofChange s with cond := some uptoSmall }

/-- 'mortiselaw05.TokensCuts', WHERE WHAT IT READS IS OF BULK AT MOST 1048576: true; the input reads as it did. -/
def tokensCutsUptoRow : OpenClaim := { program := "ytiabjbaegdgmmaa", sum := "abeb2d24a409eabe272e0fe998626d5016aa03793a95a787b18c944949b7f8c5", func := "mortise/mortiselaw05.TokensCuts", spec := "tokensCuts", inPlace := ["internal/bytealg.IndexByteString"], unfollowed := true, recurses := true, apart := false, narrowed := true }
def TokensCutsUptoSaid : Prop := tokensCutsUptoRow.holds Try.pinned (OpenSpec.upto tokensCutsSpec)

/-- 'mortiselaw05.TokensWords', WHERE WHAT IT READS IS OF BULK AT MOST 1048576: true; the input reads as it did. -/
def tokensWordsUptoRow : OpenClaim := { program := "ytiabjbaegdgmmaa", sum := "abeb2d24a409eabe272e0fe998626d5016aa03793a95a787b18c944949b7f8c5", func := "mortise/mortiselaw05.TokensWords", spec := "tokensWords", inPlace := ["internal/bytealg.IndexByteString"], unfollowed := true, recurses := true, apart := false, narrowed := true }
def TokensWordsUptoSaid : Prop := tokensWordsUptoRow.holds Try.pinned (OpenSpec.upto tokensWordsSpec)

/-- 'mortiselaw05.TokensPlaces', WHERE WHAT IT READS IS OF BULK AT MOST 1048576: true; the input reads as it did. -/
def tokensPlacesUptoRow : OpenClaim := { program := "ytiabjbaegdgmmaa", sum := "abeb2d24a409eabe272e0fe998626d5016aa03793a95a787b18c944949b7f8c5", func := "mortise/mortiselaw05.TokensPlaces", spec := "tokensPlaces", inPlace := ["internal/bytealg.IndexByteString"], unfollowed := true, recurses := true, apart := false, narrowed := true }
def TokensPlacesUptoSaid : Prop := tokensPlacesUptoRow.holds Try.pinned (OpenSpec.upto tokensPlacesSpec)

/-- 'mortiselaw05.TokensAgain', WHERE WHAT IT READS IS OF BULK AT MOST 1048576: true; the input reads as it did. -/
def tokensAgainUptoRow : OpenClaim := { program := "ytiabjbaegdgmmaa", sum := "abeb2d24a409eabe272e0fe998626d5016aa03793a95a787b18c944949b7f8c5", func := "mortise/mortiselaw05.TokensAgain", spec := "tokensAgain", inPlace := ["internal/bytealg.IndexByteString"], unfollowed := true, recurses := true, apart := false, narrowed := true }
def TokensAgainUptoSaid : Prop := tokensAgainUptoRow.holds Try.pinned (OpenSpec.upto tokensAgainSpec)

/-- 'mortiselaw05.TokensFront', WHERE WHAT IT READS IS OF BULK AT MOST 1048576: true; the input reads as it did. -/
def tokensFrontUptoRow : OpenClaim := { program := "ytiabjbaegdgmmaa", sum := "abeb2d24a409eabe272e0fe998626d5016aa03793a95a787b18c944949b7f8c5", func := "mortise/mortiselaw05.TokensFront", spec := "tokensFront", inPlace := ["internal/bytealg.IndexByteString"], unfollowed := true, recurses := true, apart := false, narrowed := true }
def TokensFrontUptoSaid : Prop := tokensFrontUptoRow.holds Try.pinned (OpenSpec.upto tokensFrontSpec)

/-- 'mortiselaw05.TokensApart', WHERE WHAT IT READS IS OF BULK AT MOST 1048576: true; the input reads as it did. -/
def tokensApartUptoRow : OpenClaim := { program := "ytiabjbaegdgmmaa", sum := "abeb2d24a409eabe272e0fe998626d5016aa03793a95a787b18c944949b7f8c5", func := "mortise/mortiselaw05.TokensApart", spec := "tokensApart", inPlace := ["internal/bytealg.IndexByteString"], unfollowed := true, recurses := true, apart := false, narrowed := true }
def TokensApartUptoSaid : Prop := tokensApartUptoRow.holds Try.pinned (OpenSpec.upto tokensApartSpec)

end Rows
end Go.Proofs.Ytiabjbaegdgmmaa
