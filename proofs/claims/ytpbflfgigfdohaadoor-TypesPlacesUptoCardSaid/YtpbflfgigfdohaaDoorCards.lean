/-
  DERIVED. GIVEN WITH THE SEED: THE CARDS: each row of YtpbflfgigfdohaaDoorRows.lean that lists a variable, with what it lists TIED to the program's text (the seventh form; the later family's looks); each row that meets fmt, with fmt's text TOLD by the authors' own Lean function (tested against real Go, not proved from fmt's source: count such statements apart). THE CARD IS WHAT COUNTS. Prove the row's statement (the work); the ties are given (YtpbflfgigfdohaaDoorTie.lean); close each card by the builder's one call (the guide's Derived/Test/ToyasCard.lean, 'card_holds'). Laid BY PROGRAM, IN A SANDBOX (cutbox-door.mjs). By AI agents, Wed Nov 11 2026. No macro, syntax, notation, axiom, sorry.
-/
import Derived.Test.YtpbflfgigfdohaaDoorRows
import GoSem.ClaimSeven
namespace Go.Proofs.YtpbflfgigfdohaaDoor
namespace Rows

/-- THE TIED CARD OF 'mortiselaw09.TypesPlaces'. -/
def typesPlacesCard : Claim7 := { stood := { row := typesPlacesRow, standIns := [], harness := (true, "cefb4454054870487bdf82de3e020c68baa69789cac5e1621cfdd27fd5079302"), looks := true }, kinds := [], alts := [], laidByText := true, laidKinds := [.data, .data, .data], laidTests := true, laidLooks := .later }
def TypesPlacesCardSaid : Prop := Claim7.holds Tryd.pinned (.plain (OpenSpec.ofChange typesPlacesSpec)) typesPlacesCard

/-- THE SECOND FORM's CARD OF 'mortiselaw09.TypesPlaces'. -/
def typesPlacesUptoCard : Claim7 := { stood := { row := typesPlacesUptoRow, standIns := [], harness := (true, "cefb4454054870487bdf82de3e020c68baa69789cac5e1621cfdd27fd5079302"), looks := true }, kinds := [], alts := [], laidByText := true, laidKinds := [.data, .data, .data], laidTests := true, laidLooks := .later }
def TypesPlacesUptoCardSaid : Prop := Claim7.holds Tryd.pinned (.plain (OpenSpec.upto typesPlacesSpec)) typesPlacesUptoCard
end Rows
end Go.Proofs.YtpbflfgigfdohaaDoor
