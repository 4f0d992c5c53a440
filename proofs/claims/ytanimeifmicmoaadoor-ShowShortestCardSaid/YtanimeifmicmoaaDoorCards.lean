/-
  DERIVED. GIVEN WITH THE SEED: THE CARDS: each row of YtanimeifmicmoaaDoorRows.lean that lists a variable, with what it lists TIED to the program's text (the seventh form; the later family's looks); each row that meets fmt, with fmt's text TOLD by the authors' own Lean function (tested against real Go, not proved from fmt's source: count such statements apart). THE CARD IS WHAT COUNTS. Prove the row's statement (the work); the ties are given (YtanimeifmicmoaaDoorTie.lean); close each card by the builder's one call (the guide's Derived/Test/ToyasCard.lean, 'card_holds'). Laid BY PROGRAM, IN A SANDBOX (cutbox-door.mjs). By AI agents, Wed Nov 11 2026. No macro, syntax, notation, axiom, sorry.
-/
import Derived.Test.YtanimeifmicmoaaDoorRows
import GoSem.ClaimSeven
namespace Go.Proofs.YtanimeifmicmoaaDoor
namespace Rows

/-- THE TIED CARD OF 'mortiselaw07.ShowExact'. -/
def showExactCard : Claim7 := { stood := { row := showExactRow, standIns := [], harness := (true, "413dbd2f1e43283d6140df3310fdb1a76913744adf47ad882b7d2bebab019903"), looks := true }, kinds := [], alts := [], laidByText := true, laidKinds := [.data, .data, .data, .data], laidTests := true, laidLooks := .later }
def ShowExactCardSaid : Prop := Claim7.holds Tryd.pinned (.plain (OpenSpec.ofChange showExactSpec)) showExactCard

/-- THE TIED CARD OF 'mortiselaw07.ShowNothingLost'. -/
def showNothingLostCard : Claim7 := { stood := { row := showNothingLostRow, standIns := [], harness := (true, "413dbd2f1e43283d6140df3310fdb1a76913744adf47ad882b7d2bebab019903"), looks := true }, kinds := [], alts := [], laidByText := true, laidKinds := [.data, .data, .data, .data], laidTests := true, laidLooks := .later }
def ShowNothingLostCardSaid : Prop := Claim7.holds Tryd.pinned (.plain (OpenSpec.ofChange showNothingLostSpec)) showNothingLostCard

/-- THE TIED CARD OF 'mortiselaw07.ShowBack'. -/
def showBackCard : Claim7 := { stood := { row := showBackRow, standIns := [], harness := (true, "413dbd2f1e43283d6140df3310fdb1a76913744adf47ad882b7d2bebab019903"), looks := true }, kinds := [], alts := [], laidByText := true, laidKinds := [.data, .data, .data], laidTests := true, laidLooks := .later }
def ShowBackCardSaid : Prop := Claim7.holds Tryd.pinned (.plain (OpenSpec.ofChange showBackSpec)) showBackCard

/-- THE TIED CARD OF 'mortiselaw07.ShowShortest'. -/
def showShortestCard : Claim7 := { stood := { row := showShortestRow, standIns := [], harness := (true, "413dbd2f1e43283d6140df3310fdb1a76913744adf47ad882b7d2bebab019903"), looks := true }, kinds := [], alts := [], laidByText := true, laidKinds := [.data, .data, .data], laidTests := true, laidLooks := .later }
def ShowShortestCardSaid : Prop := Claim7.holds Tryd.pinned (.plain (OpenSpec.ofChange showShortestSpec)) showShortestCard

/-- THE SECOND FORM's CARD OF 'mortiselaw07.ShowExact'. -/
def showExactUptoCard : Claim7 := { stood := { row := showExactUptoRow, standIns := [], harness := (true, "413dbd2f1e43283d6140df3310fdb1a76913744adf47ad882b7d2bebab019903"), looks := true }, kinds := [], alts := [], laidByText := true, laidKinds := [.data, .data, .data, .data], laidTests := true, laidLooks := .later }
def ShowExactUptoCardSaid : Prop := Claim7.holds Tryd.pinned (.plain (OpenSpec.upto showExactSpec)) showExactUptoCard

/-- THE SECOND FORM's CARD OF 'mortiselaw07.ShowNothingLost'. -/
def showNothingLostUptoCard : Claim7 := { stood := { row := showNothingLostUptoRow, standIns := [], harness := (true, "413dbd2f1e43283d6140df3310fdb1a76913744adf47ad882b7d2bebab019903"), looks := true }, kinds := [], alts := [], laidByText := true, laidKinds := [.data, .data, .data, .data], laidTests := true, laidLooks := .later }
def ShowNothingLostUptoCardSaid : Prop := Claim7.holds Tryd.pinned (.plain (OpenSpec.upto showNothingLostSpec)) showNothingLostUptoCard

/-- THE SECOND FORM's CARD OF 'mortiselaw07.ShowBack'. -/
def showBackUptoCard : Claim7 := { stood := { row := showBackUptoRow, standIns := [], harness := (true, "413dbd2f1e43283d6140df3310fdb1a76913744adf47ad882b7d2bebab019903"), looks := true }, kinds := [], alts := [], laidByText := true, laidKinds := [.data, .data, .data], laidTests := true, laidLooks := .later }
def ShowBackUptoCardSaid : Prop := Claim7.holds Tryd.pinned (.plain (OpenSpec.upto showBackSpec)) showBackUptoCard

/-- THE SECOND FORM's CARD OF 'mortiselaw07.ShowShortest'. -/
def showShortestUptoCard : Claim7 := { stood := { row := showShortestUptoRow, standIns := [], harness := (true, "413dbd2f1e43283d6140df3310fdb1a76913744adf47ad882b7d2bebab019903"), looks := true }, kinds := [], alts := [], laidByText := true, laidKinds := [.data, .data, .data], laidTests := true, laidLooks := .later }
def ShowShortestUptoCardSaid : Prop := Claim7.holds Tryd.pinned (.plain (OpenSpec.upto showShortestSpec)) showShortestUptoCard
end Rows
end Go.Proofs.YtanimeifmicmoaaDoor
