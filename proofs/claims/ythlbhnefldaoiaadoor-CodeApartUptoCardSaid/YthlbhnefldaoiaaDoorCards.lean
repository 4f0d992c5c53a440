/-
  DERIVED. GIVEN WITH THE SEED: THE CARDS: each row of YthlbhnefldaoiaaDoorRows.lean that lists a variable, with what it lists TIED to the program's text (the seventh form; the later family's looks); each row that meets fmt, with fmt's text TOLD by the authors' own Lean function (tested against real Go, not proved from fmt's source: count such statements apart). THE CARD IS WHAT COUNTS. Prove the row's statement (the work); the ties are given (YthlbhnefldaoiaaDoorTie.lean); close each card by the builder's one call (the guide's Derived/Test/ToyasCard.lean, 'card_holds'). Laid BY PROGRAM, IN A SANDBOX (cutbox-door.mjs). By AI agents, Wed Nov 11 2026. No macro, syntax, notation, axiom, sorry.
-/
import Derived.Test.YthlbhnefldaoiaaDoorRows
import GoSem.ClaimSeven
namespace Go.Proofs.YthlbhnefldaoiaaDoor
namespace Rows

/-- THE TIED CARD OF 'mortiselaw14.CodeLimits'. -/
def codeLimitsCard : Claim7 := { stood := { row := codeLimitsRow, standIns := [], harness := (true, "742d10fa6274004cdfef400bae465c17d3d5f4acdd944fed0bddec565b8df407"), looks := false }, kinds := [], alts := [], laidByText := true, laidKinds := [.data, .data, .data], laidTests := true, laidLooks := .later }
def CodeLimitsCardSaid : Prop := Claim7.holds Tryd.pinned (.plain (OpenSpec.ofChange codeLimitsSpec)) codeLimitsCard

/-- THE TIED CARD OF 'mortiselaw14.CodeExact'. -/
def codeExactCard : Claim7 := { stood := { row := codeExactRow, standIns := [], harness := (true, "742d10fa6274004cdfef400bae465c17d3d5f4acdd944fed0bddec565b8df407"), looks := false }, kinds := [], alts := [], laidByText := true, laidKinds := [.data, .data, .data], laidTests := true, laidLooks := .later }
def CodeExactCardSaid : Prop := Claim7.holds Tryd.pinned (.plain (OpenSpec.ofChange codeExactSpec)) codeExactCard

/-- THE TIED CARD OF 'mortiselaw14.CodeReads'. -/
def codeReadsCard : Claim7 := { stood := { row := codeReadsRow, standIns := [], harness := (true, "742d10fa6274004cdfef400bae465c17d3d5f4acdd944fed0bddec565b8df407"), looks := false }, kinds := [], alts := [], laidByText := true, laidKinds := [.data, .data, .data], laidTests := true, laidLooks := .later }
def CodeReadsCardSaid : Prop := Claim7.holds Tryd.pinned (.plain (OpenSpec.ofChange codeReadsSpec)) codeReadsCard

/-- THE TIED CARD OF 'mortiselaw14.CodeBack'. -/
def codeBackCard : Claim7 := { stood := { row := codeBackRow, standIns := [], harness := (true, "742d10fa6274004cdfef400bae465c17d3d5f4acdd944fed0bddec565b8df407"), looks := false }, kinds := [], alts := [], laidByText := true, laidKinds := [.data, .data, .data], laidTests := true, laidLooks := .later }
def CodeBackCardSaid : Prop := Claim7.holds Tryd.pinned (.plain (OpenSpec.ofChange codeBackSpec)) codeBackCard

/-- THE TIED CARD OF 'mortiselaw14.CodeCut'. -/
def codeCutCard : Claim7 := { stood := { row := codeCutRow, standIns := [], harness := (true, "742d10fa6274004cdfef400bae465c17d3d5f4acdd944fed0bddec565b8df407"), looks := false }, kinds := [], alts := [], laidByText := true, laidKinds := [.data, .data, .data], laidTests := true, laidLooks := .later }
def CodeCutCardSaid : Prop := Claim7.holds Tryd.pinned (.plain (OpenSpec.ofChange codeCutSpec)) codeCutCard

/-- THE TIED CARD OF 'mortiselaw14.CodeTexts'. -/
def codeTextsCard : Claim7 := { stood := { row := codeTextsRow, standIns := [], harness := (true, "742d10fa6274004cdfef400bae465c17d3d5f4acdd944fed0bddec565b8df407"), looks := false }, kinds := [], alts := [], laidByText := true, laidKinds := [.data, .data, .data], laidTests := true, laidLooks := .later }
def CodeTextsCardSaid : Prop := Claim7.holds Tryd.pinned (.plain (OpenSpec.ofChange codeTextsSpec)) codeTextsCard

/-- THE TIED CARD OF 'mortiselaw14.CodeApart'. -/
def codeApartCard : Claim7 := { stood := { row := codeApartRow, standIns := [], harness := (true, "742d10fa6274004cdfef400bae465c17d3d5f4acdd944fed0bddec565b8df407"), looks := false }, kinds := [], alts := [], laidByText := true, laidKinds := [.data, .data, .data], laidTests := true, laidLooks := .later }
def CodeApartCardSaid : Prop := Claim7.holds Tryd.pinned (.plain (OpenSpec.ofChange codeApartSpec)) codeApartCard

/-- THE SECOND FORM's CARD OF 'mortiselaw14.CodeLimits'. -/
def codeLimitsUptoCard : Claim7 := { stood := { row := codeLimitsUptoRow, standIns := [], harness := (true, "742d10fa6274004cdfef400bae465c17d3d5f4acdd944fed0bddec565b8df407"), looks := false }, kinds := [], alts := [], laidByText := true, laidKinds := [.data, .data, .data], laidTests := true, laidLooks := .later }
def CodeLimitsUptoCardSaid : Prop := Claim7.holds Tryd.pinned (.plain (OpenSpec.upto codeLimitsSpec)) codeLimitsUptoCard

/-- THE SECOND FORM's CARD OF 'mortiselaw14.CodeExact'. -/
def codeExactUptoCard : Claim7 := { stood := { row := codeExactUptoRow, standIns := [], harness := (true, "742d10fa6274004cdfef400bae465c17d3d5f4acdd944fed0bddec565b8df407"), looks := false }, kinds := [], alts := [], laidByText := true, laidKinds := [.data, .data, .data], laidTests := true, laidLooks := .later }
def CodeExactUptoCardSaid : Prop := Claim7.holds Tryd.pinned (.plain (OpenSpec.upto codeExactSpec)) codeExactUptoCard

/-- THE SECOND FORM's CARD OF 'mortiselaw14.CodeReads'. -/
def codeReadsUptoCard : Claim7 := { stood := { row := codeReadsUptoRow, standIns := [], harness := (true, "742d10fa6274004cdfef400bae465c17d3d5f4acdd944fed0bddec565b8df407"), looks := false }, kinds := [], alts := [], laidByText := true, laidKinds := [.data, .data, .data], laidTests := true, laidLooks := .later }
def CodeReadsUptoCardSaid : Prop := Claim7.holds Tryd.pinned (.plain (OpenSpec.upto codeReadsSpec)) codeReadsUptoCard

/-- THE SECOND FORM's CARD OF 'mortiselaw14.CodeBack'. -/
def codeBackUptoCard : Claim7 := { stood := { row := codeBackUptoRow, standIns := [], harness := (true, "742d10fa6274004cdfef400bae465c17d3d5f4acdd944fed0bddec565b8df407"), looks := false }, kinds := [], alts := [], laidByText := true, laidKinds := [.data, .data, .data], laidTests := true, laidLooks := .later }
def CodeBackUptoCardSaid : Prop := Claim7.holds Tryd.pinned (.plain (OpenSpec.upto codeBackSpec)) codeBackUptoCard

/-- THE SECOND FORM's CARD OF 'mortiselaw14.CodeCut'. -/
def codeCutUptoCard : Claim7 := { stood := { row := codeCutUptoRow, standIns := [], harness := (true, "742d10fa6274004cdfef400bae465c17d3d5f4acdd944fed0bddec565b8df407"), looks := false }, kinds := [], alts := [], laidByText := true, laidKinds := [.data, .data, .data], laidTests := true, laidLooks := .later }
def CodeCutUptoCardSaid : Prop := Claim7.holds Tryd.pinned (.plain (OpenSpec.upto codeCutSpec)) codeCutUptoCard

/-- THE SECOND FORM's CARD OF 'mortiselaw14.CodeTexts'. -/
def codeTextsUptoCard : Claim7 := { stood := { row := codeTextsUptoRow, standIns := [], harness := (true, "742d10fa6274004cdfef400bae465c17d3d5f4acdd944fed0bddec565b8df407"), looks := false }, kinds := [], alts := [], laidByText := true, laidKinds := [.data, .data, .data], laidTests := true, laidLooks := .later }
def CodeTextsUptoCardSaid : Prop := Claim7.holds Tryd.pinned (.plain (OpenSpec.upto codeTextsSpec)) codeTextsUptoCard

/-- THE SECOND FORM's CARD OF 'mortiselaw14.CodeApart'. -/
def codeApartUptoCard : Claim7 := { stood := { row := codeApartUptoRow, standIns := [], harness := (true, "742d10fa6274004cdfef400bae465c17d3d5f4acdd944fed0bddec565b8df407"), looks := false }, kinds := [], alts := [], laidByText := true, laidKinds := [.data, .data, .data], laidTests := true, laidLooks := .later }
def CodeApartUptoCardSaid : Prop := Claim7.holds Tryd.pinned (.plain (OpenSpec.upto codeApartSpec)) codeApartUptoCard
end Rows
end Go.Proofs.YthlbhnefldaoiaaDoor
