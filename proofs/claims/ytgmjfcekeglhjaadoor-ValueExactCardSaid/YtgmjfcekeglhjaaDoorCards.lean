/-
  DERIVED. GIVEN WITH THE SEED: THE CARDS: each row of YtgmjfcekeglhjaaDoorRows.lean that lists a variable, with what it lists TIED to the program's text (the seventh form; the later family's looks); each row that meets fmt, with fmt's text TOLD by the authors' own Lean function (tested against real Go, not proved from fmt's source: count such statements apart). THE CARD IS WHAT COUNTS. Prove the row's statement (the work); the ties are given (YtgmjfcekeglhjaaDoorTie.lean); close each card by the builder's one call (the guide's Derived/Test/ToyasCard.lean, 'card_holds'). Laid BY PROGRAM, IN A SANDBOX (cutbox-door.mjs). By AI agents, Wed Nov 11 2026. No macro, syntax, notation, axiom, sorry.
-/
import Derived.Test.YtgmjfcekeglhjaaDoorRows
import GoSem.ClaimSeven
namespace Go.Proofs.YtgmjfcekeglhjaaDoor
namespace Rows

/-- THE TIED CARD OF 'mortiselaw04.ValueExact'. -/
def valueExactCard : Claim7 := { stood := { row := valueExactRow, standIns := [], harness := (true, "b55fb448059415638fa3d2887aa0a20b73f34de2ce91c67b94fdb2f672152bc4"), looks := false }, kinds := [], alts := [], laidByText := true, laidKinds := [.data, .data, .data], laidTests := true, laidLooks := .later }
def ValueExactCardSaid : Prop := Claim7.holds Tryd.pinned (.plain (OpenSpec.ofChange valueExactSpec)) valueExactCard

/-- THE TIED CARD OF 'mortiselaw04.ValueArena'. -/
def valueArenaCard : Claim7 := { stood := { row := valueArenaRow, standIns := [], harness := (true, "b55fb448059415638fa3d2887aa0a20b73f34de2ce91c67b94fdb2f672152bc4"), looks := false }, kinds := [], alts := [], laidByText := true, laidKinds := [.data, .data, .data], laidTests := true, laidLooks := .later }
def ValueArenaCardSaid : Prop := Claim7.holds Tryd.pinned (.plain (OpenSpec.ofChange valueArenaSpec)) valueArenaCard

/-- THE TIED CARD OF 'mortiselaw04.ValueBack'. -/
def valueBackCard : Claim7 := { stood := { row := valueBackRow, standIns := [], harness := (true, "b55fb448059415638fa3d2887aa0a20b73f34de2ce91c67b94fdb2f672152bc4"), looks := false }, kinds := [], alts := [], laidByText := true, laidKinds := [.data, .data, .data], laidTests := true, laidLooks := .later }
def ValueBackCardSaid : Prop := Claim7.holds Tryd.pinned (.plain (OpenSpec.ofChange valueBackSpec)) valueBackCard

/-- THE TIED CARD OF 'mortiselaw04.ValuePlaces'. -/
def valuePlacesCard : Claim7 := { stood := { row := valuePlacesRow, standIns := [], harness := (true, "b55fb448059415638fa3d2887aa0a20b73f34de2ce91c67b94fdb2f672152bc4"), looks := false }, kinds := [], alts := [], laidByText := true, laidKinds := [.data, .data, .data], laidTests := true, laidLooks := .later }
def ValuePlacesCardSaid : Prop := Claim7.holds Tryd.pinned (.plain (OpenSpec.ofChange valuePlacesSpec)) valuePlacesCard

/-- THE TIED CARD OF 'mortiselaw04.ValueWay'. -/
def valueWayCard : Claim7 := { stood := { row := valueWayRow, standIns := [], harness := (true, "b55fb448059415638fa3d2887aa0a20b73f34de2ce91c67b94fdb2f672152bc4"), looks := false }, kinds := [], alts := [], laidByText := true, laidKinds := [.data, .data, .data], laidTests := true, laidLooks := .later }
def ValueWayCardSaid : Prop := Claim7.holds Tryd.pinned (.plain (OpenSpec.ofChange valueWaySpec)) valueWayCard

/-- THE TIED CARD OF 'mortiselaw04.ValueOrder'. -/
def valueOrderCard : Claim7 := { stood := { row := valueOrderRow, standIns := [], harness := (true, "b55fb448059415638fa3d2887aa0a20b73f34de2ce91c67b94fdb2f672152bc4"), looks := false }, kinds := [], alts := [], laidByText := true, laidKinds := [.data, .data, .data], laidTests := true, laidLooks := .later }
def ValueOrderCardSaid : Prop := Claim7.holds Tryd.pinned (.plain (OpenSpec.ofChange valueOrderSpec)) valueOrderCard

/-- THE SECOND FORM's CARD OF 'mortiselaw04.ValueExact'. -/
def valueExactUptoCard : Claim7 := { stood := { row := valueExactUptoRow, standIns := [], harness := (true, "b55fb448059415638fa3d2887aa0a20b73f34de2ce91c67b94fdb2f672152bc4"), looks := false }, kinds := [], alts := [], laidByText := true, laidKinds := [.data, .data, .data], laidTests := true, laidLooks := .later }
def ValueExactUptoCardSaid : Prop := Claim7.holds Tryd.pinned (.plain (OpenSpec.upto valueExactSpec)) valueExactUptoCard

/-- THE SECOND FORM's CARD OF 'mortiselaw04.ValueArena'. -/
def valueArenaUptoCard : Claim7 := { stood := { row := valueArenaUptoRow, standIns := [], harness := (true, "b55fb448059415638fa3d2887aa0a20b73f34de2ce91c67b94fdb2f672152bc4"), looks := false }, kinds := [], alts := [], laidByText := true, laidKinds := [.data, .data, .data], laidTests := true, laidLooks := .later }
def ValueArenaUptoCardSaid : Prop := Claim7.holds Tryd.pinned (.plain (OpenSpec.upto valueArenaSpec)) valueArenaUptoCard

/-- THE SECOND FORM's CARD OF 'mortiselaw04.ValueBack'. -/
def valueBackUptoCard : Claim7 := { stood := { row := valueBackUptoRow, standIns := [], harness := (true, "b55fb448059415638fa3d2887aa0a20b73f34de2ce91c67b94fdb2f672152bc4"), looks := false }, kinds := [], alts := [], laidByText := true, laidKinds := [.data, .data, .data], laidTests := true, laidLooks := .later }
def ValueBackUptoCardSaid : Prop := Claim7.holds Tryd.pinned (.plain (OpenSpec.upto valueBackSpec)) valueBackUptoCard

/-- THE SECOND FORM's CARD OF 'mortiselaw04.ValuePlaces'. -/
def valuePlacesUptoCard : Claim7 := { stood := { row := valuePlacesUptoRow, standIns := [], harness := (true, "b55fb448059415638fa3d2887aa0a20b73f34de2ce91c67b94fdb2f672152bc4"), looks := false }, kinds := [], alts := [], laidByText := true, laidKinds := [.data, .data, .data], laidTests := true, laidLooks := .later }
def ValuePlacesUptoCardSaid : Prop := Claim7.holds Tryd.pinned (.plain (OpenSpec.upto valuePlacesSpec)) valuePlacesUptoCard

/-- THE SECOND FORM's CARD OF 'mortiselaw04.ValueWay'. -/
def valueWayUptoCard : Claim7 := { stood := { row := valueWayUptoRow, standIns := [], harness := (true, "b55fb448059415638fa3d2887aa0a20b73f34de2ce91c67b94fdb2f672152bc4"), looks := false }, kinds := [], alts := [], laidByText := true, laidKinds := [.data, .data, .data], laidTests := true, laidLooks := .later }
def ValueWayUptoCardSaid : Prop := Claim7.holds Tryd.pinned (.plain (OpenSpec.upto valueWaySpec)) valueWayUptoCard

/-- THE SECOND FORM's CARD OF 'mortiselaw04.ValueOrder'. -/
def valueOrderUptoCard : Claim7 := { stood := { row := valueOrderUptoRow, standIns := [], harness := (true, "b55fb448059415638fa3d2887aa0a20b73f34de2ce91c67b94fdb2f672152bc4"), looks := false }, kinds := [], alts := [], laidByText := true, laidKinds := [.data, .data, .data], laidTests := true, laidLooks := .later }
def ValueOrderUptoCardSaid : Prop := Claim7.holds Tryd.pinned (.plain (OpenSpec.upto valueOrderSpec)) valueOrderUptoCard
end Rows
end Go.Proofs.YtgmjfcekeglhjaaDoor
