/-
  DERIVED. GIVEN WITH THE SEED: THE CARDS: each row of YtfnfbdccmggfoaaGreatDoorRows.lean that lists a variable, with what it lists TIED to the program's text (the seventh form; the later family's looks); each row that meets fmt, with fmt's text TOLD by the authors' own Lean function (tested against real Go, not proved from fmt's source: count such statements apart). THE CARD IS WHAT COUNTS. Prove the row's statement (the work); the ties are given (YtfnfbdccmggfoaaGreatDoorTie.lean); close each card by the builder's one call (the guide's Derived/Test/ToyasCard.lean, 'card_holds'). Laid BY PROGRAM, IN A SANDBOX (cutbox-door.mjs). By AI agents, Wed Nov 11 2026. No macro, syntax, notation, axiom, sorry.
-/
import Derived.Test.YtfnfbdccmggfoaaGreatDoorRows
import GoSem.ClaimSeven
namespace Go.Proofs.YtfnfbdccmggfoaaGreatDoor
namespace Rows

/-- THE TIED CARD OF 'typecaselaw43.TotalNil'. -/
def totalNilCard : Claim7 := { stood := { row := totalNilRow, standIns := [], harness := (true, "b976994796d39199cda79f41a6087588fe5064ff1f15d23fb82b513928f454a2"), looks := false }, kinds := [], alts := [], laidByText := true, laidKinds := [.data, .data, .data, .data], laidTests := true, laidLooks := .later }
def TotalNilCardSaid : Prop := Claim7.holds Tryz.pinned (.plain (OpenSpec.ofChange totalNilSpec)) totalNilCard

/-- THE TIED CARD OF 'typecaselaw41.MeasureNil'. -/
def measureNilCard : Claim7 := { stood := { row := measureNilRow, standIns := [], harness := (true, "b976994796d39199cda79f41a6087588fe5064ff1f15d23fb82b513928f454a2"), looks := false }, kinds := [], alts := [], laidByText := true, laidKinds := [.data, .data, .data, .data], laidTests := true, laidLooks := .later }
def MeasureNilCardSaid : Prop := Claim7.holds Tryz.pinned (.plain (OpenSpec.ofChange measureNilSpec)) measureNilCard

/-- THE SECOND FORM's CARD OF 'typecaselaw43.TotalNil'. -/
def totalNilUptoCard : Claim7 := { stood := { row := totalNilUptoRow, standIns := [], harness := (true, "b976994796d39199cda79f41a6087588fe5064ff1f15d23fb82b513928f454a2"), looks := false }, kinds := [], alts := [], laidByText := true, laidKinds := [.data, .data, .data, .data], laidTests := true, laidLooks := .later }
def TotalNilUptoCardSaid : Prop := Claim7.holds Tryz.pinned (.plain (OpenSpec.upto totalNilSpec)) totalNilUptoCard

/-- THE SECOND FORM's CARD OF 'typecaselaw41.MeasureNil'. -/
def measureNilUptoCard : Claim7 := { stood := { row := measureNilUptoRow, standIns := [], harness := (true, "b976994796d39199cda79f41a6087588fe5064ff1f15d23fb82b513928f454a2"), looks := false }, kinds := [], alts := [], laidByText := true, laidKinds := [.data, .data, .data, .data], laidTests := true, laidLooks := .later }
def MeasureNilUptoCardSaid : Prop := Claim7.holds Tryz.pinned (.plain (OpenSpec.upto measureNilSpec)) measureNilUptoCard
end Rows
end Go.Proofs.YtfnfbdccmggfoaaGreatDoor
