/-
  DERIVED. GIVEN WITH THE SEED: THE CARDS: each row of YtkelageigeoajaaDoorRows.lean that lists a variable, with what it lists TIED to the program's text (the seventh form; the later family's looks); each row that meets fmt, with fmt's text TOLD by the authors' own Lean function (tested against real Go, not proved from fmt's source: count such statements apart). THE CARD IS WHAT COUNTS. Prove the row's statement (the work); the ties are given (YtkelageigeoajaaDoorTie.lean); close each card by the builder's one call (the guide's Derived/Test/ToyasCard.lean, 'card_holds'). Laid BY PROGRAM, IN A SANDBOX (cutbox-door.mjs). By AI agents, Wed Nov 11 2026. No macro, syntax, notation, axiom, sorry.
-/
import Derived.Test.YtkelageigeoajaaDoorRows
import GoSem.ClaimSeven
namespace Go.Proofs.YtkelageigeoajaaDoor
namespace Rows

/-- THE TIED CARD OF 'typecaselaw49.PicksWord'. -/
def picksWordCard : Claim7 := { stood := { row := picksWordRow, standIns := [], harness := (true, "4ab4093da54c7c2951f26d074af0d9927af1335095401d4a8230f42278486bb7"), looks := false }, kinds := [], alts := [], laidByText := true, laidKinds := [.data], laidTests := true, laidLooks := .later }
def PicksWordCardSaid : Prop := Claim7.holds Tryd.pinned (.plain (OpenSpec.ofChange picksWordSpec)) picksWordCard

/-- THE SECOND FORM's CARD OF 'typecaselaw49.PicksWord'. -/
def picksWordUptoCard : Claim7 := { stood := { row := picksWordUptoRow, standIns := [], harness := (true, "4ab4093da54c7c2951f26d074af0d9927af1335095401d4a8230f42278486bb7"), looks := false }, kinds := [], alts := [], laidByText := true, laidKinds := [.data], laidTests := true, laidLooks := .later }
def PicksWordUptoCardSaid : Prop := Claim7.holds Tryd.pinned (.plain (OpenSpec.upto picksWordSpec)) picksWordUptoCard
end Rows
end Go.Proofs.YtkelageigeoajaaDoor
