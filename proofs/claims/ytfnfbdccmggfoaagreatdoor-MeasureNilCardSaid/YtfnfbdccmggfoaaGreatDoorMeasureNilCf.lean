/-
  Closed facts of the card of 'MeasureNil', each a theorem of its own.
-/
import Derived.Test.YtfnfbdccmggfoaaGreatDoorRows
import Derived.ProofKit
import Derived.SevenTiedAt
set_option linter.unusedSimpArgs false
set_option linter.unusedVariables false
namespace Go.Proofs.YtfnfbdccmggfoaaGreatDoor
open Go
theorem measureNil_w : Rows.measureNilRow.wfByText (OpenSpec.ofChange Rows.measureNilSpec) = true := by kernel_rfl
theorem measureNil_m : Tryz.pinned.checked.prog.mainIs = some (true, "b976994796d39199cda79f41a6087588fe5064ff1f15d23fb82b513928f454a2".toList) := by kernel_rfl
theorem measureNil_l : false = Tryz.pinned.checked.prog.looks [] := by kernel_rfl
theorem measureNil_s : ([3, 3].all fun u => !Tryz.pinned.checked.prog.wantsStandIn u) = true := by kernel_rfl
theorem measureNil_f : Tryz.pinned.checked.prog.funcNamed Rows.measureNilRow.func = some 4 := by kernel_rfl
end Go.Proofs.YtfnfbdccmggfoaaGreatDoor
