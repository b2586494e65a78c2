/-
  Closed facts of the card of 'TotalNil', each a theorem of its own.
-/
import Derived.Test.YtfnfbdccmggfoaaGreatDoorRows
import Derived.ProofKit
import Derived.SevenTiedAt
set_option linter.unusedSimpArgs false
set_option linter.unusedVariables false
namespace Go.Proofs.YtfnfbdccmggfoaaGreatDoor
open Go
theorem totalNil_w : Rows.totalNilRow.wfByText (OpenSpec.ofChange Rows.totalNilSpec) = true := by kernel_rfl
theorem totalNil_m : Tryz.pinned.checked.prog.mainIs = some (true, "b976994796d39199cda79f41a6087588fe5064ff1f15d23fb82b513928f454a2".toList) := by kernel_rfl
theorem totalNil_l : false = Tryz.pinned.checked.prog.looks [] := by kernel_rfl
theorem totalNil_s : ([22, 24].all fun u => !Tryz.pinned.checked.prog.wantsStandIn u) = true := by kernel_rfl
theorem totalNil_f : Tryz.pinned.checked.prog.funcNamed Rows.totalNilRow.func = some 3 := by kernel_rfl
end Go.Proofs.YtfnfbdccmggfoaaGreatDoor
