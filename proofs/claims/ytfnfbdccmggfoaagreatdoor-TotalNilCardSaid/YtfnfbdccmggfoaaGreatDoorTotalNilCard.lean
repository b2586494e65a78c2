/-
  A nil ruler has no ends: 'TotalNil' returns true for every input, with the four variables that the row lists tied to the program's text. No conditions.
-/
import Derived.Test.YtfnfbdccmggfoaaGreatDoorTotalNilRow
import Derived.Test.YtfnfbdccmggfoaaGreatDoorTotalNilCf
import Derived.Test.YtfnfbdccmggfoaaGreatDoorNGoes
import Derived.Test.YtfnfbdccmggfoaaGreatDoorCards
import Derived.Test.YtfnfbdccmggfoaaGreatDoorTie
import Derived.SevenTiedAt
set_option linter.unusedSimpArgs false
set_option linter.unusedVariables false
namespace Go.Proofs.YtfnfbdccmggfoaaGreatDoor
open Go


theorem totalNil_proved : Rows.TotalNilCardSaid :=
  Claim7.holds_tied_plain_at .later [] [.data, .data, .data, .data] true (true, "b976994796d39199cda79f41a6087588fe5064ff1f15d23fb82b513928f454a2") false
    totalNil_holds (fun _ h => by cases h) totalNil_w (fun _ h => by cases h) totalNil_row_tie rfl ⟨rfl, rfl⟩ totalNil_m rfl
    (fun f fn hf hfn => by
      obtain rfl : f = 3 := Option.some.inj (totalNil_f.symm.trans hf) |>.symm
      obtain rfl : fn = Tryz.f3 := (Option.some.inj (Tryz.func3.symm.trans hfn)).symm
      exact ⟨totalNil_l, fun j t ht => by
        rw [Tryz.params3] at ht
        have hm : t ∈ [22, 24] := by simpa using Array.mem_of_getElem? ht
        exact (show Tryz.pinned.checked.prog.wantsStandIn t = false by simpa using List.all_eq_true.1 totalNil_s t hm)⟩)
    (goesBy_none _ funcs_goes rfl)
#print axioms totalNil_proved

end Go.Proofs.YtfnfbdccmggfoaaGreatDoor
