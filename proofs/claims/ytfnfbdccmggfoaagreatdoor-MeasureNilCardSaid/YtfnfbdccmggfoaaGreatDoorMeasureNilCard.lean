/-
  A nil ruler returns zero values: 'MeasureNil' returns true for every input, with the four variables that the row lists tied to the program's text. No conditions.
-/
import Derived.Test.YtfnfbdccmggfoaaGreatDoorMeasureNilRow
import Derived.Test.YtfnfbdccmggfoaaGreatDoorMeasureNilCf
import Derived.Test.YtfnfbdccmggfoaaGreatDoorNGoes
import Derived.Test.YtfnfbdccmggfoaaGreatDoorCards
import Derived.Test.YtfnfbdccmggfoaaGreatDoorTie
import Derived.SevenTiedAt
set_option linter.unusedSimpArgs false
set_option linter.unusedVariables false
namespace Go.Proofs.YtfnfbdccmggfoaaGreatDoor
open Go


theorem measureNil_proved : Rows.MeasureNilCardSaid :=
  Claim7.holds_tied_plain_at .later [] [.data, .data, .data, .data] true (true, "b976994796d39199cda79f41a6087588fe5064ff1f15d23fb82b513928f454a2") false
    measureNil_holds (fun _ h => by cases h) measureNil_w (fun _ h => by cases h) measureNil_row_tie rfl ⟨rfl, rfl⟩ measureNil_m rfl
    (fun f fn hf hfn => by
      obtain rfl : f = 4 := Option.some.inj (measureNil_f.symm.trans hf) |>.symm
      obtain rfl : fn = Tryz.f4 := (Option.some.inj (Tryz.func4.symm.trans hfn)).symm
      exact ⟨measureNil_l, fun j t ht => by
        rw [Tryz.params4] at ht
        have hm : t ∈ [3, 3] := by simpa using Array.mem_of_getElem? ht
        exact (show Tryz.pinned.checked.prog.wantsStandIn t = false by simpa using List.all_eq_true.1 measureNil_s t hm)⟩)
    (goesBy_none _ funcs_goes rfl)
#print axioms measureNil_proved

end Go.Proofs.YtfnfbdccmggfoaaGreatDoor
