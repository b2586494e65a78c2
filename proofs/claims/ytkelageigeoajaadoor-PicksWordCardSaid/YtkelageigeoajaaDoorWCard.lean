/-
  The word around a position agrees with the reference: 'PicksWord' returns true for every input, with the one variable that the row lists tied to the program's text. No conditions.
-/
import Derived.Test.YtkelageigeoajaaDoorWRow1
import Derived.Test.YtkelageigeoajaaDoorCards
import Derived.Test.YtkelageigeoajaaDoorTie
import Derived.SevenTiedAt
set_option linter.unusedSimpArgs false
set_option linter.unusedVariables false
namespace Go.Proofs.YtkelageigeoajaaDoor
open Go

theorem picksWord_proved : Rows.PicksWordCardSaid :=
  Claim7.holds_tied_plain_at .later [] [.data] true (true, "4ab4093da54c7c2951f26d074af0d9927af1335095401d4a8230f42278486bb7") false
    picksWord_holds (fun _ h => by cases h) (by kernel_rfl) (fun _ h => by cases h) picksWord_row_tie rfl ⟨rfl, rfl⟩ (by kernel_rfl) rfl
    (fun f fn hf hfn => by
      obtain rfl : f = 3 := Option.some.inj ((show Tryd.prog.funcNamed Rows.picksWordRow.func = some 3 by kernel_rfl).symm.trans hf) |>.symm
      obtain rfl : fn = Tryd.f3 := (Option.some.inj (Tryd.func3.symm.trans hfn)).symm
      exact ⟨by kernel_rfl, fun j t ht => by
        rw [Tryd.params3] at ht
        have hm : t ∈ [22, 3] := by simpa using Array.mem_of_getElem? ht
        have hall : ([22, 3].all fun u => !Tryd.prog.wantsStandIn u) = true := by kernel_rfl
        exact (show Tryd.prog.wantsStandIn t = false by simpa using List.all_eq_true.1 hall t hm)⟩)
    (by kernel_rfl)
#print axioms picksWord_proved

end Go.Proofs.YtkelageigeoajaaDoor
