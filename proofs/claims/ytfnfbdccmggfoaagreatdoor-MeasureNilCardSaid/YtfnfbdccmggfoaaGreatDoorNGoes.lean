/-
  No function of the program starts a goroutine: so no row's call does.
-/
import Derived.Test.YtfnfbdccmggfoaaGreatDoorRows
import Derived.ProofKit
import Derived.SevenTiedAt
set_option linter.unusedSimpArgs false
set_option linter.unusedVariables false
namespace Go.Proofs.YtfnfbdccmggfoaaGreatDoor
open Go
theorem goes_none {P : Program} (h : P.funcs.any Func.goes = false) (f : FuncId) : P.goes f = false := by
  unfold Program.goes
  rw [h, Bool.and_false, Bool.or_false, List.any_eq_false]
  intro g _
  cases hg : P.funcs[g]? with
  | none => simp
  | some fn =>
    have h1 : fn ∈ P.funcs := Array.mem_of_getElem? hg
    have h2 : ¬ (fn.goes = true) := fun e => by
      have : P.funcs.any Func.goes = true := Array.any_eq_true'.2 ⟨fn, h1, e⟩
      rw [h] at this
      cases this
    simpa using h2
theorem goesBy_none {P : Program} (c : OpenClaim) (h : P.funcs.any Func.goes = false) (hs : c.start = .entering) : false = c.goesBy P := by
  unfold OpenClaim.goesBy Program.goesAt Program.goesFrom
  rw [hs]
  cases P.funcNamed c.func with
  | none => rfl
  | some f => simp [goes_none h f]
theorem funcs_goes : Tryz.pinned.checked.prog.funcs.any Func.goes = false := by kernel_rfl
end Go.Proofs.YtfnfbdccmggfoaaGreatDoor
