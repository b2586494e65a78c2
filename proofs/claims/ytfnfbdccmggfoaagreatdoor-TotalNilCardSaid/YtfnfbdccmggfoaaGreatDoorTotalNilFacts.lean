/-
  The closed facts of the row of 'TotalNil', each a theorem of its own, printed by a program (gen_facts.py).
-/
import Derived.Test.YtfnfbdccmggfoaaGreatDoorRows
import Derived.ProofKit
set_option linter.unusedSimpArgs false
set_option linter.unusedVariables false
namespace Go.Proofs.YtfnfbdccmggfoaaGreatDoor
open Go
theorem and_t3 {a b : Bool} (h : a = true) (k : b = true) : (a && b) = true := by rw [h, k]; rfl

theorem totalNil_j0 : (Rows.totalNilRow.wf (OpenSpec.ofChange Rows.totalNilSpec)) = true := by kernel_rfl
theorem totalNil_j1 : (laidOutB Tryz.pinned.checked.prog) = true := by kernel_rfl
theorem totalNil_j2 : (mapsRowed Tryz.pinned.checked.prog) = true := by kernel_rfl
theorem totalNil_j3 : (Tryz.f3.params.all (Tryz.pinned.checked.prog.readableRec ·)) = true := by kernel_rfl
theorem totalNil_j4 : (namedTie Tryz.pinned.checked.prog Rows.totalNilRow.named Rows.totalNilSpec.vars) = true := by kernel_rfl
theorem totalNil_j5 : ((Rows.totalNilRow.stops == [])) = true := by kernel_rfl
theorem totalNil_j6 : ((Tryz.pinned.checked.prog.stops == [])) = true := by kernel_rfl
theorem totalNil_j7 : ((Rows.totalNilRow.knobs == [])) = true := by kernel_rfl
theorem totalNil_j8 : ((Tryz.pinned.checked.prog.stopKnobs == [])) = true := by kernel_rfl
theorem totalNil_j9 : ((Rows.totalNilRow.inPlace == Tryz.pinned.checked.prog.inPlace 3)) = true := by kernel_rfl
theorem totalNil_j10 : ((Rows.totalNilRow.unfollowed == Tryz.pinned.checked.prog.unfollowed 3)) = true := by kernel_rfl
theorem totalNil_j11 : ((Rows.totalNilRow.recurses == Tryz.pinned.checked.prog.recurses 3)) = true := by kernel_rfl
theorem totalNil_j12 : ((Rows.totalNilRow.named == Tryz.pinned.checked.prog.varsNamed 3)) = true := by kernel_rfl
theorem totalNil_j13 : ((Rows.totalNilRow.maps == (Tryz.f3.params.toList ++ Rows.totalNilSpec.plain.varTypes Tryz.pinned.checked.prog).any (Tryz.pinned.checked.prog.mapsRec ·))) = true := by kernel_rfl
theorem totalNil_j14 : ((Rows.totalNilRow.ifaces == (Tryz.f3.params.toList ++ Rows.totalNilSpec.plain.varTypes Tryz.pinned.checked.prog).any (Tryz.pinned.checked.prog.ifacesRec ·))) = true := by kernel_rfl
theorem totalNil_j15 : ((Rows.totalNilRow.mapsOut == Tryz.pinned.checked.prog.mapsAmong Tryz.f3.resultTypes.toList)) = true := by kernel_rfl
theorem totalNil_j16 : ((Rows.totalNilRow.loops == (Tryz.f3.params.toList ++ Rows.totalNilSpec.plain.varTypes Tryz.pinned.checked.prog).any (Tryz.pinned.checked.prog.loopsFrom ·))) = true := by kernel_rfl
theorem totalNil_j17 : ((Rows.totalNilRow.wideKeys == (Tryz.f3.params.toList ++ Rows.totalNilSpec.plain.varTypes Tryz.pinned.checked.prog ++ Tryz.f3.resultTypes.toList).any (Tryz.pinned.checked.prog.wideKeysFrom ·))) = true := by kernel_rfl
theorem totalNil_j18 : (Rows.totalNilSpec.vars.all (Tryz.pinned.checked.prog.varReadable ·)) = true := by kernel_rfl
theorem totalNil_j19 : (Tryz.f3.resultTypes.all (fun t => Tryz.pinned.checked.prog.readableRec t && decide (t < Tryz.pinned.checked.prog.types.size))) = true := by kernel_rfl
theorem totalNil_j20 : ((Rows.totalNilRow.ifacesOut == Tryz.f3.resultTypes.toList.any (Tryz.pinned.checked.prog.ifacesRec ·))) = true := by kernel_rfl
theorem totalNil_j21 : ((Rows.totalNilRow.loopsOut == Tryz.f3.resultTypes.toList.any (Tryz.pinned.checked.prog.loopsFrom ·))) = true := by kernel_rfl
theorem totalNil_j22 : ((Rows.totalNilRow.plainKeys == Tryz.pinned.checked.prog.plainKeys)) = true := by kernel_rfl
theorem totalNil_j23 : (Rows.totalNilRow.shortTexts.isNone) = true := by kernel_rfl
theorem totalNil_j24 : (Tryz.pinned.checked.prog.stopsHeard) = true := by kernel_rfl
theorem totalNil_j25 : (Tryz.pinned.checked.prog.mayEnter) = true := by kernel_rfl
theorem totalNil_j26 : ((Rows.totalNilRow.lifted == Tryz.pinned.checked.prog.liftsFinal)) = true := by kernel_rfl
theorem totalNil_j27 : ((Tryz.pinned.checked.prog.make == some Rows.totalNilRow.make)) = true := by kernel_rfl
theorem totalNil_j28 : ((Rows.totalNilRow.kinds == (if Rows.totalNilRow.domain.isEmpty then [] else Tryz.f3.params.toList.map fun t => match Tryz.pinned.checked.prog.underlying t with | some (.int k) => some k | _ => none))) = true := by kernel_rfl
theorem totalNil_j29 : ((Rows.totalNilRow.pinned == Rows.totalNilRow.pinnedBy)) = true := by kernel_rfl
theorem totalNil_j30 : ((Rows.totalNilRow.veiled == (Tryz.f3.params.toList ++ Rows.totalNilSpec.plain.varTypes Tryz.pinned.checked.prog ++ Tryz.f3.resultTypes.toList).any (Tryz.pinned.checked.prog.veiledRec ·))) = true := by kernel_rfl
theorem totalNil_j31 : (Rows.totalNilRow.veiledFits Tryz.pinned.checked.prog Tryz.f3.params.toList (Tryz.f3.params.toList ++ Rows.totalNilSpec.plain.varTypes Tryz.pinned.checked.prog ++ Tryz.f3.resultTypes.toList)) = true := by kernel_rfl
set_option maxRecDepth 100000 in
theorem totalNil_closed : joinedFacts Tryz.pinned.checked.prog 3 Tryz.f3 Rows.totalNilSpec Rows.totalNilRow = true := (and_t3 (and_t3 (and_t3 (and_t3 (and_t3 (and_t3 (and_t3 (and_t3 (and_t3 (and_t3 (and_t3 (and_t3 (and_t3 (and_t3 (and_t3 (and_t3 (and_t3 (and_t3 (and_t3 (and_t3 (and_t3 (and_t3 (and_t3 (and_t3 (and_t3 (and_t3 (and_t3 (and_t3 (and_t3 (and_t3 (and_t3 totalNil_j0 totalNil_j1) totalNil_j2) totalNil_j3) totalNil_j4) totalNil_j5) totalNil_j6) totalNil_j7) totalNil_j8) totalNil_j9) totalNil_j10) totalNil_j11) totalNil_j12) totalNil_j13) totalNil_j14) totalNil_j15) totalNil_j16) totalNil_j17) totalNil_j18) totalNil_j19) totalNil_j20) totalNil_j21) totalNil_j22) totalNil_j23) totalNil_j24) totalNil_j25) totalNil_j26) totalNil_j27) totalNil_j28) totalNil_j29) totalNil_j30) totalNil_j31)
end Go.Proofs.YtfnfbdccmggfoaaGreatDoor
