/-
  The closed facts of the row of 'MeasureNil', each a theorem of its own, printed by a program (gen_facts.py).
-/
import Derived.Test.YtfnfbdccmggfoaaGreatDoorRows
import Derived.ProofKit
set_option linter.unusedSimpArgs false
set_option linter.unusedVariables false
namespace Go.Proofs.YtfnfbdccmggfoaaGreatDoor
open Go
theorem and_t4 {a b : Bool} (h : a = true) (k : b = true) : (a && b) = true := by rw [h, k]; rfl

theorem measureNil_j0 : (Rows.measureNilRow.wf (OpenSpec.ofChange Rows.measureNilSpec)) = true := by kernel_rfl
theorem measureNil_j1 : (laidOutB Tryz.pinned.checked.prog) = true := by kernel_rfl
theorem measureNil_j2 : (mapsRowed Tryz.pinned.checked.prog) = true := by kernel_rfl
theorem measureNil_j3 : (Tryz.f4.params.all (Tryz.pinned.checked.prog.readableRec ·)) = true := by kernel_rfl
theorem measureNil_j4 : (namedTie Tryz.pinned.checked.prog Rows.measureNilRow.named Rows.measureNilSpec.vars) = true := by kernel_rfl
theorem measureNil_j5 : ((Rows.measureNilRow.stops == [])) = true := by kernel_rfl
theorem measureNil_j6 : ((Tryz.pinned.checked.prog.stops == [])) = true := by kernel_rfl
theorem measureNil_j7 : ((Rows.measureNilRow.knobs == [])) = true := by kernel_rfl
theorem measureNil_j8 : ((Tryz.pinned.checked.prog.stopKnobs == [])) = true := by kernel_rfl
theorem measureNil_j9 : ((Rows.measureNilRow.inPlace == Tryz.pinned.checked.prog.inPlace 4)) = true := by kernel_rfl
theorem measureNil_j10 : ((Rows.measureNilRow.unfollowed == Tryz.pinned.checked.prog.unfollowed 4)) = true := by kernel_rfl
theorem measureNil_j11 : ((Rows.measureNilRow.recurses == Tryz.pinned.checked.prog.recurses 4)) = true := by kernel_rfl
theorem measureNil_j12 : ((Rows.measureNilRow.named == Tryz.pinned.checked.prog.varsNamed 4)) = true := by kernel_rfl
theorem measureNil_j13 : ((Rows.measureNilRow.maps == (Tryz.f4.params.toList ++ Rows.measureNilSpec.plain.varTypes Tryz.pinned.checked.prog).any (Tryz.pinned.checked.prog.mapsRec ·))) = true := by kernel_rfl
theorem measureNil_j14 : ((Rows.measureNilRow.ifaces == (Tryz.f4.params.toList ++ Rows.measureNilSpec.plain.varTypes Tryz.pinned.checked.prog).any (Tryz.pinned.checked.prog.ifacesRec ·))) = true := by kernel_rfl
theorem measureNil_j15 : ((Rows.measureNilRow.mapsOut == Tryz.pinned.checked.prog.mapsAmong Tryz.f4.resultTypes.toList)) = true := by kernel_rfl
theorem measureNil_j16 : ((Rows.measureNilRow.loops == (Tryz.f4.params.toList ++ Rows.measureNilSpec.plain.varTypes Tryz.pinned.checked.prog).any (Tryz.pinned.checked.prog.loopsFrom ·))) = true := by kernel_rfl
theorem measureNil_j17 : ((Rows.measureNilRow.wideKeys == (Tryz.f4.params.toList ++ Rows.measureNilSpec.plain.varTypes Tryz.pinned.checked.prog ++ Tryz.f4.resultTypes.toList).any (Tryz.pinned.checked.prog.wideKeysFrom ·))) = true := by kernel_rfl
theorem measureNil_j18 : (Rows.measureNilSpec.vars.all (Tryz.pinned.checked.prog.varReadable ·)) = true := by kernel_rfl
theorem measureNil_j19 : (Tryz.f4.resultTypes.all (fun t => Tryz.pinned.checked.prog.readableRec t && decide (t < Tryz.pinned.checked.prog.types.size))) = true := by kernel_rfl
theorem measureNil_j20 : ((Rows.measureNilRow.ifacesOut == Tryz.f4.resultTypes.toList.any (Tryz.pinned.checked.prog.ifacesRec ·))) = true := by kernel_rfl
theorem measureNil_j21 : ((Rows.measureNilRow.loopsOut == Tryz.f4.resultTypes.toList.any (Tryz.pinned.checked.prog.loopsFrom ·))) = true := by kernel_rfl
theorem measureNil_j22 : ((Rows.measureNilRow.plainKeys == Tryz.pinned.checked.prog.plainKeys)) = true := by kernel_rfl
theorem measureNil_j23 : (Rows.measureNilRow.shortTexts.isNone) = true := by kernel_rfl
theorem measureNil_j24 : (Tryz.pinned.checked.prog.stopsHeard) = true := by kernel_rfl
theorem measureNil_j25 : (Tryz.pinned.checked.prog.mayEnter) = true := by kernel_rfl
theorem measureNil_j26 : ((Rows.measureNilRow.lifted == Tryz.pinned.checked.prog.liftsFinal)) = true := by kernel_rfl
theorem measureNil_j27 : ((Tryz.pinned.checked.prog.make == some Rows.measureNilRow.make)) = true := by kernel_rfl
theorem measureNil_j28 : ((Rows.measureNilRow.kinds == (if Rows.measureNilRow.domain.isEmpty then [] else Tryz.f4.params.toList.map fun t => match Tryz.pinned.checked.prog.underlying t with | some (.int k) => some k | _ => none))) = true := by kernel_rfl
theorem measureNil_j29 : ((Rows.measureNilRow.pinned == Rows.measureNilRow.pinnedBy)) = true := by kernel_rfl
theorem measureNil_j30 : ((Rows.measureNilRow.veiled == (Tryz.f4.params.toList ++ Rows.measureNilSpec.plain.varTypes Tryz.pinned.checked.prog ++ Tryz.f4.resultTypes.toList).any (Tryz.pinned.checked.prog.veiledRec ·))) = true := by kernel_rfl
theorem measureNil_j31 : (Rows.measureNilRow.veiledFits Tryz.pinned.checked.prog Tryz.f4.params.toList (Tryz.f4.params.toList ++ Rows.measureNilSpec.plain.varTypes Tryz.pinned.checked.prog ++ Tryz.f4.resultTypes.toList)) = true := by kernel_rfl
set_option maxRecDepth 100000 in
theorem measureNil_closed : joinedFacts Tryz.pinned.checked.prog 4 Tryz.f4 Rows.measureNilSpec Rows.measureNilRow = true := (and_t4 (and_t4 (and_t4 (and_t4 (and_t4 (and_t4 (and_t4 (and_t4 (and_t4 (and_t4 (and_t4 (and_t4 (and_t4 (and_t4 (and_t4 (and_t4 (and_t4 (and_t4 (and_t4 (and_t4 (and_t4 (and_t4 (and_t4 (and_t4 (and_t4 (and_t4 (and_t4 (and_t4 (and_t4 (and_t4 (and_t4 measureNil_j0 measureNil_j1) measureNil_j2) measureNil_j3) measureNil_j4) measureNil_j5) measureNil_j6) measureNil_j7) measureNil_j8) measureNil_j9) measureNil_j10) measureNil_j11) measureNil_j12) measureNil_j13) measureNil_j14) measureNil_j15) measureNil_j16) measureNil_j17) measureNil_j18) measureNil_j19) measureNil_j20) measureNil_j21) measureNil_j22) measureNil_j23) measureNil_j24) measureNil_j25) measureNil_j26) measureNil_j27) measureNil_j28) measureNil_j29) measureNil_j30) measureNil_j31)
end Go.Proofs.YtfnfbdccmggfoaaGreatDoor
