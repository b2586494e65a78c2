/-
  The walk of the statement 'MeasureNil'.
-/
import Derived.Test.YtfnfbdccmggfoaaGreatDoorNNew
import Derived.Test.YtfnfbdccmggfoaaGreatDoorNMeth
import Derived.Test.YtfnfbdccmggfoaaGreatDoorNSp
set_option linter.unusedSimpArgs false
set_option linter.unusedVariables false
namespace Go.Proofs.YtfnfbdccmggfoaaGreatDoor
open Go.Proofs.YtfnfbdccmggfoaaGreatDoor.Pg

set_option maxHeartbeats 1000000 in
theorem measureNil_con (G : Nat → V) (a b : Int) : Con Tryz.prog G 4 [eI a, eI b] (eB true) := by
  refine Con.of_body Tryz.func4 rfl (by kernel_rfl) (by rw [Tryz.ntmps4]; simp) ?_
  rw [Tryz.ntmps4, Tryz.results4]
  have z1 : (((0 : Nat) : Int) == 0) = true := rfl
  have z2 : ((0 : Int) == 0) = true := rfl
  have z3 : ((1 : Int) == 0) = false := rfl
  (repeat (first | apply aw_seq | apply aw_block | apply aw_skip | apply aw_blk)); refine aq_region ?_; generalize hK : KA _ _ _ = K; simp only [pqs.down, tabs.down, ↓reduceIte, Nat.reduceEqDiff, Nat.reduceLT, Nat.reduceLeDiff, Nat.reduceAdd, Nat.reduceSub, eI, eB, eN, eZ]; subst hK; unfold KA
  (repeat (first | apply aw_seq | apply aw_block | apply aw_skip | apply aw_blk)); refine aq_region ?_; generalize hK : KA _ _ _ = K; simp only [pqs.down, tabs.down, ↓reduceIte, Nat.reduceEqDiff, Nat.reduceLT, Nat.reduceLeDiff, Nat.reduceAdd, Nat.reduceSub, eI, eB, eN, eZ]; subst hK; unfold KA
  (repeat (first | apply aw_seq | apply aw_block | apply aw_skip | apply aw_blk)); refine aq_region ?_; generalize hK : KA _ _ _ = K; simp only [pqs.down, tabs.down, ↓reduceIte, Nat.reduceEqDiff, Nat.reduceLT, Nat.reduceLeDiff, Nat.reduceAdd, Nat.reduceSub, eI, eB, eN, eZ]
  refine call_imm (args := [zSet, zPar, eN]) (r := .tup 2 (cl [eN, eI 1])) (by exact new_nil G) (by rfl) ?_
  simp only [pqs.down, tabs.down, ↓reduceIte, Nat.reduceEqDiff, Nat.reduceLT, Nat.reduceLeDiff, Nat.reduceAdd, Nat.reduceSub, eI, eB, eN, eZ]
  (repeat (with_reducible refine And.intro (by first | omega | rfl) ?_))
  subst hK; unfold KA
  (repeat (first | apply aw_seq | apply aw_block | apply aw_skip | apply aw_blk)); refine aq_region ?_; generalize hK : KA _ _ _ = K; simp only [pqs.down, tabs.down, ↓reduceIte, Nat.reduceEqDiff, Nat.reduceLT, Nat.reduceLeDiff, Nat.reduceAdd, Nat.reduceSub, eI, eB, eN, eZ, z3]; subst hK; unfold KA
  (repeat (first | apply aw_seq | apply aw_block | apply aw_skip | apply aw_blk)); refine aw_cond (t := false) (by simp only [pqs.down, tabs.down, ↓reduceIte, Nat.reduceEqDiff, Nat.reduceLT, Nat.reduceLeDiff, Nat.reduceAdd, Nat.reduceSub, eI, eB, eN, eZ, z3]; first | done | rfl) (fun h => by cases h) (fun _ => ?_)
  (repeat (first | apply aw_seq | apply aw_block | apply aw_skip | apply aw_blk)); refine aq_region ?_; generalize hK : KA _ _ _ = K; simp only [pqs.down, tabs.down, ↓reduceIte, Nat.reduceEqDiff, Nat.reduceLT, Nat.reduceLeDiff, Nat.reduceAdd, Nat.reduceSub, eI, eB, eN, eZ]
  refine call_imm (pieces_nil G) (by rfl) ?_
  simp only [pqs.down, tabs.down, ↓reduceIte, Nat.reduceEqDiff, Nat.reduceLT, Nat.reduceLeDiff, Nat.reduceAdd, Nat.reduceSub, eI, eB, eN, eZ, z1, z2]
  refine call_imm (runsOf_nil G) (by rfl) ?_
  simp only [pqs.down, tabs.down, ↓reduceIte, Nat.reduceEqDiff, Nat.reduceLT, Nat.reduceLeDiff, Nat.reduceAdd, Nat.reduceSub, eI, eB, eN, eZ, z1, z2]
  refine call_imm (stops_con G) (by rfl) ?_
  simp only [pqs.down, tabs.down, ↓reduceIte, Nat.reduceEqDiff, Nat.reduceLT, Nat.reduceLeDiff, Nat.reduceAdd, Nat.reduceSub, eI, eB, eN, eZ, z1, z2]
  refine call_imm (line_nil G a b) (by rfl) ?_
  simp only [pqs.down, tabs.down, ↓reduceIte, Nat.reduceEqDiff, Nat.reduceLT, Nat.reduceLeDiff, Nat.reduceAdd, Nat.reduceSub, eI, eB, eN, eZ, z1, z2]
  refine call_imm (wide_nil G a b) (by rfl) ?_
  simp only [pqs.down, tabs.down, ↓reduceIte, Nat.reduceEqDiff, Nat.reduceLT, Nat.reduceLeDiff, Nat.reduceAdd, Nat.reduceSub, eI, eB, eN, eZ, z1, z2]
  refine call_imm (spaces_nil G a b) (by rfl) ?_
  simp only [pqs.down, tabs.down, ↓reduceIte, Nat.reduceEqDiff, Nat.reduceLT, Nat.reduceLeDiff, Nat.reduceAdd, Nat.reduceSub, eI, eB, eN, eZ, z1, z2]
  refine call_imm (fits_nil G a b) (by rfl) ?_
  simp only [pqs.down, tabs.down, ↓reduceIte, Nat.reduceEqDiff, Nat.reduceLT, Nat.reduceLeDiff, Nat.reduceAdd, Nat.reduceSub, eI, eB, eN, eZ, z1, z2]
  refine call_imm (hyphen_nil G a) (by rfl) ?_
  simp only [pqs.down, tabs.down, ↓reduceIte, Nat.reduceEqDiff, Nat.reduceLT, Nat.reduceLeDiff, Nat.reduceAdd, Nat.reduceSub, eI, eB, eN, eZ, z1, z2]
  refine call_imm (must_nil G b) (by rfl) ?_
  simp only [pqs.down, tabs.down, ↓reduceIte, Nat.reduceEqDiff, Nat.reduceLT, Nat.reduceLeDiff, Nat.reduceAdd, Nat.reduceSub, eI, eB, eN, eZ, z1, z2]
  refine call_imm (width_nil G) (by rfl) ?_
  simp only [pqs.down, tabs.down, ↓reduceIte, Nat.reduceEqDiff, Nat.reduceLT, Nat.reduceLeDiff, Nat.reduceAdd, Nat.reduceSub, eI, eB, eN, eZ, z1, z2]
  subst hK; unfold KA
  refine aw_ret ?_; (repeat refine out_ret ?_)
  simp only [pqs.down, tabs.down, ↓reduceIte, Nat.reduceEqDiff, Nat.reduceLT, Nat.reduceLeDiff, Nat.reduceAdd, Nat.reduceSub, eI, eB, eN, eZ]
  exact VLe.refl _

end Go.Proofs.YtfnfbdccmggfoaaGreatDoor
