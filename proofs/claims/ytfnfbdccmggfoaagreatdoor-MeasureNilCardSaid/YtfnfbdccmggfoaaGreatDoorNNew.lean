/-
  The walks of the statement 'MeasureNil', one: a setting that is empty makes no ruler.
-/
import Derived.Test.YtfnfbdccmggfoaaGreatDoorNTot
set_option linter.unusedSimpArgs false
set_option linter.unusedVariables false
namespace Go.Proofs.YtfnfbdccmggfoaaGreatDoor
open Go.Proofs.YtfnfbdccmggfoaaGreatDoor.Pg

def zSet : V := .agg 5 (rawCells [.slice none 0 0, .slice none 0 0, .slice none 0 0, .int .i64 0, .int .i64 0])
def zPar : V := .agg 8 (rawCells [.slice none 0 0, .slice none 0 0, .slice none 0 0, .int .i64 0, .int .i64 0, .int .i64 0, .int .i64 0, .bool false])

set_option maxRecDepth 20000 in
theorem right_nil (G : Nat → V) : Con Tryz.prog G 121 [eZ] (eB true) := by
  refine Con.of_body Tryz.func121 rfl (by kernel_rfl) (by rw [Tryz.ntmps121]; simp) ?_
  rw [Tryz.ntmps121, Tryz.results121]
  have z0 : decide ((0 : Int) < ((0 : Nat) : Int)) = false := rfl
  (repeat (first | apply aw_seq | apply aw_block | apply aw_skip | apply aw_blk)); refine aq_region ?_; generalize hK : KA _ _ _ = K; simp only [pqs.down, tabs.down, ↓reduceIte, Nat.reduceEqDiff, Nat.reduceLT, Nat.reduceLeDiff, Nat.reduceAdd, Nat.reduceSub, eI, eB, eN, eZ]; subst hK; unfold KA
  (repeat (first | apply aw_seq | apply aw_block | apply aw_skip | apply aw_blk)); refine aq_region ?_; generalize hK : KA _ _ _ = K; simp only [pqs.down, tabs.down, ↓reduceIte, Nat.reduceEqDiff, Nat.reduceLT, Nat.reduceLeDiff, Nat.reduceAdd, Nat.reduceSub, eI, eB, eN, eZ]; subst hK; unfold KA
  (repeat (first | apply aw_seq | apply aw_block | apply aw_skip | apply aw_blk))
  refine aw_loop (fun _ : Unit => St.mk' 15 G [(6, eI ((0 : Nat) : Int)), (7, eI 0)] []) (fun _ => True) (fun _ => 0) () trivial ?_ ?_
  · refine Le.to [] rfl rfl (by decide) (by simp only [pqs.down, tabs.down, ↓reduceIte, Nat.reduceEqDiff, Nat.reduceLT, Nat.reduceLeDiff, Nat.reduceAdd, Nat.reduceSub, eI, eB, eN, eZ]; first | done | rfl | ((repeat' apply And.intro) <;> first | rfl | trivial | (simp; done) | (simp; omega))) ?_; (repeat first | exact os_nil | refine os_box (by simp only [pqs.down, tabs.down, ↓reduceIte, Nat.reduceEqDiff, Nat.reduceLT, Nat.reduceLeDiff, Nat.reduceAdd, Nat.reduceSub, eI, eB, eN, eZ]; first | done | rfl) (by first | (exact fun _ _ => rfl) | (intro j hj; (rcases j with _ | _ | _ | _ | _ | _ | _ | _ | _ | _ | _ | j) <;> first | (simp only [pqs.down, tabs.down, ↓reduceIte, Nat.reduceEqDiff, Nat.reduceLT, Nat.reduceLeDiff, Nat.reduceAdd, Nat.reduceSub, eI, eB, eN, eZ]; first | done | rfl) | omega)) (by rfl) ?_ | refine os_boxR (by simp only [pqs.down, tabs.down, ↓reduceIte, Nat.reduceEqDiff, Nat.reduceLT, Nat.reduceLeDiff, Nat.reduceAdd, Nat.reduceSub, eI, eB, eN, eZ]; first | done | rfl) (by intro j hj; (rcases j with _ | _ | _ | _ | _ | _ | _ | _ | _ | _ | _ | j) <;> first | (simp only [pqs.down, tabs.down, ↓reduceIte, Nat.reduceEqDiff, Nat.reduceLT, Nat.reduceLeDiff, Nat.reduceAdd, Nat.reduceSub, eI, eB, eN, eZ]; first | done | rfl) | omega) ?_ | refine os_none ?_ | refine os_vec' (by simp only [pqs.down, tabs.down, ↓reduceIte, Nat.reduceEqDiff, Nat.reduceLT, Nat.reduceLeDiff, Nat.reduceAdd, Nat.reduceSub, eI, eB, eN, eZ]; first | done | rfl) ?_ (fun _ _ _ _ => rfl) | refine os_vec' (by simp only [pqs.down, tabs.down, ↓reduceIte, Nat.reduceEqDiff, Nat.reduceLT, Nat.reduceLeDiff, Nat.reduceAdd, Nat.reduceSub, eI, eB, eN, eZ]; first | done | rfl) ?_ ?_)
  · intro _ _
    (repeat (first | apply aw_seq | apply aw_block | apply aw_skip | apply aw_blk)); refine aq_region ?_; generalize hK : KA _ _ _ = K; simp only [pqs.down, tabs.down, ↓reduceIte, Nat.reduceEqDiff, Nat.reduceLT, Nat.reduceLeDiff, Nat.reduceAdd, Nat.reduceSub, eI, eB, eN, eZ, z0]; subst hK; unfold KA
    (repeat (first | apply aw_seq | apply aw_block | apply aw_skip | apply aw_blk)); refine aw_cond (t := false) (by simp only [pqs.down, tabs.down, ↓reduceIte, Nat.reduceEqDiff, Nat.reduceLT, Nat.reduceLeDiff, Nat.reduceAdd, Nat.reduceSub, eI, eB, eN, eZ, z0]; first | done | rfl) (fun h => by cases h) (fun _ => ?_)
    refine aw_exit_out (by rfl) ?_; (repeat refine out_exit_out (by rfl) ?_); try (refine out_exit (by rfl) ?_)
    (repeat (first | apply aw_seq | apply aw_block | apply aw_skip | apply aw_blk)); refine aq_region ?_; generalize hK : KA _ _ _ = K; simp only [pqs.down, tabs.down, ↓reduceIte, Nat.reduceEqDiff, Nat.reduceLT, Nat.reduceLeDiff, Nat.reduceAdd, Nat.reduceSub, eI, eB, eN, eZ]; subst hK; unfold KA
    refine aw_ret ?_; (repeat refine out_ret ?_)
    simp only [pqs.down, tabs.down, ↓reduceIte, Nat.reduceEqDiff, Nat.reduceLT, Nat.reduceLeDiff, Nat.reduceAdd, Nat.reduceSub, eI, eB, eN, eZ]
    exact VLe.refl _
set_option maxRecDepth 20000 in
theorem setting_nil (G : Nat → V) : Con Tryz.prog G 123 [zSet] (eB false) := by
  refine Con.of_body Tryz.func123 rfl (by kernel_rfl) (by rw [Tryz.ntmps123]; simp) ?_
  rw [Tryz.ntmps123, Tryz.results123]
  have z1 : (((0 : Nat) : Int) == 0) = true := rfl
  (repeat (first | apply aw_seq | apply aw_block | apply aw_skip | apply aw_blk)); refine aq_region ?_; generalize hK : KA _ _ _ = K; simp only [pqs.down, tabs.down, ↓reduceIte, Nat.reduceEqDiff, Nat.reduceLT, Nat.reduceLeDiff, Nat.reduceAdd, Nat.reduceSub, eI, eB, eN, eZ, zSet]; subst hK; unfold KA
  (repeat (first | apply aw_seq | apply aw_block | apply aw_skip | apply aw_blk)); refine aq_region ?_; generalize hK : KA _ _ _ = K; simp only [pqs.down, tabs.down, ↓reduceIte, Nat.reduceEqDiff, Nat.reduceLT, Nat.reduceLeDiff, Nat.reduceAdd, Nat.reduceSub, eI, eB, eN, eZ, z1]; subst hK; unfold KA
  (repeat (with_reducible refine And.intro (by first | omega | rfl) ?_))
  (repeat (first | apply aw_seq | apply aw_block | apply aw_skip | apply aw_blk)); refine aw_cond (t := true) (by simp only [pqs.down, tabs.down, ↓reduceIte, Nat.reduceEqDiff, Nat.reduceLT, Nat.reduceLeDiff, Nat.reduceAdd, Nat.reduceSub, eI, eB, eN, eZ, z1]; first | done | rfl) (fun _ => ?_) (fun h => by cases h)
  (repeat (first | apply aw_seq | apply aw_block | apply aw_skip | apply aw_blk)); refine aq_region ?_; generalize hK : KA _ _ _ = K; simp only [pqs.down, tabs.down, ↓reduceIte, Nat.reduceEqDiff, Nat.reduceLT, Nat.reduceLeDiff, Nat.reduceAdd, Nat.reduceSub, eI, eB, eN, eZ]; subst hK; unfold KA
  refine aw_ret ?_; (repeat refine out_ret ?_)
  simp only [pqs.down, tabs.down, ↓reduceIte, Nat.reduceEqDiff, Nat.reduceLT, Nat.reduceLeDiff, Nat.reduceAdd, Nat.reduceSub, eI, eB, eN, eZ]
  exact VLe.refl _
set_option maxRecDepth 20000 in
theorem check_nil (G : Nat → V) : Con Tryz.prog G 82 [zSet, zPar] (eI 1) := by
  refine Con.of_body Tryz.func82 rfl (by kernel_rfl) (by rw [Tryz.ntmps82]; simp) ?_
  rw [Tryz.ntmps82, Tryz.results82]
  have z0 : decide ((0 : Int) < ((0 : Nat) : Int)) = false := rfl
  (repeat (first | apply aw_seq | apply aw_block | apply aw_skip | apply aw_blk)); refine aq_region ?_; generalize hK : KA _ _ _ = K; simp only [pqs.down, tabs.down, ↓reduceIte, Nat.reduceEqDiff, Nat.reduceLT, Nat.reduceLeDiff, Nat.reduceAdd, Nat.reduceSub, eI, eB, eN, eZ, zSet, zPar]; subst hK; unfold KA
  (repeat (first | apply aw_seq | apply aw_block | apply aw_skip | apply aw_blk)); refine aq_region ?_; generalize hK : KA _ _ _ = K; simp only [pqs.down, tabs.down, ↓reduceIte, Nat.reduceEqDiff, Nat.reduceLT, Nat.reduceLeDiff, Nat.reduceAdd, Nat.reduceSub, eI, eB, eN, eZ]
  (repeat (with_reducible refine And.intro (by first | omega | rfl) ?_))
  refine call_imm (right_nil G) (by rfl) ?_
  simp only [pqs.down, tabs.down, ↓reduceIte, Nat.reduceEqDiff, Nat.reduceLT, Nat.reduceLeDiff, Nat.reduceAdd, Nat.reduceSub, eI, eB, eN, eZ]
  subst hK; unfold KA
  (repeat (first | apply aw_seq | apply aw_block | apply aw_skip | apply aw_blk)); refine aw_cond (t := false) (by simp only [pqs.down, tabs.down, ↓reduceIte, Nat.reduceEqDiff, Nat.reduceLT, Nat.reduceLeDiff, Nat.reduceAdd, Nat.reduceSub, eI, eB, eN, eZ]; first | done | rfl) (fun h => by cases h) (fun _ => ?_)
  (repeat (first | apply aw_seq | apply aw_block | apply aw_skip | apply aw_blk)); refine aq_region ?_; generalize hK : KA _ _ _ = K; simp only [pqs.down, tabs.down, ↓reduceIte, Nat.reduceEqDiff, Nat.reduceLT, Nat.reduceLeDiff, Nat.reduceAdd, Nat.reduceSub, eI, eB, eN, eZ]; subst hK; unfold KA
  (repeat (with_reducible refine And.intro (by first | omega | rfl) ?_))
  (repeat (first | apply aw_seq | apply aw_block | apply aw_skip | apply aw_blk))
  refine aw_loop (fun _ : Unit => St.mk' 62 G [(2, .ptr 0 0 0), (14, eI ((0 : Nat) : Int)), (15, eI 0)] [.box 38 5 (rawCells [.slice none 0 0, .slice none 0 0, .slice none 0 0, .int .i64 0, .int .i64 0])]) (fun _ => True) (fun _ => 0) () trivial ?_ ?_
  · refine Le.to [some 0] rfl rfl (by decide) (by simp only [pqs.down, tabs.down, ↓reduceIte, Nat.reduceEqDiff, Nat.reduceLT, Nat.reduceLeDiff, Nat.reduceAdd, Nat.reduceSub, eI, eB, eN, eZ]; first | done | rfl | ((repeat' apply And.intro) <;> first | rfl | trivial | (simp; done) | (simp; omega))) ?_; (repeat first | exact os_nil | refine os_box (by simp only [pqs.down, tabs.down, ↓reduceIte, Nat.reduceEqDiff, Nat.reduceLT, Nat.reduceLeDiff, Nat.reduceAdd, Nat.reduceSub, eI, eB, eN, eZ]; first | done | rfl) (by first | (exact fun _ _ => rfl) | (intro j hj; (rcases j with _ | _ | _ | _ | _ | _ | _ | _ | _ | _ | _ | j) <;> first | (simp only [pqs.down, tabs.down, ↓reduceIte, Nat.reduceEqDiff, Nat.reduceLT, Nat.reduceLeDiff, Nat.reduceAdd, Nat.reduceSub, eI, eB, eN, eZ]; first | done | rfl) | omega)) (by rfl) ?_ | refine os_boxR (by simp only [pqs.down, tabs.down, ↓reduceIte, Nat.reduceEqDiff, Nat.reduceLT, Nat.reduceLeDiff, Nat.reduceAdd, Nat.reduceSub, eI, eB, eN, eZ]; first | done | rfl) (by intro j hj; (rcases j with _ | _ | _ | _ | _ | _ | _ | _ | _ | _ | _ | j) <;> first | (simp only [pqs.down, tabs.down, ↓reduceIte, Nat.reduceEqDiff, Nat.reduceLT, Nat.reduceLeDiff, Nat.reduceAdd, Nat.reduceSub, eI, eB, eN, eZ]; first | done | rfl) | omega) ?_ | refine os_none ?_ | refine os_vec' (by simp only [pqs.down, tabs.down, ↓reduceIte, Nat.reduceEqDiff, Nat.reduceLT, Nat.reduceLeDiff, Nat.reduceAdd, Nat.reduceSub, eI, eB, eN, eZ]; first | done | rfl) ?_ (fun _ _ _ _ => rfl) | refine os_vec' (by simp only [pqs.down, tabs.down, ↓reduceIte, Nat.reduceEqDiff, Nat.reduceLT, Nat.reduceLeDiff, Nat.reduceAdd, Nat.reduceSub, eI, eB, eN, eZ]; first | done | rfl) ?_ ?_)
  · intro _ _
    (repeat (first | apply aw_seq | apply aw_block | apply aw_skip | apply aw_blk)); refine aq_region ?_; generalize hK : KA _ _ _ = K; simp only [pqs.down, tabs.down, ↓reduceIte, Nat.reduceEqDiff, Nat.reduceLT, Nat.reduceLeDiff, Nat.reduceAdd, Nat.reduceSub, eI, eB, eN, eZ, z0]; subst hK; unfold KA
    (repeat (first | apply aw_seq | apply aw_block | apply aw_skip | apply aw_blk)); refine aw_cond (t := false) (by simp only [pqs.down, tabs.down, ↓reduceIte, Nat.reduceEqDiff, Nat.reduceLT, Nat.reduceLeDiff, Nat.reduceAdd, Nat.reduceSub, eI, eB, eN, eZ, z0]; first | done | rfl) (fun h => by cases h) (fun _ => ?_)
    refine aw_exit_out (by rfl) ?_; (repeat refine out_exit_out (by rfl) ?_); try (refine out_exit (by rfl) ?_)
    (repeat (first | apply aw_seq | apply aw_block | apply aw_skip | apply aw_blk)); refine aq_region ?_; generalize hK : KA _ _ _ = K; simp only [pqs.down, tabs.down, ↓reduceIte, Nat.reduceEqDiff, Nat.reduceLT, Nat.reduceLeDiff, Nat.reduceAdd, Nat.reduceSub, eI, eB, eN, eZ]
    (repeat (with_reducible refine And.intro (by first | omega | rfl) ?_))
    refine call_imm (setting_nil G) (by rfl) ?_
    simp only [pqs.down, tabs.down, ↓reduceIte, Nat.reduceEqDiff, Nat.reduceLT, Nat.reduceLeDiff, Nat.reduceAdd, Nat.reduceSub, eI, eB, eN, eZ]
    subst hK; unfold KA
    (repeat (first | apply aw_seq | apply aw_block | apply aw_skip | apply aw_blk)); refine aw_cond (t := true) (by simp only [pqs.down, tabs.down, ↓reduceIte, Nat.reduceEqDiff, Nat.reduceLT, Nat.reduceLeDiff, Nat.reduceAdd, Nat.reduceSub, eI, eB, eN, eZ]; first | done | rfl) (fun _ => ?_) (fun h => by cases h)
    (repeat (first | apply aw_seq | apply aw_block | apply aw_skip | apply aw_blk)); refine aq_region ?_; generalize hK : KA _ _ _ = K; simp only [pqs.down, tabs.down, ↓reduceIte, Nat.reduceEqDiff, Nat.reduceLT, Nat.reduceLeDiff, Nat.reduceAdd, Nat.reduceSub, eI, eB, eN, eZ]; subst hK; unfold KA
    refine aw_ret ?_; (repeat refine out_ret ?_)
    simp only [pqs.down, tabs.down, ↓reduceIte, Nat.reduceEqDiff, Nat.reduceLT, Nat.reduceLeDiff, Nat.reduceAdd, Nat.reduceSub, eI, eB, eN, eZ]
    exact VLe.refl _
set_option maxRecDepth 20000 in
theorem runs_nil (G : Nat → V) : Con Tryz.prog G 48 [zSet, zPar] (.tup 2 (cl [eZ, eI 1])) := by
  refine Con.of_body Tryz.func48 rfl (by kernel_rfl) (by rw [Tryz.ntmps48]; simp) ?_
  rw [Tryz.ntmps48, Tryz.results48]
  have z1 : ((1 : Int) != 0) = true := rfl
  (repeat (first | apply aw_seq | apply aw_block | apply aw_skip | apply aw_blk)); refine aq_region ?_; generalize hK : KA _ _ _ = K; simp only [pqs.down, tabs.down, ↓reduceIte, Nat.reduceEqDiff, Nat.reduceLT, Nat.reduceLeDiff, Nat.reduceAdd, Nat.reduceSub, eI, eB, eN, eZ, zSet, zPar]; subst hK; unfold KA
  (repeat (first | apply aw_seq | apply aw_block | apply aw_skip | apply aw_blk)); refine aq_region ?_; generalize hK : KA _ _ _ = K; simp only [pqs.down, tabs.down, ↓reduceIte, Nat.reduceEqDiff, Nat.reduceLT, Nat.reduceLeDiff, Nat.reduceAdd, Nat.reduceSub, eI, eB, eN, eZ]
  (repeat (with_reducible refine And.intro (by first | omega | rfl) ?_))
  refine call_imm (check_nil G) (by rfl) ?_
  simp only [pqs.down, tabs.down, ↓reduceIte, Nat.reduceEqDiff, Nat.reduceLT, Nat.reduceLeDiff, Nat.reduceAdd, Nat.reduceSub, eI, eB, eN, eZ]
  subst hK; unfold KA
  (repeat (first | apply aw_seq | apply aw_block | apply aw_skip | apply aw_blk)); refine aq_region ?_; generalize hK : KA _ _ _ = K; simp only [pqs.down, tabs.down, ↓reduceIte, Nat.reduceEqDiff, Nat.reduceLT, Nat.reduceLeDiff, Nat.reduceAdd, Nat.reduceSub, eI, eB, eN, eZ, z1]; subst hK; unfold KA
  (repeat (first | apply aw_seq | apply aw_block | apply aw_skip | apply aw_blk)); refine aw_cond (t := true) (by simp only [pqs.down, tabs.down, ↓reduceIte, Nat.reduceEqDiff, Nat.reduceLT, Nat.reduceLeDiff, Nat.reduceAdd, Nat.reduceSub, eI, eB, eN, eZ, z1]; first | done | rfl) (fun _ => ?_) (fun h => by cases h)
  (repeat (first | apply aw_seq | apply aw_block | apply aw_skip | apply aw_blk)); refine aq_region ?_; generalize hK : KA _ _ _ = K; simp only [pqs.down, tabs.down, ↓reduceIte, Nat.reduceEqDiff, Nat.reduceLT, Nat.reduceLeDiff, Nat.reduceAdd, Nat.reduceSub, eI, eB, eN, eZ]; subst hK; unfold KA
  refine aw_ret ?_; (repeat refine out_ret ?_)
  simp only [pqs.down, tabs.down, ↓reduceIte, Nat.reduceEqDiff, Nat.reduceLT, Nat.reduceLeDiff, Nat.reduceAdd, Nat.reduceSub, eI, eB, eN, eZ]
  exact VLe.tup fun j hj => by (rcases j with _ | _ | j) <;> first | exact VLe.refl _ | omega
set_option maxRecDepth 20000 in
theorem of_nil (G : Nat → V) : Con Tryz.prog G 24 [zSet, zPar, eN] (.tup 3 (cl [eZ, eZ, eI 1])) := by
  refine Con.of_body Tryz.func24 rfl (by kernel_rfl) (by rw [Tryz.ntmps24]; simp) ?_
  rw [Tryz.ntmps24, Tryz.results24]
  have z1 : ((1 : Int) != 0) = true := rfl
  (repeat (first | apply aw_seq | apply aw_block | apply aw_skip | apply aw_blk)); refine aq_region ?_; generalize hK : KA _ _ _ = K; simp only [pqs.down, tabs.down, ↓reduceIte, Nat.reduceEqDiff, Nat.reduceLT, Nat.reduceLeDiff, Nat.reduceAdd, Nat.reduceSub, eI, eB, eN, eZ, zSet, zPar]; subst hK; unfold KA
  (repeat (first | apply aw_seq | apply aw_block | apply aw_skip | apply aw_blk)); refine aq_region ?_; generalize hK : KA _ _ _ = K; simp only [pqs.down, tabs.down, ↓reduceIte, Nat.reduceEqDiff, Nat.reduceLT, Nat.reduceLeDiff, Nat.reduceAdd, Nat.reduceSub, eI, eB, eN, eZ]
  (repeat (with_reducible refine And.intro (by first | omega | rfl) ?_))
  refine call_imm (runs_nil G) (by rfl) ?_
  simp only [pqs.down, tabs.down, ↓reduceIte, Nat.reduceEqDiff, Nat.reduceLT, Nat.reduceLeDiff, Nat.reduceAdd, Nat.reduceSub, eI, eB, eN, eZ]
  (repeat (with_reducible refine And.intro (by first | omega | rfl) ?_))
  subst hK; unfold KA
  (repeat (first | apply aw_seq | apply aw_block | apply aw_skip | apply aw_blk)); refine aq_region ?_; generalize hK : KA _ _ _ = K; simp only [pqs.down, tabs.down, ↓reduceIte, Nat.reduceEqDiff, Nat.reduceLT, Nat.reduceLeDiff, Nat.reduceAdd, Nat.reduceSub, eI, eB, eN, eZ, z1]; subst hK; unfold KA
  (repeat (first | apply aw_seq | apply aw_block | apply aw_skip | apply aw_blk)); refine aw_cond (t := true) (by simp only [pqs.down, tabs.down, ↓reduceIte, Nat.reduceEqDiff, Nat.reduceLT, Nat.reduceLeDiff, Nat.reduceAdd, Nat.reduceSub, eI, eB, eN, eZ, z1]; first | done | rfl) (fun _ => ?_) (fun h => by cases h)
  (repeat (first | apply aw_seq | apply aw_block | apply aw_skip | apply aw_blk)); refine aq_region ?_; generalize hK : KA _ _ _ = K; simp only [pqs.down, tabs.down, ↓reduceIte, Nat.reduceEqDiff, Nat.reduceLT, Nat.reduceLeDiff, Nat.reduceAdd, Nat.reduceSub, eI, eB, eN, eZ]; subst hK; unfold KA
  refine aw_ret ?_; (repeat refine out_ret ?_)
  simp only [pqs.down, tabs.down, ↓reduceIte, Nat.reduceEqDiff, Nat.reduceLT, Nat.reduceLeDiff, Nat.reduceAdd, Nat.reduceSub, eI, eB, eN, eZ]
  exact VLe.tup fun j hj => by (rcases j with _ | _ | _ | j) <;> first | exact VLe.refl _ | omega
set_option maxRecDepth 20000 in
theorem new_nil (G : Nat → V) : Con Tryz.prog G 9 [zSet, zPar, eN] (.tup 2 (cl [eN, eI 1])) := by
  refine Con.of_body Tryz.func9 rfl (by kernel_rfl) (by rw [Tryz.ntmps9]; simp) ?_
  rw [Tryz.ntmps9, Tryz.results9]
  have z1 : ((1 : Int) != 0) = true := rfl
  (repeat (first | apply aw_seq | apply aw_block | apply aw_skip | apply aw_blk)); refine aq_region ?_; generalize hK : KA _ _ _ = K; simp only [pqs.down, tabs.down, ↓reduceIte, Nat.reduceEqDiff, Nat.reduceLT, Nat.reduceLeDiff, Nat.reduceAdd, Nat.reduceSub, eI, eB, eN, eZ, zSet, zPar]; subst hK; unfold KA
  (repeat (first | apply aw_seq | apply aw_block | apply aw_skip | apply aw_blk)); refine aq_region ?_; generalize hK : KA _ _ _ = K; simp only [pqs.down, tabs.down, ↓reduceIte, Nat.reduceEqDiff, Nat.reduceLT, Nat.reduceLeDiff, Nat.reduceAdd, Nat.reduceSub, eI, eB, eN, eZ]
  (repeat (with_reducible refine And.intro (by first | omega | rfl) ?_))
  refine call_imm (of_nil G) (by rfl) ?_
  simp only [pqs.down, tabs.down, ↓reduceIte, Nat.reduceEqDiff, Nat.reduceLT, Nat.reduceLeDiff, Nat.reduceAdd, Nat.reduceSub, eI, eB, eN, eZ]
  (repeat (with_reducible refine And.intro (by first | omega | rfl) ?_))
  subst hK; unfold KA
  (repeat (first | apply aw_seq | apply aw_block | apply aw_skip | apply aw_blk)); refine aq_region ?_; generalize hK : KA _ _ _ = K; simp only [pqs.down, tabs.down, ↓reduceIte, Nat.reduceEqDiff, Nat.reduceLT, Nat.reduceLeDiff, Nat.reduceAdd, Nat.reduceSub, eI, eB, eN, eZ, z1]; subst hK; unfold KA
  (repeat (first | apply aw_seq | apply aw_block | apply aw_skip | apply aw_blk)); refine aw_cond (t := true) (by simp only [pqs.down, tabs.down, ↓reduceIte, Nat.reduceEqDiff, Nat.reduceLT, Nat.reduceLeDiff, Nat.reduceAdd, Nat.reduceSub, eI, eB, eN, eZ, z1]; first | done | rfl) (fun _ => ?_) (fun h => by cases h)
  (repeat (first | apply aw_seq | apply aw_block | apply aw_skip | apply aw_blk)); refine aq_region ?_; generalize hK : KA _ _ _ = K; simp only [pqs.down, tabs.down, ↓reduceIte, Nat.reduceEqDiff, Nat.reduceLT, Nat.reduceLeDiff, Nat.reduceAdd, Nat.reduceSub, eI, eB, eN, eZ]; subst hK; unfold KA
  refine aw_ret ?_; (repeat refine out_ret ?_)
  simp only [pqs.down, tabs.down, ↓reduceIte, Nat.reduceEqDiff, Nat.reduceLT, Nat.reduceLeDiff, Nat.reduceAdd, Nat.reduceSub, eI, eB, eN, eZ]
  exact VLe.tup fun j hj => by (rcases j with _ | _ | j) <;> first | exact VLe.refl _ | omega

end Go.Proofs.YtfnfbdccmggfoaaGreatDoor
