/-
  The walks on words, the reference's: whether two clusters hang together.
-/
import Derived.Test.YtkelageigeoajaaDoorWBn
set_option linter.unusedSimpArgs false
set_option linter.unusedVariables false
namespace Go.Proofs.YtkelageigeoajaaDoor
open Go.Proofs.YtkelageigeoajaaDoor.Pg

def eKr (k : List Int) : V := .sl 1 k.length fun i => cl [eI (k.getD i 0)]

set_option maxHeartbeats 4000000 in
set_option maxRecDepth 8000 in
theorem held_con (G : Nat → V) (k : List Int) (i : Nat) (own mid : Int) (h1 : 1 ≤ i) (hi : i < k.length) (hl : k.length ≤ 100) : Con Tryd.prog G 27 [eKr k, eI i, eI own, eI mid] (eB (heldR k i own mid)) := by
  refine Con.of_body Tryd.func27 rfl (by kernel_rfl) (by rw [Tryd.ntmps27]; simp) ?_
  rw [Tryd.ntmps27, Tryd.results27]
  have e1 := pred_nat (i := i) h1 (by omega)
  have e2 := succ_nat (i := i) (by omega)
  by_cases hx : i + 1 < k.length
  · have d1 : decide (((i + 1 : Nat) : Int) < k.length) = true := decide_eq_true (by omega)
    by_cases hy : i ≥ 2
    · have d2 : decide ((i : Int) ≥ 2) = true := decide_eq_true (by omega)
      have e3 : IntKind.i64.wrap ((i : Int) - 2) = ((i - 2 : Nat) : Int) := by rw [wrap64_id (by omega) (by omega)]; omega
      repeat' (first | apply aw_seq | apply aw_block | apply aw_skip | apply aw_blk | (refine aw_exit (by rfl) ?_) | (refine aq_region ?_; generalize hK : KA _ _ _ = K; simp only [pqs.down, tabs.down, ↓reduceIte, Nat.reduceEqDiff, Nat.reduceLT, Nat.reduceLeDiff, Nat.reduceAdd, Nat.reduceSub, eI, eB, eR, eKr, e1, e2, e3, d1, d2]) | (refine aq_drawA (by kernel_rfl) (by decide +kernel) ?_; generalize hK : KA _ _ _ = K; simp only [pqs.down, tabs.down, ↓reduceIte, Nat.reduceEqDiff, Nat.reduceLT, Nat.reduceLeDiff, Nat.reduceAdd, Nat.reduceSub, eI, eB, eR, eKr, e1, e2, e3, d1, d2]) | (refine guardT (fun hg => ?_) (fun hg => ?_) <;> simp only [pqs.down, tabs.down, ↓reduceIte, Nat.reduceEqDiff, Nat.reduceLT, Nat.reduceLeDiff, Nat.reduceAdd, Nat.reduceSub, eI, eB, eR, hg, eKr, e1, e2, e3, d1, d2]) | (refine guardF (fun hg => ?_) (fun hg => ?_) <;> simp only [pqs.down, tabs.down, ↓reduceIte, Nat.reduceEqDiff, Nat.reduceLT, Nat.reduceLeDiff, Nat.reduceAdd, Nat.reduceSub, eI, eB, eR, hg, eKr, e1, e2, e3, d1, d2]) | (with_reducible refine And.intro ?_ ?_; · first | omega | rfl) | (subst hK; refine of_KA ?_) | (refine aw_cond (by simp only [pqs.down, tabs.down, ↓reduceIte, Nat.reduceEqDiff, Nat.reduceLT, Nat.reduceLeDiff, Nat.reduceAdd, Nat.reduceSub, eI, eB, eR, eKr, e1, e2, e3, d1, d2]; exact rfl) (fun hc => ?_) (fun hc => ?_) <;> (try (first | (cases hc; done) | (exact absurd hc (by decide))))) | (refine aw_ret ?_))
      all_goals
        simp only [pqs.down, tabs.down, ↓reduceIte, Nat.reduceEqDiff, Nat.reduceLT, Nat.reduceLeDiff, Nat.reduceAdd, Nat.reduceSub, eI, eB, eR]
        refine vle_bool ?_
        clear e1 e2 e3 d1 d2
        unfold heldR
        rw [show decide (i + 1 < k.length) = true from decide_eq_true hx, show decide (i ≥ 2) = true from decide_eq_true hy]
        clear hx hy hi h1 hl
        generalize k.getD (i - 1) 0 = a at *
        generalize k.getD i 0 = b at *
        generalize k.getD (i + 1) 0 = c at *
        generalize k.getD (i - 2) 0 = d at *
        generalize (a == own) = p1 at *
        generalize (a == mid) = p2 at *
        generalize (b == mid) = p3 at *
        generalize (b == own) = p4 at *
        generalize (c == own) = p5 at *
        generalize (d == own) = p6 at *
        simp_all
    · have d2 : decide ((i : Int) ≥ 2) = false := decide_eq_false (by omega)
      repeat' (first | apply aw_seq | apply aw_block | apply aw_skip | apply aw_blk | (refine aw_exit (by rfl) ?_) | (refine aq_region ?_; generalize hK : KA _ _ _ = K; simp only [pqs.down, tabs.down, ↓reduceIte, Nat.reduceEqDiff, Nat.reduceLT, Nat.reduceLeDiff, Nat.reduceAdd, Nat.reduceSub, eI, eB, eR, eKr, e1, e2, d1, d2]) | (refine aq_drawA (by kernel_rfl) (by decide +kernel) ?_; generalize hK : KA _ _ _ = K; simp only [pqs.down, tabs.down, ↓reduceIte, Nat.reduceEqDiff, Nat.reduceLT, Nat.reduceLeDiff, Nat.reduceAdd, Nat.reduceSub, eI, eB, eR, eKr, e1, e2, d1, d2]) | (refine guardT (fun hg => ?_) (fun hg => ?_) <;> simp only [pqs.down, tabs.down, ↓reduceIte, Nat.reduceEqDiff, Nat.reduceLT, Nat.reduceLeDiff, Nat.reduceAdd, Nat.reduceSub, eI, eB, eR, hg, eKr, e1, e2, d1, d2]) | (refine guardF (fun hg => ?_) (fun hg => ?_) <;> simp only [pqs.down, tabs.down, ↓reduceIte, Nat.reduceEqDiff, Nat.reduceLT, Nat.reduceLeDiff, Nat.reduceAdd, Nat.reduceSub, eI, eB, eR, hg, eKr, e1, e2, d1, d2]) | (with_reducible refine And.intro ?_ ?_; · first | omega | rfl) | (subst hK; refine of_KA ?_) | (refine aw_cond (by simp only [pqs.down, tabs.down, ↓reduceIte, Nat.reduceEqDiff, Nat.reduceLT, Nat.reduceLeDiff, Nat.reduceAdd, Nat.reduceSub, eI, eB, eR, eKr, e1, e2, d1, d2]; exact rfl) (fun hc => ?_) (fun hc => ?_) <;> (try (first | (cases hc; done) | (exact absurd hc (by decide))))) | (refine aw_ret ?_))
      all_goals
        simp only [pqs.down, tabs.down, ↓reduceIte, Nat.reduceEqDiff, Nat.reduceLT, Nat.reduceLeDiff, Nat.reduceAdd, Nat.reduceSub, eI, eB, eR]
        refine vle_bool ?_
        clear e1 e2 d1 d2
        unfold heldR
        rw [show decide (i + 1 < k.length) = true from decide_eq_true hx, show decide (i ≥ 2) = false from decide_eq_false hy]
        clear hx hy hi h1 hl
        generalize k.getD (i - 1) 0 = a at *
        generalize k.getD i 0 = b at *
        generalize k.getD (i + 1) 0 = c at *
        generalize k.getD (i - 2) 0 = d at *
        generalize (a == own) = p1 at *
        generalize (a == mid) = p2 at *
        generalize (b == mid) = p3 at *
        generalize (b == own) = p4 at *
        generalize (c == own) = p5 at *
        generalize (d == own) = p6 at *
        simp_all
  · have d1 : decide (((i + 1 : Nat) : Int) < k.length) = false := decide_eq_false (by omega)
    by_cases hy : i ≥ 2
    · have d2 : decide ((i : Int) ≥ 2) = true := decide_eq_true (by omega)
      have e3 : IntKind.i64.wrap ((i : Int) - 2) = ((i - 2 : Nat) : Int) := by rw [wrap64_id (by omega) (by omega)]; omega
      repeat' (first | apply aw_seq | apply aw_block | apply aw_skip | apply aw_blk | (refine aw_exit (by rfl) ?_) | (refine aq_region ?_; generalize hK : KA _ _ _ = K; simp only [pqs.down, tabs.down, ↓reduceIte, Nat.reduceEqDiff, Nat.reduceLT, Nat.reduceLeDiff, Nat.reduceAdd, Nat.reduceSub, eI, eB, eR, eKr, e1, e2, e3, d1, d2]) | (refine aq_drawA (by kernel_rfl) (by decide +kernel) ?_; generalize hK : KA _ _ _ = K; simp only [pqs.down, tabs.down, ↓reduceIte, Nat.reduceEqDiff, Nat.reduceLT, Nat.reduceLeDiff, Nat.reduceAdd, Nat.reduceSub, eI, eB, eR, eKr, e1, e2, e3, d1, d2]) | (refine guardT (fun hg => ?_) (fun hg => ?_) <;> simp only [pqs.down, tabs.down, ↓reduceIte, Nat.reduceEqDiff, Nat.reduceLT, Nat.reduceLeDiff, Nat.reduceAdd, Nat.reduceSub, eI, eB, eR, hg, eKr, e1, e2, e3, d1, d2]) | (refine guardF (fun hg => ?_) (fun hg => ?_) <;> simp only [pqs.down, tabs.down, ↓reduceIte, Nat.reduceEqDiff, Nat.reduceLT, Nat.reduceLeDiff, Nat.reduceAdd, Nat.reduceSub, eI, eB, eR, hg, eKr, e1, e2, e3, d1, d2]) | (with_reducible refine And.intro ?_ ?_; · first | omega | rfl) | (subst hK; refine of_KA ?_) | (refine aw_cond (by simp only [pqs.down, tabs.down, ↓reduceIte, Nat.reduceEqDiff, Nat.reduceLT, Nat.reduceLeDiff, Nat.reduceAdd, Nat.reduceSub, eI, eB, eR, eKr, e1, e2, e3, d1, d2]; exact rfl) (fun hc => ?_) (fun hc => ?_) <;> (try (first | (cases hc; done) | (exact absurd hc (by decide))))) | (refine aw_ret ?_))
      all_goals
        simp only [pqs.down, tabs.down, ↓reduceIte, Nat.reduceEqDiff, Nat.reduceLT, Nat.reduceLeDiff, Nat.reduceAdd, Nat.reduceSub, eI, eB, eR]
        refine vle_bool ?_
        clear e1 e2 e3 d1 d2
        unfold heldR
        rw [show decide (i + 1 < k.length) = false from decide_eq_false hx, show decide (i ≥ 2) = true from decide_eq_true hy]
        clear hx hy hi h1 hl
        generalize k.getD (i - 1) 0 = a at *
        generalize k.getD i 0 = b at *
        generalize k.getD (i + 1) 0 = c at *
        generalize k.getD (i - 2) 0 = d at *
        generalize (a == own) = p1 at *
        generalize (a == mid) = p2 at *
        generalize (b == mid) = p3 at *
        generalize (b == own) = p4 at *
        generalize (c == own) = p5 at *
        generalize (d == own) = p6 at *
        simp_all
    · have d2 : decide ((i : Int) ≥ 2) = false := decide_eq_false (by omega)
      repeat' (first | apply aw_seq | apply aw_block | apply aw_skip | apply aw_blk | (refine aw_exit (by rfl) ?_) | (refine aq_region ?_; generalize hK : KA _ _ _ = K; simp only [pqs.down, tabs.down, ↓reduceIte, Nat.reduceEqDiff, Nat.reduceLT, Nat.reduceLeDiff, Nat.reduceAdd, Nat.reduceSub, eI, eB, eR, eKr, e1, e2, d1, d2]) | (refine aq_drawA (by kernel_rfl) (by decide +kernel) ?_; generalize hK : KA _ _ _ = K; simp only [pqs.down, tabs.down, ↓reduceIte, Nat.reduceEqDiff, Nat.reduceLT, Nat.reduceLeDiff, Nat.reduceAdd, Nat.reduceSub, eI, eB, eR, eKr, e1, e2, d1, d2]) | (refine guardT (fun hg => ?_) (fun hg => ?_) <;> simp only [pqs.down, tabs.down, ↓reduceIte, Nat.reduceEqDiff, Nat.reduceLT, Nat.reduceLeDiff, Nat.reduceAdd, Nat.reduceSub, eI, eB, eR, hg, eKr, e1, e2, d1, d2]) | (refine guardF (fun hg => ?_) (fun hg => ?_) <;> simp only [pqs.down, tabs.down, ↓reduceIte, Nat.reduceEqDiff, Nat.reduceLT, Nat.reduceLeDiff, Nat.reduceAdd, Nat.reduceSub, eI, eB, eR, hg, eKr, e1, e2, d1, d2]) | (with_reducible refine And.intro ?_ ?_; · first | omega | rfl) | (subst hK; refine of_KA ?_) | (refine aw_cond (by simp only [pqs.down, tabs.down, ↓reduceIte, Nat.reduceEqDiff, Nat.reduceLT, Nat.reduceLeDiff, Nat.reduceAdd, Nat.reduceSub, eI, eB, eR, eKr, e1, e2, d1, d2]; exact rfl) (fun hc => ?_) (fun hc => ?_) <;> (try (first | (cases hc; done) | (exact absurd hc (by decide))))) | (refine aw_ret ?_))
      all_goals
        simp only [pqs.down, tabs.down, ↓reduceIte, Nat.reduceEqDiff, Nat.reduceLT, Nat.reduceLeDiff, Nat.reduceAdd, Nat.reduceSub, eI, eB, eR]
        refine vle_bool ?_
        clear e1 e2 d1 d2
        unfold heldR
        rw [show decide (i + 1 < k.length) = false from decide_eq_false hx, show decide (i ≥ 2) = false from decide_eq_false hy]
        clear hx hy hi h1 hl
        generalize k.getD (i - 1) 0 = a at *
        generalize k.getD i 0 = b at *
        generalize k.getD (i + 1) 0 = c at *
        generalize k.getD (i - 2) 0 = d at *
        generalize (a == own) = p1 at *
        generalize (a == mid) = p2 at *
        generalize (b == mid) = p3 at *
        generalize (b == own) = p4 at *
        generalize (c == own) = p5 at *
        generalize (d == own) = p6 at *
        simp_all

set_option maxHeartbeats 4000000 in
theorem hang_con (G : Nat → V) (k : List Int) (i : Nat) (h1 : 1 ≤ i) (hi : i < k.length) (hl : k.length ≤ 100) : Con Tryd.prog G 17 [eKr k, eI i] (eB (hangW k (i - 1))) := by
  rw [← hangW_ref k i h1 hi]
  refine Con.of_body Tryd.func17 rfl (by kernel_rfl) (by rw [Tryd.ntmps17]; simp) ?_
  rw [Tryd.ntmps17, Tryd.results17]
  have e1 := pred_nat (i := i) h1 (by omega)
  have c1 := held_con G k i 1 3 h1 hi hl
  have c2 := held_con G k i 2 4 h1 hi hl
  have hh : hangWR k i = (plainW (k.getD (i - 1) 0) (k.getD i 0) || heldR k i 1 3 || heldR k i 2 4) := rfl
  rw [hh]
  generalize heldR k i 1 3 = p at c1 ⊢
  generalize heldR k i 2 4 = q at c2 ⊢
  repeat' (first | apply aw_seq | apply aw_block | apply aw_skip | apply aw_blk | (refine aw_exit (by rfl) ?_) | (refine aq_region ?_; generalize hK : KA _ _ _ = K; simp only [pqs.down, tabs.down, ↓reduceIte, Nat.reduceEqDiff, Nat.reduceLT, Nat.reduceLeDiff, Nat.reduceAdd, Nat.reduceSub, eI, eB, eR, eKr, e1]) | (refine aq_drawA (by kernel_rfl) (by decide +kernel) ?_; generalize hK : KA _ _ _ = K; simp only [pqs.down, tabs.down, ↓reduceIte, Nat.reduceEqDiff, Nat.reduceLT, Nat.reduceLeDiff, Nat.reduceAdd, Nat.reduceSub, eI, eB, eR, eKr, e1]) | (refine guardT (fun hg => ?_) (fun hg => ?_) <;> simp only [pqs.down, tabs.down, ↓reduceIte, Nat.reduceEqDiff, Nat.reduceLT, Nat.reduceLeDiff, Nat.reduceAdd, Nat.reduceSub, eI, eB, eR, hg, eKr, e1]) | (refine guardF (fun hg => ?_) (fun hg => ?_) <;> simp only [pqs.down, tabs.down, ↓reduceIte, Nat.reduceEqDiff, Nat.reduceLT, Nat.reduceLeDiff, Nat.reduceAdd, Nat.reduceSub, eI, eB, eR, hg, eKr, e1]) | (refine call_imm (solid_con G (k.getD (i - 1) 0)) (by rfl) ?_; simp only [pqs.down, tabs.down, ↓reduceIte, Nat.reduceEqDiff, Nat.reduceLT, Nat.reduceLeDiff, Nat.reduceAdd, Nat.reduceSub, eI, eB, eR, eKr, e1]) | (refine call_imm (solid_con G (k.getD i 0)) (by rfl) ?_; simp only [pqs.down, tabs.down, ↓reduceIte, Nat.reduceEqDiff, Nat.reduceLT, Nat.reduceLeDiff, Nat.reduceAdd, Nat.reduceSub, eI, eB, eR, eKr, e1]) | (refine call_imm (c1) (by rfl) ?_; simp only [pqs.down, tabs.down, ↓reduceIte, Nat.reduceEqDiff, Nat.reduceLT, Nat.reduceLeDiff, Nat.reduceAdd, Nat.reduceSub, eI, eB, eR, eKr, e1]) | (refine call_imm (c2) (by rfl) ?_; simp only [pqs.down, tabs.down, ↓reduceIte, Nat.reduceEqDiff, Nat.reduceLT, Nat.reduceLeDiff, Nat.reduceAdd, Nat.reduceSub, eI, eB, eR, eKr, e1]) | (with_reducible refine And.intro ?_ ?_; · first | omega | rfl) | (subst hK; refine of_KA ?_) | (refine aw_cond (by simp only [pqs.down, tabs.down, ↓reduceIte, Nat.reduceEqDiff, Nat.reduceLT, Nat.reduceLeDiff, Nat.reduceAdd, Nat.reduceSub, eI, eB, eR, eKr, e1]; exact rfl) (fun hc => ?_) (fun hc => ?_) <;> (try (first | (cases hc; done) | (exact absurd hc (by decide))))) | (refine aw_ret ?_))
  all_goals
    simp only [pqs.down, tabs.down, ↓reduceIte, Nat.reduceEqDiff, Nat.reduceLT, Nat.reduceLeDiff, Nat.reduceAdd, Nat.reduceSub, eI, eB, eR]
    refine vle_bool ?_
    clear e1 c1 c2 hh
    unfold plainW
    generalize k.getD (i - 1) 0 = a at *
    generalize k.getD i 0 = b at *
    simp_all

end Go.Proofs.YtkelageigeoajaaDoor
