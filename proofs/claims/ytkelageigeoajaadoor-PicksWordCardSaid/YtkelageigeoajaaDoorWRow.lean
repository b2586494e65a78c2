/-
  The walks on words, the package's: a row of clusters' kinds.
-/
import Derived.Test.YtkelageigeoajaaDoorWBn
import Derived.Test.YtkelageigeoajaaDoorWKind
set_option linter.unusedSimpArgs false
set_option linter.unusedVariables false
namespace Go.Proofs.YtkelageigeoajaaDoor
open Go.Proofs.YtkelageigeoajaaDoor.Pg

def eKs (k : List Int) : V := .sl 1 k.length fun i => cl [eI (k.getD i 0)]
def eRow (b : List Nat) (k : List Int) : V := .agg 2 (cl [eCuts b, eKs k])

set_option maxHeartbeats 2000000 in
theorem at_con (G : Nat → V) (b : List Nat) (k : List Int) (j : Int) : Con Tryd.prog G 20 [eRow b k, eI j] (eI (kAt k j)) := by
  refine Con.of_body Tryd.func20 rfl (by kernel_rfl) (by rw [Tryd.ntmps20]; simp) ?_
  rw [Tryd.ntmps20, Tryd.results20]
  by_cases h1 : j < 0
  · have d1 : decide (j < 0) = true := decide_eq_true h1
    rw [show kAt k j = -1 by unfold kAt; rw [if_pos (.inl h1)]]
    repeat' (first | apply aw_seq | apply aw_block | apply aw_skip | apply aw_blk | (refine aw_exit (by rfl) ?_) | (refine aq_region ?_; generalize hK : KA _ _ _ = K; simp only [pqs.down, tabs.down, ↓reduceIte, Nat.reduceEqDiff, Nat.reduceLT, Nat.reduceLeDiff, Nat.reduceAdd, Nat.reduceSub, eI, eB, eR, eRow, eKs, eCuts, d1]) | (refine aq_drawA (by kernel_rfl) (by decide +kernel) ?_; generalize hK : KA _ _ _ = K; simp only [pqs.down, tabs.down, ↓reduceIte, Nat.reduceEqDiff, Nat.reduceLT, Nat.reduceLeDiff, Nat.reduceAdd, Nat.reduceSub, eI, eB, eR, eRow, eKs, eCuts, d1]) | (refine guardT (fun hg => ?_) (fun hg => ?_) <;> simp only [pqs.down, tabs.down, ↓reduceIte, Nat.reduceEqDiff, Nat.reduceLT, Nat.reduceLeDiff, Nat.reduceAdd, Nat.reduceSub, eI, eB, eR, hg, eRow, eKs, eCuts, d1]) | (refine guardF (fun hg => ?_) (fun hg => ?_) <;> simp only [pqs.down, tabs.down, ↓reduceIte, Nat.reduceEqDiff, Nat.reduceLT, Nat.reduceLeDiff, Nat.reduceAdd, Nat.reduceSub, eI, eB, eR, hg, eRow, eKs, eCuts, d1]) | (with_reducible refine And.intro ?_ ?_; · first | omega | rfl) | (subst hK; refine of_KA ?_) | (refine aw_cond (by simp only [pqs.down, tabs.down, ↓reduceIte, Nat.reduceEqDiff, Nat.reduceLT, Nat.reduceLeDiff, Nat.reduceAdd, Nat.reduceSub, eI, eB, eR, eRow, eKs, eCuts, d1]; exact rfl) (fun hc => ?_) (fun hc => ?_) <;> (try (first | (cases hc; done) | (exact absurd hc (by decide))))) | (refine aw_ret ?_))
    all_goals
      simp only [pqs.down, tabs.down, ↓reduceIte, Nat.reduceEqDiff, Nat.reduceLT, Nat.reduceLeDiff, Nat.reduceAdd, Nat.reduceSub, eI, eB, eR]
      exact VLe.refl _
  · have d1 : decide (j < 0) = false := decide_eq_false h1
    by_cases h2 : j ≥ k.length
    · have d2 : decide (j ≥ k.length) = true := decide_eq_true h2
      rw [show kAt k j = -1 by unfold kAt; rw [if_pos (.inr h2)]]
      repeat' (first | apply aw_seq | apply aw_block | apply aw_skip | apply aw_blk | (refine aw_exit (by rfl) ?_) | (refine aq_region ?_; generalize hK : KA _ _ _ = K; simp only [pqs.down, tabs.down, ↓reduceIte, Nat.reduceEqDiff, Nat.reduceLT, Nat.reduceLeDiff, Nat.reduceAdd, Nat.reduceSub, eI, eB, eR, eRow, eKs, eCuts, d1, d2]) | (refine aq_drawA (by kernel_rfl) (by decide +kernel) ?_; generalize hK : KA _ _ _ = K; simp only [pqs.down, tabs.down, ↓reduceIte, Nat.reduceEqDiff, Nat.reduceLT, Nat.reduceLeDiff, Nat.reduceAdd, Nat.reduceSub, eI, eB, eR, eRow, eKs, eCuts, d1, d2]) | (refine guardT (fun hg => ?_) (fun hg => ?_) <;> simp only [pqs.down, tabs.down, ↓reduceIte, Nat.reduceEqDiff, Nat.reduceLT, Nat.reduceLeDiff, Nat.reduceAdd, Nat.reduceSub, eI, eB, eR, hg, eRow, eKs, eCuts, d1, d2]) | (refine guardF (fun hg => ?_) (fun hg => ?_) <;> simp only [pqs.down, tabs.down, ↓reduceIte, Nat.reduceEqDiff, Nat.reduceLT, Nat.reduceLeDiff, Nat.reduceAdd, Nat.reduceSub, eI, eB, eR, hg, eRow, eKs, eCuts, d1, d2]) | (with_reducible refine And.intro ?_ ?_; · first | omega | rfl) | (subst hK; refine of_KA ?_) | (refine aw_cond (by simp only [pqs.down, tabs.down, ↓reduceIte, Nat.reduceEqDiff, Nat.reduceLT, Nat.reduceLeDiff, Nat.reduceAdd, Nat.reduceSub, eI, eB, eR, eRow, eKs, eCuts, d1, d2]; exact rfl) (fun hc => ?_) (fun hc => ?_) <;> (try (first | (cases hc; done) | (exact absurd hc (by decide))))) | (refine aw_ret ?_))
      all_goals
        simp only [pqs.down, tabs.down, ↓reduceIte, Nat.reduceEqDiff, Nat.reduceLT, Nat.reduceLeDiff, Nat.reduceAdd, Nat.reduceSub, eI, eB, eR]
        exact VLe.refl _
    · have d2 : decide (j ≥ k.length) = false := decide_eq_false h2
      rw [show kAt k j = k.getD j.toNat 0 by unfold kAt; rw [if_neg (by omega)]]
      repeat' (first | apply aw_seq | apply aw_block | apply aw_skip | apply aw_blk | (refine aw_exit (by rfl) ?_) | (refine aq_region ?_; generalize hK : KA _ _ _ = K; simp only [pqs.down, tabs.down, ↓reduceIte, Nat.reduceEqDiff, Nat.reduceLT, Nat.reduceLeDiff, Nat.reduceAdd, Nat.reduceSub, eI, eB, eR, eRow, eKs, eCuts, d1, d2]) | (refine aq_drawA (by kernel_rfl) (by decide +kernel) ?_; generalize hK : KA _ _ _ = K; simp only [pqs.down, tabs.down, ↓reduceIte, Nat.reduceEqDiff, Nat.reduceLT, Nat.reduceLeDiff, Nat.reduceAdd, Nat.reduceSub, eI, eB, eR, eRow, eKs, eCuts, d1, d2]) | (refine guardT (fun hg => ?_) (fun hg => ?_) <;> simp only [pqs.down, tabs.down, ↓reduceIte, Nat.reduceEqDiff, Nat.reduceLT, Nat.reduceLeDiff, Nat.reduceAdd, Nat.reduceSub, eI, eB, eR, hg, eRow, eKs, eCuts, d1, d2]) | (refine guardF (fun hg => ?_) (fun hg => ?_) <;> simp only [pqs.down, tabs.down, ↓reduceIte, Nat.reduceEqDiff, Nat.reduceLT, Nat.reduceLeDiff, Nat.reduceAdd, Nat.reduceSub, eI, eB, eR, hg, eRow, eKs, eCuts, d1, d2]) | (with_reducible refine And.intro ?_ ?_; · first | omega | rfl) | (subst hK; refine of_KA ?_) | (refine aw_cond (by simp only [pqs.down, tabs.down, ↓reduceIte, Nat.reduceEqDiff, Nat.reduceLT, Nat.reduceLeDiff, Nat.reduceAdd, Nat.reduceSub, eI, eB, eR, eRow, eKs, eCuts, d1, d2]; exact rfl) (fun hc => ?_) (fun hc => ?_) <;> (try (first | (cases hc; done) | (exact absurd hc (by decide))))) | (refine aw_ret ?_))
      all_goals
        simp only [pqs.down, tabs.down, ↓reduceIte, Nat.reduceEqDiff, Nat.reduceLT, Nat.reduceLeDiff, Nat.reduceAdd, Nat.reduceSub, eI, eB, eR]
        exact VLe.refl _

set_option maxHeartbeats 4000000 in
theorem bridge_con (G : Nat → V) (b : List Nat) (k : List Int) (i : Int) (two mid : Int) (hi : 0 ≤ i ∧ i ≤ 100) : Con Tryd.prog G 22 [eRow b k, eI i, eI two, eI mid] (eB (bridgeP k i two mid)) := by
  refine Con.of_body Tryd.func22 rfl (by kernel_rfl) (by rw [Tryd.ntmps22]; simp) ?_
  rw [Tryd.ntmps22, Tryd.results22]
  have e1 : IntKind.i64.wrap (i + 1) = i + 1 := wrap64_id (by omega) (by omega)
  have e2 : IntKind.i64.wrap (i + 2) = i + 2 := wrap64_id (by omega) (by omega)
  have e3 : IntKind.i64.wrap (i - 1) = i - 1 := wrap64_id (by omega) (by omega)
  have c1 := at_con G b k i
  have c2 := at_con G b k (i + 1)
  have c3 := at_con G b k (i + 2)
  have c4 := at_con G b k (i - 1)
  have hh : bridgeP k i two mid = ((kAt k i == two && kAt k (i + 1) == mid && kAt k (i + 2) == two) || (kAt k (i - 1) == two && kAt k i == mid && kAt k (i + 1) == two)) := rfl
  rw [hh]
  generalize kAt k i = x1 at c1 ⊢
  generalize kAt k (i + 1) = x2 at c2 ⊢
  generalize kAt k (i + 2) = x3 at c3 ⊢
  generalize kAt k (i - 1) = x4 at c4 ⊢
  repeat' (first | apply aw_seq | apply aw_block | apply aw_skip | apply aw_blk | (refine aw_exit (by rfl) ?_) | (refine aq_region ?_; generalize hK : KA _ _ _ = K; simp only [pqs.down, tabs.down, ↓reduceIte, Nat.reduceEqDiff, Nat.reduceLT, Nat.reduceLeDiff, Nat.reduceAdd, Nat.reduceSub, eI, eB, eR, eRow, eKs, eCuts, e1, e2, e3]) | (refine aq_drawA (by kernel_rfl) (by decide +kernel) ?_; generalize hK : KA _ _ _ = K; simp only [pqs.down, tabs.down, ↓reduceIte, Nat.reduceEqDiff, Nat.reduceLT, Nat.reduceLeDiff, Nat.reduceAdd, Nat.reduceSub, eI, eB, eR, eRow, eKs, eCuts, e1, e2, e3]) | (refine guardT (fun hg => ?_) (fun hg => ?_) <;> simp only [pqs.down, tabs.down, ↓reduceIte, Nat.reduceEqDiff, Nat.reduceLT, Nat.reduceLeDiff, Nat.reduceAdd, Nat.reduceSub, eI, eB, eR, hg, eRow, eKs, eCuts, e1, e2, e3]) | (refine guardF (fun hg => ?_) (fun hg => ?_) <;> simp only [pqs.down, tabs.down, ↓reduceIte, Nat.reduceEqDiff, Nat.reduceLT, Nat.reduceLeDiff, Nat.reduceAdd, Nat.reduceSub, eI, eB, eR, hg, eRow, eKs, eCuts, e1, e2, e3]) | (refine call_imm (c1) (by rfl) ?_; simp only [pqs.down, tabs.down, ↓reduceIte, Nat.reduceEqDiff, Nat.reduceLT, Nat.reduceLeDiff, Nat.reduceAdd, Nat.reduceSub, eI, eB, eR, eRow, eKs, eCuts, e1, e2, e3]) | (refine call_imm (c2) (by rfl) ?_; simp only [pqs.down, tabs.down, ↓reduceIte, Nat.reduceEqDiff, Nat.reduceLT, Nat.reduceLeDiff, Nat.reduceAdd, Nat.reduceSub, eI, eB, eR, eRow, eKs, eCuts, e1, e2, e3]) | (refine call_imm (c3) (by rfl) ?_; simp only [pqs.down, tabs.down, ↓reduceIte, Nat.reduceEqDiff, Nat.reduceLT, Nat.reduceLeDiff, Nat.reduceAdd, Nat.reduceSub, eI, eB, eR, eRow, eKs, eCuts, e1, e2, e3]) | (refine call_imm (c4) (by rfl) ?_; simp only [pqs.down, tabs.down, ↓reduceIte, Nat.reduceEqDiff, Nat.reduceLT, Nat.reduceLeDiff, Nat.reduceAdd, Nat.reduceSub, eI, eB, eR, eRow, eKs, eCuts, e1, e2, e3]) | (with_reducible refine And.intro ?_ ?_; · first | omega | rfl) | (subst hK; refine of_KA ?_) | (refine aw_cond (by simp only [pqs.down, tabs.down, ↓reduceIte, Nat.reduceEqDiff, Nat.reduceLT, Nat.reduceLeDiff, Nat.reduceAdd, Nat.reduceSub, eI, eB, eR, eRow, eKs, eCuts, e1, e2, e3]; exact rfl) (fun hc => ?_) (fun hc => ?_) <;> (try (first | (cases hc; done) | (exact absurd hc (by decide))))) | (refine aw_ret ?_))
  all_goals
    simp only [pqs.down, tabs.down, ↓reduceIte, Nat.reduceEqDiff, Nat.reduceLT, Nat.reduceLeDiff, Nat.reduceAdd, Nat.reduceSub, eI, eB, eR]
    refine vle_bool ?_
    simp_all

end Go.Proofs.YtkelageigeoajaaDoor
