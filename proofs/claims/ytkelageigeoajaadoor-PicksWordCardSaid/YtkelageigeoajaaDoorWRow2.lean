/-
  The walks on words, the package's: whether two clusters hang together; the row itself.
-/
import Derived.Test.YtkelageigeoajaaDoorWRow
set_option linter.unusedSimpArgs false
set_option linter.unusedVariables false
namespace Go.Proofs.YtkelageigeoajaaDoor
open Go.Proofs.YtkelageigeoajaaDoor.Pg

set_option maxHeartbeats 4000000 in
theorem hangsW_con (G : Nat → V) (b : List Nat) (k : List Int) (i : Nat) (hi : i ≤ 100) : Con Tryd.prog G 12 [eRow b k, eI i] (eB (hangW k i)) := by
  refine Con.of_body Tryd.func12 rfl (by kernel_rfl) (by rw [Tryd.ntmps12]; simp) ?_
  rw [Tryd.ntmps12, Tryd.results12]
  have e1 : IntKind.i64.wrap ((i : Int) + 1) = (i : Int) + 1 := wrap64_id (by omega) (by omega)
  have c1 := at_con G b k i
  have c2 := at_con G b k ((i : Int) + 1)
  have c3 := bridge_con G b k i 1 3 (by omega)
  have c4 := bridge_con G b k i 2 4 (by omega)
  have hh : hangW k i = (plainW (kAt k i) (kAt k ((i : Int) + 1)) || bridgeP k i 1 3 || bridgeP k i 2 4) := rfl
  rw [hh]
  generalize bridgeP k i 1 3 = p at c3 ⊢
  generalize bridgeP k i 2 4 = q at c4 ⊢
  generalize kAt k i = x at c1 ⊢
  generalize kAt k ((i : Int) + 1) = y at c2 ⊢
  repeat' (first | apply aw_seq | apply aw_block | apply aw_skip | apply aw_blk | (refine aw_exit (by rfl) ?_) | (refine aq_region ?_; generalize hK : KA _ _ _ = K; simp only [pqs.down, tabs.down, ↓reduceIte, Nat.reduceEqDiff, Nat.reduceLT, Nat.reduceLeDiff, Nat.reduceAdd, Nat.reduceSub, eI, eB, eR, eRow, eKs, eCuts, e1]) | (refine aq_drawA (by kernel_rfl) (by decide +kernel) ?_; generalize hK : KA _ _ _ = K; simp only [pqs.down, tabs.down, ↓reduceIte, Nat.reduceEqDiff, Nat.reduceLT, Nat.reduceLeDiff, Nat.reduceAdd, Nat.reduceSub, eI, eB, eR, eRow, eKs, eCuts, e1]) | (refine guardT (fun hg => ?_) (fun hg => ?_) <;> simp only [pqs.down, tabs.down, ↓reduceIte, Nat.reduceEqDiff, Nat.reduceLT, Nat.reduceLeDiff, Nat.reduceAdd, Nat.reduceSub, eI, eB, eR, hg, eRow, eKs, eCuts, e1]) | (refine guardF (fun hg => ?_) (fun hg => ?_) <;> simp only [pqs.down, tabs.down, ↓reduceIte, Nat.reduceEqDiff, Nat.reduceLT, Nat.reduceLeDiff, Nat.reduceAdd, Nat.reduceSub, eI, eB, eR, hg, eRow, eKs, eCuts, e1]) | (refine call_imm (c1) (by rfl) ?_; simp only [pqs.down, tabs.down, ↓reduceIte, Nat.reduceEqDiff, Nat.reduceLT, Nat.reduceLeDiff, Nat.reduceAdd, Nat.reduceSub, eI, eB, eR, eRow, eKs, eCuts, e1]) | (refine call_imm (c2) (by rfl) ?_; simp only [pqs.down, tabs.down, ↓reduceIte, Nat.reduceEqDiff, Nat.reduceLT, Nat.reduceLeDiff, Nat.reduceAdd, Nat.reduceSub, eI, eB, eR, eRow, eKs, eCuts, e1]) | (refine call_imm (letters_con G x) (by rfl) ?_; simp only [pqs.down, tabs.down, ↓reduceIte, Nat.reduceEqDiff, Nat.reduceLT, Nat.reduceLeDiff, Nat.reduceAdd, Nat.reduceSub, eI, eB, eR, eRow, eKs, eCuts, e1]) | (refine call_imm (letters_con G y) (by rfl) ?_; simp only [pqs.down, tabs.down, ↓reduceIte, Nat.reduceEqDiff, Nat.reduceLT, Nat.reduceLeDiff, Nat.reduceAdd, Nat.reduceSub, eI, eB, eR, eRow, eKs, eCuts, e1]) | (refine call_imm (c3) (by rfl) ?_; simp only [pqs.down, tabs.down, ↓reduceIte, Nat.reduceEqDiff, Nat.reduceLT, Nat.reduceLeDiff, Nat.reduceAdd, Nat.reduceSub, eI, eB, eR, eRow, eKs, eCuts, e1]) | (refine call_imm (c4) (by rfl) ?_; simp only [pqs.down, tabs.down, ↓reduceIte, Nat.reduceEqDiff, Nat.reduceLT, Nat.reduceLeDiff, Nat.reduceAdd, Nat.reduceSub, eI, eB, eR, eRow, eKs, eCuts, e1]) | (with_reducible refine And.intro ?_ ?_; · first | omega | rfl) | (subst hK; refine of_KA ?_) | (refine aw_cond (by simp only [pqs.down, tabs.down, ↓reduceIte, Nat.reduceEqDiff, Nat.reduceLT, Nat.reduceLeDiff, Nat.reduceAdd, Nat.reduceSub, eI, eB, eR, eRow, eKs, eCuts, e1]; exact rfl) (fun hc => ?_) (fun hc => ?_) <;> (try (first | (cases hc; done) | (exact absurd hc (by decide))))) | (refine aw_ret ?_))
  all_goals
    simp only [pqs.down, tabs.down, ↓reduceIte, Nat.reduceEqDiff, Nat.reduceLT, Nat.reduceLeDiff, Nat.reduceAdd, Nat.reduceSub, eI, eB, eR]
    refine vle_bool ?_
    clear e1 c1 c2 c3 c4 hh
    unfold plainW
    simp_all

end Go.Proofs.YtkelageigeoajaaDoor
