/-
  The package's Around: what the walk of it needs.
-/
import Derived.Test.YtkelageigeoajaaDoorWAr
import Derived.Test.YtkelageigeoajaaDoorWBs
set_option linter.unusedSimpArgs false
set_option linter.unusedVariables false
namespace Go.Proofs.YtkelageigeoajaaDoor
open Go.Proofs.YtkelageigeoajaaDoor.Pg

theorem word_at {t : List Int} (h0 : 0 < t.length) {tg : Int} (h : 0 ≤ tg ∧ tg < t.length) : ∃ q, q + 1 < (wrds t).length ∧ ((wrds t).getD q 0 : Int) ≤ tg ∧ tg < ((wrds t).getD (q + 1) 0 : Int) := by
  have key : ∀ n, n < (wrds t).length → tg < ((wrds t).getD n 0 : Int) → ∃ q, q + 1 < (wrds t).length ∧ ((wrds t).getD q 0 : Int) ≤ tg ∧ tg < ((wrds t).getD (q + 1) 0 : Int) := by
    intro n
    induction n with
    | zero =>
      intro _ h1
      rw [wrds_first h0] at h1
      omega
    | succ n ih =>
      intro hn h1
      by_cases h2 : tg < ((wrds t).getD n 0 : Int)
      · exact ih (by omega) h2
      · exact ⟨n, hn, by omega, h1⟩
  have h2 := wrds_two h0
  refine key ((wrds t).length - 1) (by omega) ?_
  rw [wrds_last h0]
  exact h.2
/-- The search's answer in the words' bounds. -/
theorem search_at {t : List Int} {tg : Int} {q : Nat} (hq : q + 1 < (wrds t).length) (h1 : ((wrds t).getD q 0 : Int) ≤ tg) (h2 : tg < ((wrds t).getD (q + 1) 0 : Int)) : ∃ p, p ≤ (wrds t).length ∧ (∀ j, j < p → ((wrds t).getD j 0 : Int) < tg) ∧ (∀ j, p ≤ j → j < (wrds t).length → ¬ ((wrds t).getD j 0 : Int) < tg) ∧ ((p = q ∧ ((wrds t).getD p 0 : Int) = tg) ∨ (p = q + 1 ∧ ((wrds t).getD p 0 : Int) ≠ tg)) := by
  by_cases he : ((wrds t).getD q 0 : Int) = tg
  · refine ⟨q, by omega, fun j hj => ?_, fun j hj hl => ?_, .inl ⟨rfl, he⟩⟩
    · have := wrds_mono t hj (by omega); omega
    · have := wrds_mono_le t hj hl; omega
  · refine ⟨q + 1, by omega, fun j hj => ?_, fun j hj hl => ?_, .inr ⟨rfl, by omega⟩⟩
    · have := wrds_mono_le t (show j ≤ q by omega) (by omega); omega
    · have := wrds_mono_le t hj hl; omega

end Go.Proofs.YtkelageigeoajaaDoor
