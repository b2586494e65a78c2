/-
  The strips of a layout, as plain data.
-/
import Derived.Test.YtkmomjginjkhfaaData
set_option linter.unusedSimpArgs false
set_option linter.unusedVariables false
namespace Go.Proofs.Ytkmomjginjkhfaa
open Go.Proofs.Ytkmomjginjkhfaa.Pg

/-- Does a stretch pick a box? -/
def sel (b : BoxL) (a c : Int) : Bool := decide (b.fr < c) && decide (b.to > a) && decide (b.fr < b.to)
def ends (b : BoxL) : Int := IntKind.i64.wrap (b.x + b.w)
/-- Is a strip's end where a box begins? -/
def joins (acc : List StripL) (b : BoxL) : Bool := decide ((acc.length : Int) > 0) && ((acc.getD (acc.length - 1) StripL.d).tx == b.x)
def longer (acc : List StripL) (b : BoxL) : List StripL := acc.set (acc.length - 1) ⟨(acc.getD (acc.length - 1) StripL.d).line, (acc.getD (acc.length - 1) StripL.d).x, ends b⟩
def skips (b : BoxL) (a c : Int) : Bool := decide (b.w ≤ 0) || !sel b a c
def stepS (n a c : Int) (acc : List StripL) (b : BoxL) : List StripL := if skips b a c = true then acc else if joins acc b = true then longer acc b else acc ++ [⟨n, b.x, ends b⟩]
def ofS (n a c : Int) (bs : List BoxL) : List StripL := bs.foldl (stepS n a c) []

theorem ofS_succ (n a c : Int) (bs : List BoxL) {k : Nat} (h : k < bs.length) : ofS n a c (bs.take (k + 1)) = stepS n a c (ofS n a c (bs.take k)) (bs.getD k BoxL.d) := by
  rw [take_succ_getD bs BoxL.d h, ofS, List.foldl_append]; rfl
theorem length_stepS (n a c : Int) (acc : List StripL) (b : BoxL) : (stepS n a c acc b).length ≤ acc.length + 1 := by
  unfold stepS longer
  split
  · omega
  · split <;> simp
theorem length_ofS (n a c : Int) (bs : List BoxL) (k : Nat) (h : k ≤ bs.length) : (ofS n a c (bs.take k)).length ≤ k := by
  induction k with
  | zero => simp [ofS]
  | succ k ih =>
    rw [ofS_succ n a c bs (by omega)]
    have := length_stepS n a c (ofS n a c (bs.take k)) (bs.getD k BoxL.d)
    have := ih (by omega)
    omega

theorem getD_set {α : Type} (l : List α) (m : Nat) (s d : α) (h : m < l.length) (i : Nat) : (l.set m s).getD i d = if i = m then s else l.getD i d := by
  simp only [List.getD, List.getElem?_set]
  by_cases e : m = i
  · subst e; simp [h]
  · rw [if_neg e, if_neg (fun h => e h.symm)]
theorem getD_append_one {α : Type} (l : List α) (s d : α) (i : Nat) (h : i < l.length + 1) : (l ++ [s]).getD i d = if i < l.length then l.getD i d else s := by
  simp only [List.getD]
  by_cases e : i < l.length
  · rw [if_pos e, List.getElem?_append_left e]
  · rw [if_neg e]
    obtain rfl : i = l.length := by omega
    simp
theorem getD_append {α : Type} (l r : List α) (d : α) (i : Nat) : (l ++ r).getD i d = if i < l.length then l.getD i d else r.getD (i - l.length) d := by
  simp only [List.getD]
  by_cases e : i < l.length
  · rw [if_pos e, List.getElem?_append_left e]
  · rw [if_neg e, List.getElem?_append_right (by omega)]

/-- The strips of the first k lines. -/
def stripsTo (l : LayL) (a c : Int) : Nat → List StripL
  | 0 => []
  | k + 1 => stripsTo l a c k ++ ofS k a c (l.ls.getD k LineL.d).bx
def strips (l : LayL) (a c : Int) : List StripL := if a ≥ c then [] else stripsTo l a c l.ls.length

theorem length_stripsTo (l : LayL) (a c : Int) (hb : ∀ j, j < l.ls.length → (l.ls.getD j LineL.d).bx.length ≤ 40) (k : Nat) (hk : k ≤ l.ls.length) : (stripsTo l a c k).length ≤ 40 * k := by
  induction k with
  | zero => simp [stripsTo]
  | succ k ih =>
    have h1 := ih (by omega)
    have h2 := length_ofS k a c (l.ls.getD k LineL.d).bx _ (Nat.le_refl _)
    rw [List.take_length] at h2
    have h3 := hb k (by omega)
    simp only [stripsTo, List.length_append]
    omega

/-- What the reference asks ahead of a box. -/
def refSkips (b : BoxL) (a c : Int) : Bool := decide (a ≥ c) || decide (b.fr ≥ c) || decide (b.to ≤ a) || decide (b.fr ≥ b.to) || decide (b.w ≤ 0)
theorem refSkips_of {b : BoxL} {a c : Int} (h : a < c) : refSkips b a c = skips b a c := by
  unfold refSkips skips sel
  rw [Bool.eq_iff_iff]
  simp only [Bool.or_eq_true, decide_eq_true_eq, Bool.not_eq_true', Bool.and_eq_false_iff, decide_eq_false_iff_not]
  omega
theorem refSkips_ge {b : BoxL} {a c : Int} (h : a ≥ c) : refSkips b a c = true := by
  unfold refSkips
  rw [decide_eq_true h]; rfl
/-- The reference's list behind the first i lines and k boxes: all that it has, and what this line adds. -/
def refTo (l : LayL) (a c : Int) (i : Nat) : List StripL := if a ≥ c then [] else stripsTo l a c i
def refOf (l : LayL) (a c : Int) (i k : Nat) : List StripL := if a ≥ c then [] else ofS i a c ((l.ls.getD i LineL.d).bx.take k)
theorem refTo_succ (l : LayL) (a c : Int) (i : Nat) : refTo l a c (i + 1) = refTo l a c i ++ refOf l a c i (l.ls.getD i LineL.d).bx.length := by
  unfold refTo refOf
  split
  · rfl
  · rw [List.take_length]; rfl
theorem refOf_zero (l : LayL) (a c : Int) (i : Nat) : refOf l a c i 0 = [] := by
  unfold refOf
  split <;> rfl
theorem refOf_skip {l : LayL} {a c : Int} {i k : Nat} (hk : k < (l.ls.getD i LineL.d).bx.length) (h : refSkips ((l.ls.getD i LineL.d).bx.getD k BoxL.d) a c = true) : refOf l a c i (k + 1) = refOf l a c i k := by
  unfold refOf
  split
  · rfl
  · rename_i hac
    rw [refSkips_of (by omega)] at h
    rw [ofS_succ _ _ _ _ hk, stepS, if_pos h]
theorem refOf_join {l : LayL} {a c : Int} {i k : Nat} (hk : k < (l.ls.getD i LineL.d).bx.length) (h : refSkips ((l.ls.getD i LineL.d).bx.getD k BoxL.d) a c = false) (hj : joins (refOf l a c i k) ((l.ls.getD i LineL.d).bx.getD k BoxL.d) = true) :
    refOf l a c i (k + 1) = longer (refOf l a c i k) ((l.ls.getD i LineL.d).bx.getD k BoxL.d) := by
  have hac : a < c := by
    rcases Int.lt_or_le a c with h' | h'
    · exact h'
    · rw [refSkips_ge h'] at h; cases h
  have e : ∀ k, refOf l a c i k = ofS i a c ((l.ls.getD i LineL.d).bx.take k) := fun k => by unfold refOf; rw [if_neg (by omega)]
  rw [e] at hj ⊢
  rw [e, ofS_succ _ _ _ _ hk, stepS, if_neg (by rw [← refSkips_of hac, h]; simp), if_pos hj]
theorem refOf_new {l : LayL} {a c : Int} {i k : Nat} (hk : k < (l.ls.getD i LineL.d).bx.length) (h : refSkips ((l.ls.getD i LineL.d).bx.getD k BoxL.d) a c = false) (hj : joins (refOf l a c i k) ((l.ls.getD i LineL.d).bx.getD k BoxL.d) = false) :
    refOf l a c i (k + 1) = refOf l a c i k ++ [⟨i, ((l.ls.getD i LineL.d).bx.getD k BoxL.d).x, ends ((l.ls.getD i LineL.d).bx.getD k BoxL.d)⟩] := by
  have hac : a < c := by
    rcases Int.lt_or_le a c with h' | h'
    · exact h'
    · rw [refSkips_ge h'] at h; cases h
  have e : ∀ k, refOf l a c i k = ofS i a c ((l.ls.getD i LineL.d).bx.take k) := fun k => by unfold refOf; rw [if_neg (by omega)]
  rw [e] at hj ⊢
  rw [e, ofS_succ _ _ _ _ hk, stepS, if_neg (by rw [← refSkips_of hac, h]; simp), if_neg (by rw [hj]; simp)]
theorem length_refOf (l : LayL) (a c : Int) (i k : Nat) (hk : k ≤ (l.ls.getD i LineL.d).bx.length) : (refOf l a c i k).length ≤ k := by
  unfold refOf
  split
  · simp
  · exact length_ofS _ _ _ _ _ hk
theorem length_refTo (l : LayL) (a c : Int) (hb : ∀ j, j < l.ls.length → (l.ls.getD j LineL.d).bx.length ≤ 40) (k : Nat) (hk : k ≤ l.ls.length) : (refTo l a c k).length ≤ 40 * k := by
  unfold refTo
  split
  · simp
  · exact length_stripsTo l a c hb k hk
theorem refTo_all (l : LayL) (a c : Int) : refTo l a c l.ls.length = strips l a c := rfl
theorem near_lines {l : LayL} (h : near l = true) : l.ls.length ≤ 20 ∧ ∀ j, j < l.ls.length → (l.ls.getD j LineL.d).bx.length ≤ 40 := by
  simp only [near, Bool.and_eq_true, decide_eq_true_eq, List.all_eq_true] at h
  refine ⟨h.1, fun j hj => ?_⟩
  have := h.2 (l.ls.getD j LineL.d) (by rw [List.getD, List.getElem?_eq_getElem hj]; exact List.getElem_mem hj)
  simp only [nearLine, Bool.and_eq_true, decide_eq_true_eq] at this
  exact this.1

end Go.Proofs.Ytkmomjginjkhfaa
