/-
  When layouts are the same, and where they differ first, as plain data.
-/
import Derived.Test.YtkmomjginjkhfaaData
set_option linter.unusedSimpArgs false
set_option linter.unusedVariables false
namespace Go.Proofs.Ytkmomjginjkhfaa
open Go.Proofs.Ytkmomjginjkhfaa.Pg

def allEq {α : Type} (d : α) (eq : α → α → Bool) (l r : List α) : Bool := decide (l.length = r.length) && (List.range l.length).all fun i => eq (l.getD i d) (r.getD i d)
section
variable {α : Type} {d : α} {eq : α → α → Bool} {l r : List α}
theorem allEq_len (h : l.length ≠ r.length) : allEq d eq l r = false := by unfold allEq; rw [decide_eq_false h, Bool.false_and]
theorem allEq_bad {i : Nat} (hi : i < l.length) (h : eq (l.getD i d) (r.getD i d) = false) : allEq d eq l r = false := by
  have : ((List.range l.length).all fun i => eq (l.getD i d) (r.getD i d)) = false := by
    rw [List.all_eq_false]
    exact ⟨i, List.mem_range.2 hi, by simpa using h⟩
  unfold allEq; rw [this, Bool.and_false]
theorem allEq_ok (h : l.length = r.length) (ha : ∀ i, i < l.length → eq (l.getD i d) (r.getD i d) = true) : allEq d eq l r = true := by
  unfold allEq
  rw [decide_eq_true h, Bool.true_and, List.all_eq_true]
  exact fun i hi => ha i (List.mem_range.1 hi)
end
def putEq (a b : PutL) : Bool := a.font == b.font && (a.id == b.id && (a.x == b.x && a.y == b.y))
def putsEq (l r : List PutL) : Bool := allEq PutL.d putEq l r
def boxEq (a b : BoxL) : Bool := ((a.fr == b.fr) && (a.to == b.to) && (a.lv == b.lv) && (a.x == b.x) && (a.w == b.w) && (putsEq a.gs b.gs))
def boxesEq (l r : List BoxL) : Bool := allEq BoxL.d boxEq l r
def lineEq (a b : LineL) : Bool := ((a.fr == b.fr) && (a.to == b.to) && (a.base == b.base) && (a.en == b.en) && (a.x == b.x) && (a.w == b.w) && (a.hy == b.hy) && (boxesEq a.bx b.bx))
def linesEq (l r : List LineL) : Bool := allEq LineL.d lineEq l r
def layEq (a b : LayL) : Bool := ((a.base == b.base) && (linesEq a.ls b.ls))
/-- A layout of one line. -/
def oneL (x : LineL) : LayL := ⟨0, [x]⟩
theorem layEq_one (x y : LineL) : layEq (oneL x) (oneL y) = lineEq x y := by
  simp [layEq, oneL, linesEq, allEq, List.range_succ]
def unlike (a b : LayL) : Int × Bool :=
  if a.base ≠ b.base then (0, true) else
    match (List.range (min a.ls.length b.ls.length)).find? (fun i => !lineEq (a.ls.getD i LineL.d) (b.ls.getD i LineL.d)) with
    | some i => ((i : Int), true)
    | none => if a.ls.length ≠ b.ls.length then (((min a.ls.length b.ls.length : Nat) : Int), true) else (0, false)
theorem range_getD (n k : Nat) (h : k < n) : (List.range n).getD k 0 = k := by simp [List.getD, h]
theorem unlike_base {a b : LayL} (h : a.base ≠ b.base) : unlike a b = (0, true) := if_pos h
theorem unlike_at {a b : LayL} (hb : a.base = b.base) {k : Nat} (hk : k < min a.ls.length b.ls.length) (hp : ∀ j, j < k → lineEq (a.ls.getD j LineL.d) (b.ls.getD j LineL.d) = true) (h : lineEq (a.ls.getD k LineL.d) (b.ls.getD k LineL.d) = false) : unlike a b = ((k : Int), true) := by
  unfold unlike
  rw [if_neg (by simpa using hb), find_at (d := 0) (k := k) (by simpa using hk) (fun j hj => by rw [range_getD _ _ (by omega), hp j hj]; rfl) (by rw [range_getD _ _ hk, h]; rfl), range_getD _ _ hk]
theorem unlike_end {a b : LayL} (hb : a.base = b.base) (hp : ∀ j, j < min a.ls.length b.ls.length → lineEq (a.ls.getD j LineL.d) (b.ls.getD j LineL.d) = true) : unlike a b = if a.ls.length ≠ b.ls.length then (((min a.ls.length b.ls.length : Nat) : Int), true) else (0, false) := by
  unfold unlike
  rw [if_neg (by simpa using hb), find_none (d := 0) (fun j hj => by rw [List.length_range] at hj; rw [range_getD _ _ hj, hp j hj]; rfl)]
def eUn (p : Int × Bool) : V := .tup 2 (cl [eI p.1, eB p.2])

def farN (n : Int) : Bool := decide (n < -1099511627776) || decide (n > 1099511627776)
def farLine (x : LineL) : Bool := farN x.x || farN x.w
def nearF (l : LayL) : Bool := near l && l.ls.all fun x => !farLine x
structure SpoilL where
  what : Int
  line : Int
  box : Int
  by' : Int
def cSpoil (s : SpoilL) : Nat → V := cl [eI s.what, eI s.line, eI s.box, eI s.by']
def eSpoil (s : SpoilL) : V := .agg 4 (cSpoil s)
def smallS (s : SpoilL) : Bool := decide (s.by' > -1073741824) && decide (s.by' < 1073741824)

end Go.Proofs.Ytkmomjginjkhfaa
