/-
  The layouts of the statements, as plain data, and how they stand as abstract values.
-/
import Derived.Test.YtkmomjginjkhfaaPg17
set_option linter.unusedSimpArgs false
set_option linter.unusedVariables false
namespace Go.Proofs.Ytkmomjginjkhfaa
open Go.Proofs.Ytkmomjginjkhfaa.Pg

structure PutL where
  font : Int
  id : Int
  x : Int
  y : Int
structure BoxL where
  fr : Int
  to : Int
  lv : Int
  x : Int
  w : Int
  gs : List PutL
structure LineL where
  fr : Int
  to : Int
  base : Int
  en : Int
  x : Int
  w : Int
  hy : Bool
  bx : List BoxL
structure LayL where
  base : Int
  ls : List LineL
def PutL.d : PutL := ⟨0, 0, 0, 0⟩
def BoxL.d : BoxL := ⟨0, 0, 0, 0, 0, []⟩
def LineL.d : LineL := ⟨0, 0, 0, 0, 0, 0, false, []⟩

def eI (n : Int) : V := .raw (.int .i64 n)
def eB (b : Bool) : V := .raw (.bool b)
def cPut (p : PutL) : Nat → V := cl [eI p.font, eI p.id, eI p.x, eI p.y]
def ePuts (l : List PutL) : V := .sl 4 l.length fun i => cPut (l.getD i PutL.d)
def cBox (b : BoxL) : Nat → V := cl [eI b.fr, eI b.to, eI b.lv, eI b.x, eI b.w, ePuts b.gs]
def eBoxes (l : List BoxL) : V := .sl 6 l.length fun i => cBox (l.getD i BoxL.d)
def cLine (b : LineL) : Nat → V := cl [eI b.fr, eI b.to, eI b.base, eI b.en, eI b.x, eI b.w, eB b.hy, eBoxes b.bx]
def eLines (l : List LineL) : V := .sl 8 l.length fun i => cLine (l.getD i LineL.d)
def cLay (l : LayL) : Nat → V := cl [eI l.base, eLines l.ls]
def eLay (l : LayL) : V := .agg 2 (cLay l)

def nearN (n : Int) : Bool := decide (-1099511627776 ≤ n) && decide (n ≤ 1099511627776)
def nearBox (b : BoxL) : Bool := nearN b.x && nearN b.w
def nearLine (x : LineL) : Bool := decide (x.bx.length ≤ 40) && x.bx.all nearBox
def near (l : LayL) : Bool := decide (l.ls.length ≤ 20) && l.ls.all nearLine

def hits (x : LineL) (i : Int) : Bool := decide (x.fr ≤ i) && decide (i < x.to)
/-- The line that an index lies in, as a pair. -/
def lineCut (l : LayL) (i : Int) : Int × Int :=
  match l.ls.find? (fun x => hits x i) with
  | some x => (x.fr, x.to)
  | none => if l.ls.length > 0 ∧ (l.ls.getD (l.ls.length - 1) LineL.d).to = i then ((l.ls.getD (l.ls.length - 1) LineL.d).fr, i) else (0, 0)
def eCut (p : Int × Int) : V := .agg 2 (cl [eI p.1, eI p.2])

structure StripL where
  line : Int
  x : Int
  tx : Int
def StripL.d : StripL := ⟨0, 0, 0⟩
def cStrip (s : StripL) : Nat → V := cl [eI s.line, eI s.x, eI s.tx]
def eStrips (l : List StripL) : V := .sl 3 l.length fun i => cStrip (l.getD i StripL.d)
/-- The strips' width, as the machine adds it. -/
def wide (l : List StripL) : Int := l.foldl (fun a s => IntKind.i64.wrap (a + IntKind.i64.wrap (s.tx - s.x))) 0
theorem wide_nil : wide [] = 0 := rfl
def hasS (s : StripL) (a b : Int) : Bool := (s.line == a) && decide (s.x ≤ b) && decide (b < s.tx)
def has (l : List StripL) (a b : Int) : Bool := l.any fun s => hasS s a b
theorem any_true {α : Type} {p : α → Bool} {l : List α} {d : α} {i : Nat} (hi : i < l.length) (h : p (l.getD i d) = true) : l.any p = true := by
  rw [List.any_eq_true]
  refine ⟨l.getD i d, ?_, h⟩
  rw [List.getD, List.getElem?_eq_getElem hi]
  exact List.getElem_mem hi
theorem any_false {α : Type} {p : α → Bool} {l : List α} {d : α} (h : ∀ i, i < l.length → p (l.getD i d) = false) : l.any p = false := by
  rw [List.any_eq_false]
  intro x hx
  obtain ⟨i, hi, rfl⟩ := List.getElem_of_mem hx
  have := h i hi
  rw [List.getD, List.getElem?_eq_getElem hi] at this
  simpa using this
theorem take_succ_getD {α : Type} (l : List α) {k : Nat} (d : α) (h : k < l.length) : l.take (k + 1) = l.take k ++ [l.getD k d] := by
  rw [List.take_add_one, List.getD, List.getElem?_eq_getElem h]; rfl
theorem wide_take (l : List StripL) {k : Nat} (h : k < l.length) : wide (l.take (k + 1)) = IntKind.i64.wrap (wide (l.take k) + IntKind.i64.wrap ((l.getD k StripL.d).tx - (l.getD k StripL.d).x)) := by
  rw [take_succ_getD l StripL.d h, wide, List.foldl_append]; rfl

theorem find_at {α : Type} {p : α → Bool} {d : α} : ∀ {l : List α} {k : Nat}, k < l.length → (∀ j, j < k → p (l.getD j d) = false) → p (l.getD k d) = true → l.find? p = some (l.getD k d)
  | [], k, h, _, _ => by simp at h
  | x :: l, 0, _, _, h => by
    have h' : p x = true := h
    rw [List.find?_cons, h']; rfl
  | x :: l, k + 1, hk, hf, h => by
    have h0 : p x = false := hf 0 (by omega)
    rw [List.find?_cons, h0]
    exact find_at (l := l) (k := k) (by simpa using hk) (fun j hj => hf (j + 1) (by omega)) h

theorem find_none {α : Type} {p : α → Bool} {d : α} {l : List α} (hf : ∀ j, j < l.length → p (l.getD j d) = false) : l.find? p = none := by
  rw [List.find?_eq_none]
  intro x hx
  obtain ⟨i, hi, rfl⟩ := List.getElem_of_mem hx
  have := hf i hi
  rw [List.getD, List.getElem?_eq_getElem hi] at this
  simpa using this

theorem all_false {α : Type} {p : α → Bool} {l : List α} {d : α} {i : Nat} (hi : i < l.length) (h : p (l.getD i d) = false) : l.all p = false := by
  rw [List.all_eq_false]
  refine ⟨l.getD i d, ?_, by rw [h]; simp⟩
  rw [List.getD, List.getElem?_eq_getElem hi]
  exact List.getElem_mem hi

theorem all_true {α : Type} {p : α → Bool} {l : List α} {d : α} (h : ∀ i, i < l.length → p (l.getD i d) = true) : l.all p = true := by
  rw [List.all_eq_true]
  intro x hx
  obtain ⟨i, hi, rfl⟩ := List.getElem_of_mem hx
  have := h i hi
  rw [List.getD, List.getElem?_eq_getElem hi] at this
  exact this

end Go.Proofs.Ytkmomjginjkhfaa
