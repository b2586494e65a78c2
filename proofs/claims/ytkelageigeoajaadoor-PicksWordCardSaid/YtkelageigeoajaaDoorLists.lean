/-
  Small laws of lists.
-/
import Derived.KernelRfl
set_option linter.unusedSimpArgs false
set_option linter.unusedVariables false
namespace Go.Proofs.YtkelageigeoajaaDoor

theorem any_true {α : Type} {p : α → Bool} {l : List α} {d : α} {i : Nat} (hi : i < l.length) (h : p (l.getD i d) = true) : l.any p = true := by
  rw [List.any_eq_true]
  refine ⟨l.getD i d, ?_, h⟩
  rw [List.getD, List.getElem?_eq_getElem hi]
  exact List.getElem_mem hi
theorem take_succ_getD {α : Type} (l : List α) {k : Nat} (d : α) (h : k < l.length) : l.take (k + 1) = l.take k ++ [l.getD k d] := by
  rw [List.take_add_one, List.getD, List.getElem?_eq_getElem h]; rfl
theorem find_at {α : Type} {p : α → Bool} {d : α} : ∀ {l : List α} {k : Nat}, k < l.length → (∀ j, j < k → p (l.getD j d) = false) → p (l.getD k d) = true → l.find? p = some (l.getD k d)
  | [], k, h, _, _ => by simp at h
  | x :: l, 0, _, _, h => by
    have h' : p x = true := h
    rw [List.find?_cons, h']; rfl
  | x :: l, k + 1, hk, hf, h => by
    have h0 : p x = false := hf 0 (by omega)
    rw [List.find?_cons, h0]
    exact find_at (l := l) (k := k) (by simpa using hk) (fun j hj => hf (j + 1) (by omega)) h
theorem find_none {α : Type} {p : α → Bool} {d : α} {l : List α} (hf : ∀ j, j < l.length → p (l.getD j d) = false) : l.find? p = none := by
  rw [List.find?_eq_none]
  intro x hx
  obtain ⟨i, hi, rfl⟩ := List.getElem_of_mem hx
  have := hf i hi
  rw [List.getD, List.getElem?_eq_getElem hi] at this
  simpa using this
theorem range_getD (n k : Nat) (h : k < n) : (List.range n).getD k 0 = k := by simp [List.getD, h]
theorem getD_set {α : Type} (l : List α) (m : Nat) (s d : α) (h : m < l.length) (i : Nat) : (l.set m s).getD i d = if i = m then s else l.getD i d := by
  simp only [List.getD, List.getElem?_set]
  by_cases e : m = i
  · subst e; simp [h]
  · rw [if_neg e, if_neg (fun h => e h.symm)]
theorem getD_append_one {α : Type} (l : List α) (s d : α) (i : Nat) (h : i < l.length + 1) : (l ++ [s]).getD i d = if i < l.length then l.getD i d else s := by
  simp only [List.getD]
  by_cases e : i < l.length
  · rw [if_pos e, List.getElem?_append_left e]
  · rw [if_neg e]
    obtain rfl : i = l.length := by omega
    simp
theorem getD_append {α : Type} (l r : List α) (d : α) (i : Nat) : (l ++ r).getD i d = if i < l.length then l.getD i d else r.getD (i - l.length) d := by
  simp only [List.getD]
  by_cases e : i < l.length
  · rw [if_pos e, List.getElem?_append_left e]
  · rw [if_neg e, List.getElem?_append_right (by omega)]

end Go.Proofs.YtkelageigeoajaaDoor
