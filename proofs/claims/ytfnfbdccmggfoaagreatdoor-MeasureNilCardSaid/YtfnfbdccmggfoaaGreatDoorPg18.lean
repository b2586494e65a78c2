/-
  Arguments: what the statement's reading tells of a value, as an abstract value over all that is there.
-/
import Derived.Test.YtfnfbdccmggfoaaGreatDoorPg17
import Derived.Deep.Slices
import Derived.Deep.Fields
import Derived.ChangeSame
import Derived.Below
import Derived.Carry
import Derived.SizedLaws
set_option linter.unusedSimpArgs false
set_option linter.unusedVariables false
namespace Go.Proofs.YtfnfbdccmggfoaaGreatDoor.Pg
open Go.RowKit Go.WideShapes Go.ChangeShapes Go.Deep

/-- Cells that read so. -/
def CellsR (M : Imm) (c : Nat → V) (sz : Nat) (cs : List Value) : Prop := cs.length = sz ∧ ∀ j, j < sz → (cs.getD j undef).oneCell' = true ∧ R M (c j) β0 (cs.getD j undef)

/-- A type's readings are plain data: cells that read as 'c a' for some plain a, of which 'good' tells more (how long its slices are). -/
def Reads (α : Type) (P : Program) (t : TypeId) (sz : Nat) (c : α → Nat → V) (good : α → Prop) : Prop :=
  ∀ (H : Type) (enc : TypeId × Value → H) (w : World) (base : Nat) (spare : Nat → Bool) (held : Bool) (fuel : Nat) (cs : List Value) (x : DataW H × List MemPlace),
    DataW.trod enc P w base spare held fuel t cs = some x → (∀ n ∈ DataW.weights P t x.1, n ≤ reachBytes) → ∃ a, good a ∧ CellsR (allOf w) (c a) sz cs

section
variable {P : Program}

theorem Reads.weaken {α : Type} {t : TypeId} {sz : Nat} {c : α → Nat → V} {good good' : α → Prop} (h : Reads α P t sz c good) (hg : ∀ a, good a → good' a) : Reads α P t sz c good' := by
  intro H enc w base spare held fuel cs x hx hz
  obtain ⟨a, h1, h2⟩ := h H enc w base spare held fuel cs x hx hz
  exact ⟨a, hg a h1, h2⟩

theorem reads_int {t : TypeId} {k : IntKind} (ht : P.underlying t = some (.int k)) : Reads Int P t 1 (fun n => cl [.raw (.int k n)]) (fun n => (Lit.int k n).wf = true) := by
  intro H enc w base spare held fuel cs x h _
  obtain ⟨n, rfl, _, hw⟩ := DataW.trod_int ht h
  refine ⟨n, hw, rfl, fun j hj => ?_⟩
  obtain rfl : j = 0 := by omega
  exact ⟨rfl, rfl⟩

theorem reads_bool {t : TypeId} (ht : P.underlying t = some .bool) : Reads Bool P t 1 (fun n => cl [.raw (.bool n)]) (fun _ => True) := by
  intro H enc w base spare held fuel cs x h _
  obtain ⟨n, rfl, _⟩ := DataW.trod_bool ht h
  refine ⟨n, trivial, rfl, fun j hj => ?_⟩
  obtain rfl : j = 0 := by omega
  exact ⟨rfl, rfl⟩

theorem choose_list {α : Type} (d : α) : ∀ (n : Nat) (p : Nat → α → Prop), (∀ i, i < n → ∃ a, p i a) → ∃ l : List α, l.length = n ∧ ∀ i, i < n → p i (l.getD i d)
  | 0, p, _ => ⟨[], rfl, fun i hi => by omega⟩
  | n + 1, p, h => by
    obtain ⟨l, h1, h2⟩ := choose_list d n p (fun i hi => h i (by omega))
    obtain ⟨a, ha⟩ := h n (by omega)
    refine ⟨l ++ [a], by simp [h1], fun i hi => ?_⟩
    by_cases e : i < n
    · have : (l ++ [a]).getD i d = l.getD i d := by simp [List.getD, List.getElem?_append_left (show i < l.length by omega)]
      rw [this]; exact h2 i e
    · obtain rfl : i = n := by omega
      have : (l ++ [a]).getD i d = a := by simp [List.getD, ← h1]
      rw [this]; exact ha

theorem weightsAll_mem {H : Type} {e : TypeId} : ∀ {l : List (DataW H)} {d : DataW H}, d ∈ l → ∀ n ∈ d.weights P e, n ∈ DataW.weightsAll P e l
  | x :: l, d, hd, n, hn => by
    simp only [DataW.weightsAll, List.mem_append]
    rcases List.mem_cons.1 hd with h | h
    · subst h; exact .inl hn
    · exact .inr (weightsAll_mem h n hn)

/-- Of a slice: how long, and what holds of each place. -/
def goodSlice {α : Type} (d : α) (bytes : Nat) (g : α → Prop) (l : List α) : Prop := l.length * bytes ≤ reachBytes ∧ ∀ i, i < l.length → g (l.getD i d)

theorem reads_slice {α : Type} (d : α) {t e : TypeId} {sz bytes : Nat} {c : α → Nat → V} {g : α → Prop} (ht : P.underlying t = some (.slice e)) (hc : P.cellsOf e = sz) (hby : P.bytesOf e = bytes) (he : Reads α P e sz c g) : Reads (List α) P t 1 (fun l => cl [.sl sz l.length fun i => c (l.getD i d)]) (goodSlice d bytes g) := by
  intro H enc w base spare held fuel cs x h hz
  rcases open_slice ht h with ⟨rfl, _⟩ | ⟨a, len, cap, m, n, D, Pl, rfl, hb, hl, hm, hmm, hx, hi⟩
  · refine ⟨[], ⟨by simp, fun i hi => by simp at hi⟩, rfl, fun j hj => ?_⟩
    obtain rfl : j = 0 := by omega
    exact ⟨rfl, none, 0, rfl, Nat.le_refl _, by simp [maxLen], fun h => by simp at h⟩
  · have hlm : len ≤ m := by rw [hmm]; split <;> omega
    have hw : ∀ n ∈ ((len + (m - len)) * P.bytesOf e :: (DataW.weightsAll P e ((List.range len).map D) ++ DataW.weightsAll P e ((List.range (m - len)).map fun j => D (len + j)))), n ≤ reachBytes := by
      intro n hn
      refine hz n ?_
      rw [hx]
      simp only [DataW.weights, ht]
      simpa using hn
    have key : ∀ i, i < len → ∃ x : α, g x ∧ ∀ j, j < sz → ∃ v, allOf w (a.add (i * sz + j)) = some v ∧ R (allOf w) (c x j) β0 v := by
      intro i hil
      obtain ⟨cs', h1, h2⟩ := hi i (by omega)
      obtain ⟨y, hgy, hy1, hy2⟩ := he H enc w base spare held n cs' _ h2 (fun q hq => hw q (List.mem_cons_of_mem _ (List.mem_append_left _ (weightsAll_mem (List.mem_map.2 ⟨i, List.mem_range.2 hil, rfl⟩) q hq))))
      rw [hc] at h1
      obtain ⟨_, k2, k3⟩ := World.cells?_some h1
      refine ⟨y, hgy, fun j hj => ⟨cs'.getD j undef, ?_, (hy2 j hj).2⟩⟩
      refine allOf_of ?_ (hy2 j hj).1
      have := k3 j hj
      rw [add_add'] at this
      rw [this, List.getD, List.getElem?_eq_getElem (by omega)]; rfl
    obtain ⟨l, g1, g2⟩ := choose_list d len _ key
    have hlb : l.length * bytes ≤ reachBytes := by
      have h1 := hw _ (List.mem_cons_self ..)
      rw [hby] at h1
      exact Nat.le_trans (Nat.mul_le_mul_right _ (by omega)) h1
    refine ⟨l, ⟨hlb, fun i hi => (g2 i (by omega)).1⟩, rfl, fun j hj => ?_⟩
    obtain rfl : j = 0 := by omega
    refine ⟨rfl, some a, cap, ?_, by omega, hm, fun _ => ⟨a, rfl, fun i hi' j hj' => ?_⟩⟩
    · rw [g1]; rfl
    · exact (g2 i (by omega)).2 j hj'

/-- A field of one cell. -/
theorem reads_field {α : Type} {t : TypeId} {fs : Array Field} (ht : P.underlying t = some (.struct fs)) {H : Type} {enc : TypeId × Value → H} {w : World} {base : Nat} {spare : Nat → Bool} {held : Bool} {fuel : Nat} {cs : List Value} {x : DataW H × List MemPlace}
    (h : DataW.trod enc P w base spare held fuel t cs = some x) (hz : ∀ n ∈ DataW.weights P t x.1, n ≤ reachBytes) {sz : Nat} (hc : P.cellsOf t = sz) (j : Nat) (hj : j < sz) (i : Nat) (f : Field) (hf : fs[i]? = some f) (ho : f.offset = j) (h1 : P.cellsOf f.type = 1) {c : α → Nat → V} {good : α → Prop} (hr : Reads α P f.type 1 c good) :
    ∃ a, good a ∧ (cs.getD j undef).oneCell' = true ∧ R (allOf w) (c a 0) β0 (cs.getD j undef) := by
  obtain ⟨xs, n, _, hx, hlen, hxl, hat⟩ := DataW.trod_struct ht h
  have hjl : i < fs.size := (Array.getElem?_eq_some_iff.1 hf).1
  have h2 := hat i f hf
  rw [ho, h1, List.getElem?_eq_getElem (by omega)] at h2
  have hcs : j < cs.length := by omega
  have e : (cs.drop j).take 1 = [cs[j]] := by rw [List.drop_eq_getElem_cons hcs]; rfl
  rw [e] at h2
  obtain ⟨a, hg, _, ha⟩ := hr H enc w base spare held n _ _ h2 (fun q hq => by
    refine hz q ?_
    rw [hx]
    simp only [DataW.weights, ht]
    refine DataW.weights_mem_each (j := i) (t := f.type) (d := (xs[i]'(by omega)).1) ?_ ?_ q hq
    · rw [List.getElem?_map, Array.getElem?_toList, hf]; rfl
    · rw [List.getElem?_map, List.getElem?_eq_getElem (by omega)]; rfl)
  have := ha 0 (by omega)
  refine ⟨a, hg, ?_⟩
  have e2 : cs.getD j undef = cs[j] := by rw [List.getD, List.getElem?_eq_getElem hcs]; rfl
  rw [e2]
  exact this

theorem reads_len {t : TypeId} {fs : Array Field} (ht : P.underlying t = some (.struct fs)) {H : Type} {enc : TypeId × Value → H} {w : World} {base : Nat} {spare : Nat → Bool} {held : Bool} {fuel : Nat} {cs : List Value} {x : DataW H × List MemPlace}
    (h : DataW.trod enc P w base spare held fuel t cs = some x) : cs.length = P.cellsOf t := (DataW.trod_struct ht h).choose_spec.choose_spec.2.2.1

/-- An argument that is a struct. -/
theorem arg_struct {α : Type} {t : TypeId} {fs : Array Field} (ht : P.underlying t = some (.struct fs)) {n : Nat} {c : α → Nat → V} {good : α → Prop} (hr : Reads α P t n c good) (hc : P.cellsOf t = n) {H : Type} {enc : TypeId × Value → H} {w : World} {base b0 : Nat} {r : Reach}
    {spare : Nat → Bool} {held : Bool} {v : Value} {d : DataW H} {p : List MemPlace} (hval : Value.okWide P w r b0 t v) (h : DataW.Trod enc P w base spare held t v d p) (hz : ∀ n ∈ DataW.weights P t d, n ≤ reachBytes) : ∃ a, good a ∧ R (allOf w) (.agg n (c a)) β0 v := by
  obtain ⟨cs, rfl, hsz⟩ := okWide_struct ht hval
  obtain ⟨fuel, hf⟩ := h
  obtain ⟨a, hg, h1, h2⟩ := hr H enc w base spare held fuel _ _ hf hz
  refine ⟨a, hg, cs, rfl, by rw [hsz, hc], fun j hj => ?_⟩
  have e : cs.getD j undef = (Value.agg cs).cells.toList.getD j undef := by
    show _ = cs.toList.getD j undef
    simp [List.getD, Array.getD_eq_getD_getElem?]
  rw [e]
  exact h2 j hj
/-- An argument that is a slice. -/
theorem arg_slice {α : Type} {t e : TypeId} (ht : P.underlying t = some (.slice e)) {c : α → V} {good : α → Prop} (hr : Reads α P t 1 (fun l => cl [c l]) good) {H : Type} {enc : TypeId × Value → H} {w : World} {base b0 : Nat} {r : Reach}
    {spare : Nat → Bool} {held : Bool} {v : Value} {d : DataW H} {p : List MemPlace} (hval : Value.okWide P w r b0 t v) (h : DataW.Trod enc P w base spare held t v d p) (hz : ∀ n ∈ DataW.weights P t d, n ≤ reachBytes) : ∃ a, good a ∧ R (allOf w) (c a) β0 v := by
  obtain ⟨A, len, cap, rfl⟩ := okWide_slice ht hval
  obtain ⟨fuel, hf⟩ := h
  obtain ⟨a, hg, h1, h2⟩ := hr H enc w base spare held fuel _ _ hf hz
  exact ⟨a, hg, (h2 0 (by omega)).2⟩
/-- An argument that is an int. -/
theorem arg_int {t : TypeId} {k : IntKind} (ht : P.underlying t = some (.int k)) {H : Type} {enc : TypeId × Value → H} {w : World} {base b0 : Nat} {r : Reach}
    {spare : Nat → Bool} {held : Bool} {v : Value} {d : DataW H} {p : List MemPlace} (hval : Value.okWide P w r b0 t v) (h : DataW.Trod enc P w base spare held t v d p) (hz : ∀ n ∈ DataW.weights P t d, n ≤ reachBytes) : ∃ a, (Lit.int k a).wf = true ∧ R (allOf w) (.raw (.int k a)) β0 v := by
  obtain ⟨n, rfl⟩ := okWide_int ht hval
  obtain ⟨fuel, hf⟩ := h
  obtain ⟨a, hg, _, h2⟩ := reads_int ht H enc w base spare held fuel _ _ hf hz
  have h3 := (h2 0 (by omega)).2
  have : n = a := by
    have h3' : Value.int k n = .int k a := h3
    exact (Value.int.inj h3').2
  subst this
  exact ⟨n, hg, rfl⟩

end
end Go.Proofs.YtfnfbdccmggfoaaGreatDoor.Pg
