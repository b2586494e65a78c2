/-
  Clusters and words of a text, as plain data: the package's way and the reference's way are one.
-/
import Derived.Test.YtkelageigeoajaaDoorProps
set_option linter.unusedSimpArgs false
set_option linter.unusedVariables false
namespace Go.Proofs.YtkelageigeoajaaDoor

/-! ### Lists that a filter leaves of a range -/
theorem filt_pair (p : Nat → Bool) (n : Nat) : ((List.range n).filter p).Pairwise (· < ·) := List.Pairwise.filter _ List.pairwise_lt_range
theorem pair_getD {l : List Nat} (h : l.Pairwise (· < ·)) {i j : Nat} (hij : i < j) (hj : j < l.length) : l.getD i 0 < l.getD j 0 := by
  have := List.pairwise_iff_getElem.1 h i j (by omega) hj hij
  simpa [List.getD, List.getElem?_eq_getElem hj, List.getElem?_eq_getElem (show i < l.length by omega)] using this
theorem filt_succ (p : Nat → Bool) (n : Nat) : (List.range (n + 1)).filter p = (List.range n).filter p ++ (if p n = true then [n] else []) := by
  rw [List.range_succ, List.filter_append]
  congr 1
  by_cases h : p n = true <;> simp [h]
theorem filt_first (p : Nat → Bool) (n : Nat) (h : p 0 = true) : ((List.range (n + 1)).filter p).getD 0 0 = 0 := by
  rw [List.range_succ_eq_map, List.filter_cons, if_pos h]; rfl
theorem filt_last (p : Nat → Bool) (n : Nat) (h : p n = true) : ((List.range (n + 1)).filter p).getD (((List.range (n + 1)).filter p).length - 1) 0 = n := by
  rw [filt_succ, if_pos h]
  simp [List.getD]
theorem filt_len (p : Nat → Bool) (n : Nat) : ((List.range n).filter p).length ≤ n := by
  have := List.length_filter_le p (List.range n)
  simpa using this
theorem filt_lt (p : Nat → Bool) (n i : Nat) (h : i < ((List.range n).filter p).length) : ((List.range n).filter p).getD i 0 < n := by
  have hm : ((List.range n).filter p).getD i 0 ∈ (List.range n).filter p := by
    rw [List.getD, List.getElem?_eq_getElem h]
    exact List.getElem_mem h
  exact List.mem_range.1 (List.mem_filter.1 hm).1

/-! ### Clusters -/
def cls (t : List Int) (i : Nat) : Int := (propOf (t.getD i 0)).cl
def wdc (t : List Int) (i : Nat) : Int := (propOf (t.getD i 0)).wd
def hardC (c : Int) : Bool := c == 1 || c == 2 || c == 3
def hangulC (a b : Int) : Bool :=
  if a == 9 then b == 9 || b == 10 || b == 12 || b == 13
  else if a == 12 || a == 10 then b == 10 || b == 11
  else if a == 13 || a == 11 then b == 11
  else false
/-- Is there a picture ahead of a place, with Extends between? -/
def pic (t : List Int) : Nat → Bool
  | 0 => false
  | n + 1 => if cls t n == 4 then pic t n else cls t n == 14
/-- How many Regionals stand right ahead of a place. -/
def regs (t : List Int) : Nat → Nat
  | 0 => 0
  | n + 1 => if cls t n == 6 then regs t n + 1 else 0
def hangP (a b : Int) (p q : Bool) : Bool :=
  if a == 1 && b == 2 then true
  else if hardC a || hardC b then false
  else if hangulC a b || b == 4 || b == 5 || b == 8 || a == 7 then true
  else if b == 14 then a == 5 && p
  else a == 6 && b == 6 && q
def hangR (a b : Int) (p q : Bool) : Bool :=
  if a == 1 && b == 2 || hangulC a b then true
  else if !hardC a && (b == 4 || b == 5 || b == 8) then true
  else if a == 7 && !hardC b then true
  else if a == 5 && b == 14 && p then true
  else a == 6 && b == 6 && q
theorem hang_same {a b : Int} (ha : 0 ≤ a ∧ a ≤ 14) (hb : 0 ≤ b ∧ b ≤ 14) (p q : Bool) : hangR a b p q = hangP a b p q := by
  have h1 : a = 0 ∨ a = 1 ∨ a = 2 ∨ a = 3 ∨ a = 4 ∨ a = 5 ∨ a = 6 ∨ a = 7 ∨ a = 8 ∨ a = 9 ∨ a = 10 ∨ a = 11 ∨ a = 12 ∨ a = 13 ∨ a = 14 := by omega
  have h2 : b = 0 ∨ b = 1 ∨ b = 2 ∨ b = 3 ∨ b = 4 ∨ b = 5 ∨ b = 6 ∨ b = 7 ∨ b = 8 ∨ b = 9 ∨ b = 10 ∨ b = 11 ∨ b = 12 ∨ b = 13 ∨ b = 14 := by omega
  clear ha hb
  rcases h1 with rfl | rfl | rfl | rfl | rfl | rfl | rfl | rfl | rfl | rfl | rfl | rfl | rfl | rfl | rfl <;>
  rcases h2 with rfl | rfl | rfl | rfl | rfl | rfl | rfl | rfl | rfl | rfl | rfl | rfl | rfl | rfl | rfl <;> cases p <;> cases q <;> rfl
/-- Do the signs around a place hang together? -/
def hangs (t : List Int) (i : Nat) : Bool := hangP (cls t (i - 1)) (cls t i) (pic t (i - 1)) (decide (regs t i % 2 = 1))
theorem hangs_ref (t : List Int) (i : Nat) : hangR (cls t (i - 1)) (cls t i) (pic t (i - 1)) (decide (regs t i % 2 = 1)) = hangs t i := hang_same (cl_bounds _) (cl_bounds _) _ _
def isB (t : List Int) (i : Nat) : Bool := !(t.length == 0) && (i == 0 || i == t.length || !hangs t i)
def bnds (t : List Int) : List Nat := (List.range (t.length + 1)).filter (isB t)
theorem isB_zero {t : List Int} (h : 0 < t.length) : isB t 0 = true := by
  have : (t.length == 0) = false := beq_eq_false_iff_ne.2 (by omega)
  simp [isB, this]
theorem isB_last {t : List Int} (h : 0 < t.length) : isB t t.length = true := by
  have : (t.length == 0) = false := beq_eq_false_iff_ne.2 (by omega)
  simp [isB, this]
theorem bnds_nil {t : List Int} (h : t.length = 0) : bnds t = [] := by
  unfold bnds
  rw [List.filter_eq_nil_iff]
  intro i _
  simp [isB, h]
theorem bnds_mono (t : List Int) {i j : Nat} (hij : i < j) (hj : j < (bnds t).length) : (bnds t).getD i 0 < (bnds t).getD j 0 := pair_getD (filt_pair _ _) hij hj
theorem bnds_first {t : List Int} (h : 0 < t.length) : (bnds t).getD 0 0 = 0 := filt_first _ _ (isB_zero h)
theorem bnds_last {t : List Int} (h : 0 < t.length) : (bnds t).getD ((bnds t).length - 1) 0 = t.length := filt_last _ _ (isB_last h)
theorem bnds_len (t : List Int) : (bnds t).length ≤ t.length + 1 := filt_len _ _
theorem bnds_two {t : List Int} (h : 0 < t.length) : 2 ≤ (bnds t).length := by
  rcases Nat.lt_or_ge 1 (bnds t).length with h1 | h1
  · exact h1
  · have e1 := bnds_first h
    have e2 := bnds_last h
    rw [show (bnds t).length - 1 = 0 by omega, e1] at e2
    omega
theorem bnds_le (t : List Int) {i : Nat} (h : i < (bnds t).length) : (bnds t).getD i 0 ≤ t.length := by
  have := filt_lt _ _ _ h
  exact Nat.lt_succ_iff.1 this

/-! ### Words -/
/-- A cluster's kind. -/
def kindOf (t : List Int) (a b : Nat) : Int :=
  match (List.range (b - a)).find? (fun i => wdc t (a + i) != 6) with
  | some i => wdc t (a + i)
  | none => 0
def kinds (t : List Int) : List Int := (List.range ((bnds t).length - 1)).map fun i => kindOf t ((bnds t).getD i 0) ((bnds t).getD (i + 1) 0)
theorem length_kinds (t : List Int) : (kinds t).length = (bnds t).length - 1 := by simp [kinds]
def solid (k : Int) : Bool := k == 1 || k == 2
def kAt (k : List Int) (j : Int) : Int := if j < 0 ∨ j ≥ k.length then -1 else k.getD j.toNat 0
theorem kAt_of {k : List Int} {i : Nat} (h : i < k.length) : kAt k i = k.getD i 0 := by
  unfold kAt; rw [if_neg (by omega)]; rfl
def bridgeP (k : List Int) (i : Int) (two mid : Int) : Bool := (kAt k i == two && kAt k (i + 1) == mid && kAt k (i + 2) == two) || (kAt k (i - 1) == two && kAt k i == mid && kAt k (i + 1) == two)
def plainW (a b : Int) : Bool := (solid a && solid b) || (a == 7 && b == 7) || (a == 5 && (solid b || b == 5)) || (b == 5 && solid a)
/-- Do clusters i and i + 1 hang together? -/
def hangW (k : List Int) (i : Nat) : Bool := plainW (kAt k i) (kAt k (i + 1)) || bridgeP k i 1 3 || bridgeP k i 2 4
/-- .. as the reference asks. -/
def heldR (k : List Int) (i : Nat) (own mid : Int) : Bool :=
  if k.getD (i - 1) 0 == own && k.getD i 0 == mid then decide (i + 1 < k.length) && k.getD (i + 1) 0 == own
  else k.getD (i - 1) 0 == mid && k.getD i 0 == own && decide (i ≥ 2) && k.getD (i - 2) 0 == own
theorem held_same (k : List Int) (i : Nat) (own mid : Int) (h1 : 1 ≤ i) (hi : i < k.length) (hne : own ≠ mid) (ho : own ≠ -1) : heldR k i own mid = bridgeP k ((i : Int) - 1) own mid := by
  have e1 : kAt k ((i : Int) - 1) = k.getD (i - 1) 0 := by
    have : (i : Int) - 1 = ((i - 1 : Nat) : Int) := by omega
    rw [this, kAt_of (by omega)]
  have e2 : kAt k ((i : Int) - 1 + 1) = k.getD i 0 := by
    have : (i : Int) - 1 + 1 = (i : Int) := by omega
    rw [this, kAt_of hi]
  have e3 : kAt k ((i : Int) - 1 + 2) = if i + 1 < k.length then k.getD (i + 1) 0 else -1 := by
    have : (i : Int) - 1 + 2 = ((i + 1 : Nat) : Int) := by omega
    rw [this]
    split
    · rw [kAt_of (by omega)]
    · unfold kAt; rw [if_pos (by omega)]
  have e4 : kAt k ((i : Int) - 1 - 1) = if i ≥ 2 then k.getD (i - 2) 0 else -1 := by
    split
    · have : (i : Int) - 1 - 1 = ((i - 2 : Nat) : Int) := by omega
      rw [this, kAt_of (by omega)]
    · unfold kAt; rw [if_pos (by omega)]
  unfold heldR bridgeP
  rw [e1, e2, e3, e4]
  generalize k.getD (i - 1) 0 = a
  generalize k.getD i 0 = b
  generalize k.getD (i + 1) 0 = c
  generalize k.getD (i - 2) 0 = d
  by_cases h : a = own ∧ b = mid
  · obtain ⟨rfl, rfl⟩ := h
    have hab : (a == b) = false := by simpa using hne
    rw [if_pos (by simp), hab]
    by_cases h3 : i + 1 < k.length
    · rw [if_pos h3]; simp [h3]
    · rw [if_neg h3]
      have : ((-1 : Int) == a) = false := by simpa using fun e => ho e.symm
      simp [h3, this]
  · have hf : (a == own && b == mid) = false := by
      rw [Bool.and_eq_false_iff, beq_eq_false_iff_ne, beq_eq_false_iff_ne]
      by_cases ha : a = own
      · exact .inr fun hb => h ⟨ha, hb⟩
      · exact .inl ha
    rw [hf, if_neg (by simp), Bool.false_and, Bool.false_or]
    by_cases h2 : i ≥ 2
    · rw [if_pos h2]
      simp only [h2, decide_true, Bool.and_true]
      cases (a == mid) <;> cases (b == own) <;> cases (d == own) <;> rfl
    · rw [if_neg h2]
      have : ((-1 : Int) == own) = false := by simpa using fun e => ho e.symm
      simp [h2, this]
def hangWR (k : List Int) (i : Nat) : Bool := plainW (k.getD (i - 1) 0) (k.getD i 0) || heldR k i 1 3 || heldR k i 2 4
theorem hangW_ref (k : List Int) (i : Nat) (h1 : 1 ≤ i) (hi : i < k.length) : hangWR k i = hangW k (i - 1) := by
  have e : ((i - 1 : Nat) : Int) = (i : Int) - 1 := by omega
  unfold hangWR hangW
  rw [held_same k i 1 3 h1 hi (by omega) (by omega), held_same k i 2 4 h1 hi (by omega) (by omega), e]
  have e2 : (i : Int) - 1 + 1 = (i : Int) := by omega
  have e3 : kAt k ((i : Int) - 1) = k.getD (i - 1) 0 := by rw [← e, kAt_of (by omega)]
  rw [e2, e3, kAt_of hi]
/-- Which clusters' bounds are words' bounds. -/
def isW (t : List Int) (i : Nat) : Bool := i == 0 || i == (kinds t).length || !hangW (kinds t) (i - 1)
def wIdx (t : List Int) : List Nat := if t.length = 0 then [] else (List.range ((kinds t).length + 1)).filter (isW t)
def wrds (t : List Int) : List Nat := (wIdx t).map fun i => (bnds t).getD i 0
theorem wIdx_pos {t : List Int} (h : 0 < t.length) : wIdx t = (List.range ((kinds t).length + 1)).filter (isW t) := by unfold wIdx; rw [if_neg (by omega)]
theorem wrds_getD (t : List Int) {k : Nat} (h : k < (wIdx t).length) : (wrds t).getD k 0 = (bnds t).getD ((wIdx t).getD k 0) 0 := by
  simp [wrds, List.getD, List.getElem?_eq_getElem h]
theorem wrds_len (t : List Int) : (wrds t).length = (wIdx t).length := by simp [wrds]
theorem wrds_mono (t : List Int) {i j : Nat} (hij : i < j) (hj : j < (wrds t).length) : (wrds t).getD i 0 < (wrds t).getD j 0 := by
  rw [wrds_len] at hj
  rw [wrds_getD t (by omega), wrds_getD t hj]
  by_cases h0 : t.length = 0
  · rw [wIdx, if_pos h0] at hj; simp at hj
  · have hp := wIdx_pos (t := t) (by omega)
    have hk := length_kinds t
    have h2 := bnds_two (t := t) (by omega)
    have hlt : (wIdx t).getD j 0 < (kinds t).length + 1 := by
      have := filt_lt (isW t) ((kinds t).length + 1) j (by rw [← hp]; exact hj)
      rwa [← hp] at this
    refine bnds_mono t ?_ (by omega)
    have := pair_getD (filt_pair (isW t) ((kinds t).length + 1)) (i := i) (j := j) hij (by rw [← hp]; exact hj)
    rwa [← hp] at this
theorem wrds_first {t : List Int} (h : 0 < t.length) : (wrds t).getD 0 0 = 0 := by
  have hp := wIdx_pos h
  have hl : 0 < (wIdx t).length := by
    rw [hp, List.range_succ_eq_map, List.filter_cons, if_pos (by rfl)]; simp
  rw [wrds_getD t hl, hp, filt_first _ _ (by rfl)]
  exact bnds_first h
theorem wIdx_last {t : List Int} (h : 0 < t.length) : (wIdx t).getD ((wIdx t).length - 1) 0 = (kinds t).length := by
  rw [wIdx_pos h]
  exact filt_last _ _ (by simp [isW])
theorem wrds_last {t : List Int} (h : 0 < t.length) : (wrds t).getD ((wrds t).length - 1) 0 = t.length := by
  have hl : 0 < (wIdx t).length := by
    rw [wIdx_pos h, List.range_succ_eq_map, List.filter_cons, if_pos (by rfl)]; simp
  rw [wrds_len, wrds_getD t (by omega), wIdx_last h, length_kinds]
  exact bnds_last h
theorem wrds_two {t : List Int} (h : 0 < t.length) : 2 ≤ (wrds t).length := by
  rcases Nat.lt_or_ge 1 (wrds t).length with h1 | h1
  · exact h1
  · have e1 := wrds_first h
    have e2 := wrds_last h
    rw [show (wrds t).length - 1 = 0 by omega, e1] at e2
    omega
theorem wrds_nil {t : List Int} (h : t.length = 0) : wrds t = [] := by simp [wrds, wIdx, h]
theorem wrds_small (t : List Int) : (wrds t).length ≤ t.length + 1 := by
  rw [wrds_len]
  by_cases h : t.length = 0
  · rw [wIdx, if_pos h]; simp
  · rw [wIdx_pos (by omega)]
    have := filt_len (isW t) ((kinds t).length + 1)
    have := length_kinds t
    have := bnds_len t
    have := bnds_two (t := t) (by omega)
    omega
theorem wrds_mono_le (t : List Int) {i j : Nat} (hij : i ≤ j) (hj : j < (wrds t).length) : (wrds t).getD i 0 ≤ (wrds t).getD j 0 := by
  rcases Nat.lt_or_eq_of_le hij with h | h
  · exact Nat.le_of_lt (wrds_mono t h hj)
  · rw [h]; exact Nat.le_refl _

/-! ### The word around a place -/
def hitW (t : List Int) (i : Int) (k : Nat) : Bool := (decide (((wrds t).getD k 0 : Int) ≤ i) && decide (i < (wrds t).getD (k + 1) 0)) || (decide (k + 1 = (wrds t).length - 1) && decide (i = (wrds t).getD (k + 1) 0))
/-- The word around a place, as the reference finds it. -/
def around (t : List Int) (i : Int) : Int × Int :=
  match (List.range ((wrds t).length - 1)).find? (hitW t i) with
  | some k => ((wrds t).getD k 0, (wrds t).getD (k + 1) 0)
  | none => (0, 0)
theorem around_none {t : List Int} {i : Int} (h : i < 0 ∨ i > t.length ∨ t.length = 0) : around t i = (0, 0) := by
  have : (List.range ((wrds t).length - 1)).find? (hitW t i) = none := by
    rw [List.find?_eq_none]
    intro k hk
    rw [List.mem_range] at hk
    by_cases h0 : t.length = 0
    · rw [wrds_nil h0] at hk; simp at hk
    · have hl := wrds_last (t := t) (by omega)
      have h2 := wrds_mono_le t (i := k + 1) (j := (wrds t).length - 1) (by omega) (by omega)
      simp only [hitW, Bool.or_eq_true, Bool.and_eq_true, decide_eq_true_eq, not_or, not_and]
      omega
  unfold around
  rw [this]
theorem around_at {t : List Int} {i : Int} (h0 : 0 < t.length) (hi : 0 ≤ i ∧ i ≤ t.length) {q : Nat} (hq : q + 1 < (wrds t).length) {tg : Int} (htg : tg = min i ((t.length : Int) - 1)) (h1 : ((wrds t).getD q 0 : Int) ≤ tg) (h2 : tg < (wrds t).getD (q + 1) 0) :
    around t i = (((wrds t).getD q 0 : Int), ((wrds t).getD (q + 1) 0 : Int)) := by
  have hl := wrds_last h0
  have hle := wrds_mono_le t (i := q + 1) (j := (wrds t).length - 1) (by omega) (by omega)
  have hhit : hitW t i q = true := by
    simp only [hitW, Bool.or_eq_true, Bool.and_eq_true, decide_eq_true_eq]
    by_cases he : i < t.length
    · left; omega
    · right
      have e : (wrds t).getD (q + 1) 0 = t.length := by omega
      refine ⟨?_, by omega⟩
      rcases Nat.lt_or_ge (q + 1) ((wrds t).length - 1) with h | h
      · have := wrds_mono t h (by omega)
        omega
      · omega
  have hno : ∀ k, k < q → hitW t i k = false := by
    intro k hk
    have h3 := wrds_mono_le t (i := k + 1) (j := q) (by omega) (by omega)
    rw [Bool.eq_false_iff]
    simp only [hitW, ne_eq, Bool.or_eq_true, Bool.and_eq_true, decide_eq_true_eq]
    omega
  have hf : (List.range ((wrds t).length - 1)).find? (hitW t i) = some q := by
    have := find_at (p := hitW t i) (d := 0) (l := List.range ((wrds t).length - 1)) (k := q) (by simp; omega) (fun j hj => by rw [range_getD _ _ (by omega)]; exact hno j hj) (by rw [range_getD _ _ (by omega)]; exact hhit)
    rw [this, range_getD _ _ (by omega)]
  unfold around
  rw [hf]

end Go.Proofs.YtkelageigeoajaaDoor
