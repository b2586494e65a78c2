/-
  What may be forgotten of a state: canonical states, objects named anew.
-/
import Derived.Test.YtfnfbdccmggfoaaGreatDoorPg13
set_option linter.unusedSimpArgs false
set_option linter.unusedVariables false
namespace Go.Proofs.YtfnfbdccmggfoaaGreatDoor.Pg
open Go.RowKit

/-- Cells written out. -/
def cl : List V → Nat → V
  | [], _ => .any
  | v :: _, 0 => v
  | _ :: r, j + 1 => cl r j

def lk : List (Nat × V) → Nat → V
  | [], _ => .any
  | (k, v) :: r, t => if t = k then v else lk r t

/-- A state written out: slots, objects. -/
def St.mk' (N : Nat) (G : Nat → V) (ts : List (Nat × V)) (os : List Ob) : St := { N, T := lk ts, nx := os.length, σ := fun o => (os[o]?).getD .dead, G }

def renOK (ρ : List (Option Nat)) (a b : V) : Prop :=
  match b with
  | .any => True
  | .vec i => match ρ[i]? with
    | some (some o) => a = .vec o
    | some none => a = .raw (.slice none 0 0)
    | none => False
  | .ptr i x y => match ρ[i]? with
    | some (some o) => a = .ptr o x y
    | _ => False
  | .raw v => a = .raw v
  | .sl sz n f => a = .sl sz n f
  | .cp n c => a = .cp n c
  | .e0 => a = .e0
  | .agg n c => a = .agg n c ∧ isImm (.agg n c) = true
  | .tup .. => False

def obOK (ρ : List (Option Nat)) (a b : Ob) : Prop :=
  match b with
  | .dead => True
  | .box t n c => match a with
    | .box t' n' c' => t' = t ∧ n' = n ∧ ∀ j, j < n → renOK ρ (c' j) (c j)
    | _ => False
  | .vec e sz n fz f => match a with
    | .vec e' sz' n' fz' f' => e' = e ∧ sz' = sz ∧ n' = n ∧ fz' = fz ∧ ∀ i j, i < n → j < sz → f' i j = f i j
    | _ => False

def tsOK (ρ : List (Option Nat)) (st : St) : List (Nat × V) → Prop
  | [] => True
  | (k, v) :: r => renOK ρ (st.T k) v ∧ tsOK ρ st r

def osOK (ρ : List (Option Nat)) (st : St) : List (Option Nat) → List Ob → Prop
  | [], [] => True
  | some o :: r, ob :: obs => (st.σ o ≠ .dead ∧ obOK ρ (st.σ o) ob) ∧ osOK ρ st r obs
  | none :: r, .vec _ _ n fz _ :: obs => (n = 0 ∧ fz = 0) ∧ osOK ρ st r obs
  | _, _ => False

def distinctB : List (Option Nat) → Bool
  | [] => true
  | none :: r => distinctB r
  | some o :: r => !(r.contains (some o)) && distinctB r

def renEnv (ρ : List (Option Nat)) (os : List Ob) (β : Env) : Env := fun i =>
  match ρ[i]? with
  | some (some o) => β o
  | some none => match os[i]? with
    | some (.vec _ sz _ _ _) => (.slice none 0 0, sz)
    | _ => (.nilFunc, 0)
  | none => (.nilFunc, 0)

theorem osOK_at {ρ0 : List (Option Nat)} {st : St} : ∀ {ρ : List (Option Nat)} {os : List Ob}, osOK ρ0 st ρ os → ρ.length = os.length ∧ ∀ (i : Nat) (ob : Ob), os[i]? = some ob → (∃ o, ρ[i]? = some (some o) ∧ st.σ o ≠ .dead ∧ obOK ρ0 (st.σ o) ob) ∨ (ρ[i]? = some none ∧ ∃ e sz f, ob = .vec e sz 0 0 f)
  | [], [], _ => ⟨rfl, fun i ob h => by simp at h⟩
  | [], _ :: _, h => h.elim
  | some _ :: _, [], h => h.elim
  | none :: _, [], h => h.elim
  | some o :: r, ob :: obs, h => by
    obtain ⟨h1, h2⟩ := osOK_at h.2
    refine ⟨by simp [h1], fun i ob' hi => ?_⟩
    cases i with
    | zero =>
      simp only [List.getElem?_cons_zero, Option.some.injEq] at hi
      subst hi
      exact .inl ⟨o, rfl, h.1.1, h.1.2⟩
    | succ i => simpa using h2 i ob' (by simpa using hi)
  | none :: r, .dead :: obs, h => h.elim
  | none :: r, .box .. :: obs, h => h.elim
  | none :: r, .vec e sz n fz f :: obs, h => by
    obtain ⟨h1, h2⟩ := osOK_at h.2
    obtain ⟨⟨rfl, rfl⟩, _⟩ := h
    refine ⟨by simp [h1], fun i ob' hi => ?_⟩
    cases i with
    | zero =>
      simp only [List.getElem?_cons_zero, Option.some.injEq] at hi
      subst hi
      exact .inr ⟨rfl, e, sz, f, rfl⟩
    | succ i => simpa using h2 i ob' (by simpa using hi)

theorem distinctB_spec : ∀ {ρ : List (Option Nat)}, distinctB ρ = true → ∀ (i j o : Nat), ρ[i]? = some (some o) → ρ[j]? = some (some o) → i = j
  | [], _, i, j, o, h, _ => by simp at h
  | none :: r, h, i, j, o, hi, hj => by
    cases i with
    | zero => simp at hi
    | succ i =>
      cases j with
      | zero => simp at hj
      | succ j => rw [distinctB_spec (ρ := r) h i j o (by simpa using hi) (by simpa using hj)]
  | some q :: r, h, i, j, o, hi, hj => by
    simp only [distinctB, Bool.and_eq_true, Bool.not_eq_true'] at h
    cases i with
    | zero =>
      simp only [List.getElem?_cons_zero, Option.some.injEq] at hi
      subst hi
      cases j with
      | zero => rfl
      | succ j =>
        have : some q ∈ r := List.mem_of_getElem? (by simpa using hj)
        have h1 := h.1
        rw [List.contains_eq_mem] at h1
        simp [this] at h1
    | succ i =>
      cases j with
      | zero =>
        simp only [List.getElem?_cons_zero, Option.some.injEq] at hj
        subst hj
        have : some q ∈ r := List.mem_of_getElem? (by simpa using hi)
        have h1 := h.1
        rw [List.contains_eq_mem] at h1
        simp [this] at h1
      | succ j => rw [distinctB_spec (ρ := r) h.2 i j o (by simpa using hi) (by simpa using hj)]

theorem renOK_sound {ρ : List (Option Nat)} {os : List Ob} {st : St} (hos : osOK ρ st ρ os) {X : Ctx} {M : Imm} {β : Env} {w : World} (hm : Mem X M β st w) {a b : V} {u : Value} (h : renOK ρ a b) (hr : R M a β u) : R M b (renEnv ρ os β) u := by
  obtain ⟨hlen, hat⟩ := osOK_at hos
  cases b with
  | any => trivial
  | raw v => rw [show a = .raw v from h] at hr; exact hr
  | e0 => rw [show a = .e0 from h] at hr; exact hr
  | sl sz n f => rw [show a = .sl sz n f from h] at hr; exact hr
  | cp n c => rw [show a = .cp n c from h] at hr; exact hr
  | tup n c => exact h.elim
  | agg n c =>
    obtain ⟨h1, h2⟩ := h
    rw [h1] at hr
    exact isImm_spec h2 hr
  | vec i =>
    simp only [renOK] at h
    cases hi : ρ[i]? with
    | none => simp [hi] at h
    | some x =>
      cases x with
      | some o =>
        simp only [hi] at h
        subst h
        have e : renEnv ρ os β i = β o := by unfold renEnv; rw [hi]
        obtain ⟨h1, h2⟩ := hr
        exact ⟨by rw [e]; exact h1, h2⟩
      | none =>
        simp only [hi] at h
        subst h
        have hlt : i < os.length := by
          rw [← hlen]
          rcases Nat.lt_or_ge i ρ.length with h | h
          · exact h
          · rw [List.getElem?_eq_none h] at hi; cases hi
        rcases hat i _ (List.getElem?_eq_getElem hlt) with ⟨o, h1, _⟩ | ⟨_, e', sz, f, he⟩
        · rw [hi] at h1; cases h1
        · have e : renEnv ρ os β i = (.slice none 0 0, sz) := by
            unfold renEnv
            rw [hi, List.getElem?_eq_getElem hlt, he]
          exact ⟨by rw [e]; exact hr, none, 0, 0, hr⟩
  | ptr i x y =>
    simp only [renOK] at h
    cases hi : ρ[i]? with
    | none => simp [hi] at h
    | some q =>
      cases q with
      | none => simp [hi] at h
      | some o =>
        simp only [hi] at h
        subst h
        have e : renEnv ρ os β i = β o := by unfold renEnv; rw [hi]
        obtain ⟨g, h1, h2⟩ := hr
        exact ⟨g, by rw [e]; exact h1, by rw [e]; exact h2⟩

theorem lk_tsOK {ρ : List (Option Nat)} {st : St} : ∀ {ts : List (Nat × V)}, tsOK ρ st ts → ∀ t, lk ts t = .any ∨ renOK ρ (st.T t) (lk ts t)
  | [], _, t => .inl rfl
  | (k, v) :: r, h, t => by
    unfold lk
    by_cases e : t = k
    · subst e; rw [if_pos rfl]; exact .inr h.1
    · rw [if_neg e]; exact lk_tsOK h.2 t

/-- A STATE WRITTEN OUT. ρ: which object each of its objects is; none: a nil slice, seen as an empty row. -/
theorem Le.to {st : St} (ρ : List (Option Nat)) {N : Nat} {G : Nat → V} {ts : List (Nat × V)} {os : List Ob} (hN : st.N = N) (hG : st.G = G) (hd : distinctB ρ = true) (ht : tsOK ρ st ts) (ho : osOK ρ st ρ os) : Le st (St.mk' N G ts os) := by
  intro X a w ⟨M, β, hs⟩
  obtain ⟨hlen, hat⟩ := osOK_at ho
  have hm := hs.mem
  refine ⟨M, renEnv ρ os β, hs.nodef, by rw [← hN] at *; exact hs.size, fun t => ?_, ?_⟩
  · rcases lk_tsOK ht t with h | h
    · show R M (lk ts t) _ _
      rw [h]; trivial
    · exact renOK_sound ho hm h (hs.tmps t)
  · have hσ : ∀ (i : Nat) (ob : Ob), (os[i]?).getD .dead = ob → ob ≠ .dead → os[i]? = some ob := by
      intro i ob h hne
      cases hi : os[i]? with
      | none => rw [hi] at h; exact absurd h.symm hne
      | some x => rw [hi] at h; simp only [Option.getD_some] at h; rw [h]
    refine ⟨hm.below, hm.cons, hm.ext, hm.old, ?_, ?_, ?_, ?_, by rw [← hG]; exact hm.glob⟩
    · intro i t n c h
      have hi := hσ i _ h (by simp)
      rcases hat i _ hi with ⟨o, h1, h2, h3⟩ | ⟨_, e, sz, f, h3⟩
      · have e : renEnv ρ os β i = β o := by unfold renEnv; rw [h1]
        rw [e]
        cases hoo : st.σ o with
        | dead => exact absurd hoo h2
        | vec => rw [hoo] at h3; exact h3.elim
        | box t' n' c' =>
          rw [hoo] at h3
          obtain ⟨rfl, rfl, hcc⟩ := h3
          obtain ⟨g, cs, b1, b2, b3, b4, b5, b6⟩ := hm.box o _ _ _ hoo
          exact ⟨g, cs, b1, b2, b3, b4, fun j hj => ⟨(b5 j hj).1, renOK_sound ho hm (hcc j hj) (b5 j hj).2⟩, b6⟩
      · cases h3
    · intro i e sz n fz f h
      have hi := hσ i _ h (by simp)
      rcases hat i _ hi with ⟨o, h1, h2, h3⟩ | ⟨h1, e', sz', f', h3⟩
      · have e0 : renEnv ρ os β i = β o := by unfold renEnv; rw [h1]
        rw [e0]
        cases hoo : st.σ o with
        | dead => exact absurd hoo h2
        | box => rw [hoo] at h3; exact h3.elim
        | vec e' sz' n' fz' f' =>
          rw [hoo] at h3
          obtain ⟨rfl, rfl, rfl, rfl, hf⟩ := h3
          obtain ⟨xs, b1, b2, b3, b4⟩ := hm.vec o _ _ _ _ _ hoo
          exact ⟨xs, b1, b2, fun i j hi' hj => by obtain ⟨v, e1, e2, e3⟩ := b3 i j hi' hj; exact ⟨v, e1, e2, by rw [← hf i j hi' hj]; exact e3⟩, b4⟩
      · simp only [Ob.vec.injEq] at h3
        obtain ⟨rfl, rfl, rfl, rfl, rfl⟩ := h3
        have e0 : renEnv ρ os β i = (.slice none 0 0, sz) := by unfold renEnv; rw [h1, hi]
        rw [e0]
        exact ⟨[], World.ownsRow_nil w _ e sz, rfl, fun i j hi' => by omega, fun g hg => by simp [blk] at hg⟩
    · intro i j g hne h1 h2 hb1 hb2
      have alive : ∀ (i g : Nat), (os[i]?).getD .dead ≠ .dead → blk (renEnv ρ os β i).1 = some g → ∃ o, ρ[i]? = some (some o) ∧ st.σ o ≠ .dead ∧ blk (β o).1 = some g := by
        intro i g h hb
        have hi := hσ i _ rfl h
        rcases hat i _ hi with ⟨o, k1, k2, _⟩ | ⟨k1, e', sz', f', k3⟩
        · have e0 : renEnv ρ os β i = β o := by unfold renEnv; rw [k1]
          rw [e0] at hb
          exact ⟨o, k1, k2, hb⟩
        · rw [k3] at hi
          have e0 : renEnv ρ os β i = (.slice none 0 0, sz') := by unfold renEnv; rw [k1, hi]
          rw [e0] at hb
          simp [blk] at hb
      obtain ⟨o, k1, k2, k3⟩ := alive i g h1 hb1
      obtain ⟨o', l1, l2, l3⟩ := alive j g h2 hb2
      exact hm.sep o o' g (fun e => hne (distinctB_spec hd i j o k1 (by rw [e]; exact l1))) k2 l2 k3 l3
    · intro i hi
      have hi' : os.length ≤ i := hi
      refine ⟨by show (os[i]?).getD .dead = .dead; rw [List.getElem?_eq_none hi']; rfl, ?_⟩
      unfold renEnv
      rw [List.getElem?_eq_none (by omega)]

/-- How long a slice can be. -/
theorem aw_len {P : Program} {k : List It} {st : St} {Q : Exit → St → Prop} (t : Nat) {sz n : Nat} {f : Nat → Nat → V} (ht : st.T t = .sl sz n f) (h : n ≤ maxLen → AW P k st Q) : AW P k st Q := fun X a w hs => by
  obtain ⟨M, β, hs'⟩ := hs
  have := hs'.tmps t
  rw [ht] at this
  obtain ⟨A, cap, _, h1, h2, _⟩ := this
  exact h (by omega) X a w ⟨M, β, hs'⟩

/-- .. in a struct's cell. -/
theorem aw_len_agg {P : Program} {k : List It} {st : St} {Q : Exit → St → Prop} (t j : Nat) {n : Nat} {c : Nat → V} {sz m : Nat} {f : Nat → Nat → V} (ht : st.T t = .agg n c) (hj : j < n) (hc : c j = .sl sz m f) (h : m ≤ maxLen → AW P k st Q) : AW P k st Q := fun X a w hs => by
  obtain ⟨M, β, hs'⟩ := hs
  have := hs'.tmps t
  rw [ht] at this
  obtain ⟨cs, _, _, h3⟩ := this
  have := (h3 j hj).2
  rw [hc] at this
  obtain ⟨A, cap, _, h1, h2, _⟩ := this
  exact h (by omega) X a w ⟨M, β, hs'⟩
/-- .. in a box's cell. -/
theorem aw_len_box {P : Program} {k : List It} {st : St} {Q : Exit → St → Prop} (o j : Nat) {t : TypeId} {n : Nat} {c : Nat → V} {sz m : Nat} {f : Nat → Nat → V} (ho : st.σ o = .box t n c) (hj : j < n) (hc : c j = .sl sz m f) (h : m ≤ maxLen → AW P k st Q) : AW P k st Q := fun X a w hs => by
  obtain ⟨M, β, hs'⟩ := hs
  obtain ⟨g, cs, _, _, _, _, h5, _⟩ := hs'.mem.box o t n c ho
  have := (h5 j hj).2
  rw [hc] at this
  obtain ⟨A, cap, _, h1, h2, _⟩ := this
  exact h (by omega) X a w ⟨M, β, hs'⟩

end Go.Proofs.YtfnfbdccmggfoaaGreatDoor.Pg
