/-
  Contracts of functions that only compute (Con), calls of them, and the soundness of all quiet operations.
-/
import Derived.Test.YtfnfbdccmggfoaaGreatDoorPg4
set_option linter.unusedSimpArgs false
set_option linter.unusedVariables false
namespace Go.Proofs.YtfnfbdccmggfoaaGreatDoor.Pg
open Go.RowKit

/-- THE CONTRACT OF A FUNCTION THAT CHANGES NOTHING THAT WAS THERE: called with values that read as 'args' it hands back one that reads as r, in memory that stays. -/
structure Con (P : Program) (G : Nat → V) (f : FuncId) (args : List V) (r : V) : Prop where
  call : callable P f = true
  run : ∀ (w : World) (M : Imm) (cargs : Array Value), (∀ p v, M p = some v → w.cell? p = some v ∧ v.oneCell' = true) → (∀ g, R M (G g) β0 (.pointer (some ⟨g, 0, none⟩))) → cargs.size = args.length →
    (∀ k v, args[k]? = some v → R M v β0 (cargs.getD k undef)) →
    Calls P f cargs w fun e w' => ∃ u M', e = .returned u ∧ Below w.heap.size w w' ∧ Imm.Le M M' ∧ (∀ p : Addr, p.block < w.heap.size → M' p = M p) ∧
      (∀ p v, M' p = some v → w'.cell? p = some v ∧ v.oneCell' = true) ∧ R M' r β0 u

/-- Memory that stays alone. -/
def isImm1 : V → Bool
  | .raw _ | .e0 | .sl .. | .cp .. => true
  | _ => false

def isImm : V → Bool
  | .agg n c => (List.range n).all fun j => isImm1 (c j)
  | v => isImm1 v

def isRaw : V → Bool
  | .raw _ => true
  | _ => false

def isFlat1 : V → Bool
  | .raw _ => true
  | .agg n c => (List.range n).all fun j => isRaw (c j)
  | _ => false

/-- No memory at all. -/
def isFlat : V → Bool
  | .tup n c => (List.range n).all fun j => isFlat1 (c j)
  | v => isFlat1 v

/-- What is owned, seen as it is now. -/
def snap1 (st : St) : V → V
  | .vec o => match st.σ o with
    | .vec _ sz n _ f => .sl sz n f
    | _ => .any
  | .ptr _ _ _ => .any
  | .tup _ _ => .any
  | v => v

def im : V → V
  | .vec _ => .any
  | .ptr _ _ _ => .any
  | v => v

def snap (st : St) : V → V
  | .agg n c => .agg n fun j => snap1 st (c j)
  | .ptr o 0 j => match st.σ o with
    | .box _ n c => .cp (n - j) fun q => im (c (j + q))
    | _ => .any
  | v => snap1 st v

/-- A call. -/
def vcCall (P : Program) (st : St) (c : Call) (K : V → Prop) : Prop :=
  match c.callee with
  | .value fo => match ev st fo with
    | .raw (.func (.func f) first captured) =>
      match first.toList, captured.toList with
      | [], [] =>
        (∃ r, Con P st.G f (c.args.toList.map (ev st)) r ∧ ((c.args.toList.map (ev st)).all isImm) = true ∧ K r) ∨
        (∃ r, Con P st.G f (c.args.toList.map fun x => snap st (ev st x)) r ∧ isFlat r = true ∧ K r)
      | _, _ => False
    | _ => False
  | _ => vcBuiltin P st c K

def vcC (P : Program) (st : St) (op : Op) (K : V → Prop) : Prop :=
  match op with
  | .call c => vcCall P st c K
  | op => vcQ P st op K

section
variable {P : Program}

theorem isImm1_spec {v : V} (h : isImm1 v = true) {M : Imm} {β β' : Env} {u : Value} (hr : R M v β u) : R M v β' u := by
  cases v <;> simp only [isImm1] at h <;> first | exact hr | cases h

theorem isImm_spec {v : V} (h : isImm v = true) {M : Imm} {β β' : Env} {u : Value} (hr : R M v β u) : R M v β' u := by
  cases v with
  | agg n c =>
    obtain ⟨cs, h1, h2, h3⟩ := hr
    simp only [isImm, List.all_eq_true, List.mem_range] at h
    exact ⟨cs, h1, h2, fun j hj => ⟨(h3 j hj).1, isImm1_spec (h j hj) (h3 j hj).2⟩⟩
  | _ => exact isImm1_spec (by exact h) hr

theorem isFlat1_spec {v : V} (h : isFlat1 v = true) {M M' : Imm} {β β' : Env} {u : Value} (hr : R M v β u) : R M' v β' u := by
  cases v with
  | raw x => exact hr
  | agg n c =>
    obtain ⟨cs, h1, h2, h3⟩ := hr
    simp only [isFlat1, List.all_eq_true, List.mem_range] at h
    refine ⟨cs, h1, h2, fun j hj => ⟨(h3 j hj).1, ?_⟩⟩
    have hj' := h j hj
    have hr' := (h3 j hj).2
    cases hc : c j <;> rw [hc] at hj' hr' <;> simp only [isRaw] at hj' <;> first | exact hr' | cases hj'
  | _ => simp [isFlat1] at h

theorem isFlat_spec {v : V} (h : isFlat v = true) {M M' : Imm} {β β' : Env} {u : Value} (hr : R M v β u) : R M' v β' u := by
  cases v with
  | tup n c =>
    obtain ⟨cs, h1, h2, h3⟩ := hr
    simp only [isFlat, List.all_eq_true, List.mem_range] at h
    exact ⟨cs, h1, h2, fun j hj => isFlat1_spec (h j hj) (h3 j hj)⟩
  | _ => exact isFlat1_spec (by exact h) hr

/-- All that is there, as memory that stays for the time of a call. -/
noncomputable def allOf (w : World) : Imm := fun p => match w.cell? p with
  | some v => if v.oneCell' = true then some v else none
  | none => none

theorem allOf_cons (w : World) (p : Addr) (v : Value) (h : allOf w p = some v) : w.cell? p = some v ∧ v.oneCell' = true := by
  unfold allOf at h
  split at h
  · rename_i x hx
    split at h
    · rename_i h1; simp only [Option.some.injEq] at h; subst h; exact ⟨hx, h1⟩
    · cases h
  · cases h
theorem allOf_of {w : World} {p : Addr} {v : Value} (h : w.cell? p = some v) (h1 : v.oneCell' = true) : allOf w p = some v := by
  unfold allOf; rw [h]; simp [h1]
theorem allOf_le {M : Imm} {w : World} (h : ∀ p v, M p = some v → w.cell? p = some v ∧ v.oneCell' = true) : Imm.Le M (allOf w) := ⟨fun p v e => allOf_of (h p v e).1 (h p v e).2⟩

theorem im_spec {v : V} {M : Imm} {β : Env} {u : Value} (h1 : u.oneCell' = true) (hr : R M v β u) : R M (im v) β0 u := by
  cases v with
  | agg n c => obtain ⟨cs, rfl, _⟩ := hr; cases h1
  | tup n c => obtain ⟨cs, rfl, _⟩ := hr; cases h1
  | ptr o i j => trivial
  | vec o => trivial
  | _ => exact hr

theorem snap1_spec {X : Ctx} {M : Imm} {β : Env} {st : St} {w : World} (hm : Mem X M β st w) {M' : Imm} (up : Imm.Le M M') (all : ∀ g off v, X.w0.heap.size ≤ g → w.cell? ⟨g, off, none⟩ = some v → v.oneCell' = true → M' ⟨g, off, none⟩ = some v)
    {v : V} {u : Value} (h1 : u.oneCell' = true) (hr : R M v β u) : R M' (snap1 st v) β0 u := by
  cases v with
  | agg n c => obtain ⟨cs, rfl, _⟩ := hr; cases h1
  | tup n c => obtain ⟨cs, rfl, _⟩ := hr; cases h1
  | ptr o i j => trivial
  | vec o =>
    show R M' (match st.σ o with | .vec _ sz n _ f => .sl sz n f | _ => .any) β0 u
    cases hσ : st.σ o with
    | vec e sz n fz f =>
      obtain ⟨rfl, _⟩ := hr
      obtain ⟨A, cap, hv, hc, hmx, hA⟩ := hm.lenVec hσ
      refine ⟨A, cap, hv, hc, hmx, fun hn => ?_⟩
      obtain ⟨g, rfl⟩ := hA hn
      refine ⟨_, rfl, fun i hi j hj => ?_⟩
      obtain ⟨v, e1, e2, e3⟩ := hm.cellVec hσ hi hj (g := g) (by rw [hv]; rfl)
      obtain ⟨xs, hown, hsz, _⟩ := hm.vec o e sz n fz f hσ
      have hge : X.w0.heap.size ≤ g := (hown.lt g (by rw [hv]; rfl)).1
      refine ⟨v, ?_, R.up up e3⟩
      rw [add_none]
      exact all g _ v hge (by simpa [hsz] using e1) e2
    | box t n c => trivial
    | dead => trivial
  | any => trivial
  | raw x => exact hr
  | e0 => exact hr
  | sl sz n f => exact R.mono up (.sl sz n f) (EnvLe.refl _) hr
  | cp n c => exact R.mono up (.cp n c) (EnvLe.refl _) hr

theorem snap_spec {X : Ctx} {M : Imm} {β : Env} {st : St} {w : World} (hm : Mem X M β st w) {M' : Imm} (up : Imm.Le M M') (all : ∀ g off v, X.w0.heap.size ≤ g → w.cell? ⟨g, off, none⟩ = some v → v.oneCell' = true → M' ⟨g, off, none⟩ = some v)
    {v : V} {u : Value} (hr : R M v β u) : R M' (snap st v) β0 u := by
  have one : ∀ {v : V}, (∀ n c, v ≠ .agg n c) → (∀ o j, v ≠ .ptr o 0 j) → snap st v = snap1 st v := by
    intro v h1 h2
    cases v with
    | agg n c => exact absurd rfl (h1 n c)
    | ptr o i j =>
      cases i with
      | zero => exact absurd rfl (h2 o j)
      | succ i => rfl
    | _ => rfl
  cases v with
  | agg n c =>
    obtain ⟨cs, h1, h2, h3⟩ := hr
    exact ⟨cs, h1, h2, fun j hj => ⟨(h3 j hj).1, snap1_spec hm up all (h3 j hj).1 (h3 j hj).2⟩⟩
  | ptr o i j =>
    cases i with
    | succ i => trivial
    | zero =>
      show R M' (match st.σ o with | .box _ n c => .cp (n - j) fun q => im (c (j + q)) | _ => .any) β0 u
      cases hσ : st.σ o with
      | box t n c =>
        obtain ⟨g, hg, rfl⟩ := hr
        refine ⟨_, rfl, fun q hq => ?_⟩
        obtain ⟨v, e1, e2, e3⟩ := hm.cellBox hσ (show j + q < n by omega) hg
        obtain ⟨g', cs, b1, b2, _⟩ := hm.box o t n c hσ
        have hge : X.w0.heap.size ≤ g := by
          rw [b1] at hg
          have : g' = g := by simpa [blk] using hg
          omega
        exact ⟨v, by rw [add_none]; exact all g _ v hge (by simpa using e1) e2, R.up up (im_spec e2 e3)⟩
      | vec e sz n fz f => trivial
      | dead => trivial
  | any => trivial
  | tup n c =>
    obtain ⟨cs, h1, h2, h3⟩ := hr
    trivial
  | raw x => exact hr
  | e0 => exact hr
  | sl sz n f => exact R.mono up (.sl sz n f) (EnvLe.refl _) hr
  | cp n c => exact R.mono up (.cp n c) (EnvLe.refl _) hr
  | vec o => exact snap1_spec hm up all (by obtain ⟨rfl, A, n, c, h⟩ := hr; rw [h]; rfl) hr

end
end Go.Proofs.YtfnfbdccmggfoaaGreatDoor.Pg
