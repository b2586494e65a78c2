/-
  Abstract values and what they say of concrete ones: a small relational layer over the kit's 'wp'. No program in sight.
  V: what a slot holds, seen abstractly; R: that a concrete value is so; Mem: that a world is so. M is memory that is never written again.
-/
import Derived.WalkKit
import Derived.Still
set_option linter.unusedSimpArgs false
set_option linter.unusedVariables false
namespace Go.Proofs.YtfnfbdccmggfoaaGreatDoor.Pg
open Go.RowKit

inductive V : Type where
  | any
  | raw (v : Value)
  | e0
  | agg (n : Nat) (c : Nat → V)
  | tup (n : Nat) (c : Nat → V)
  | sl (sz n : Nat) (f : Nat → Nat → V)
  | cp (n : Nat) (c : Nat → V)
  | ptr (o i j : Nat)
  | vec (o : Nat)

inductive Ob : Type where
  | dead
  | box (t : TypeId) (n : Nat) (c : Nat → V)
  | vec (e : TypeId) (sz n fz : Nat) (f : Nat → Nat → V)

abbrev Imm := Addr → Option Value
abbrev Env := Nat → Value × Nat

def β0 : Env := fun _ => (.nilFunc, 0)

def blk : Value → Option Nat
  | .pointer (some a) => some a.block
  | .slice (some a) _ _ => some a.block
  | _ => none

def R (M : Imm) : V → Env → Value → Prop
  | .any, _, _ => True
  | .raw v, _, u => u = v
  | .e0, _, u => ∃ A, u = .slice A 0 0
  | .agg n c, β, u => ∃ cs : Array Value, u = .agg cs ∧ cs.size = n ∧ ∀ j, j < n → (cs.getD j undef).oneCell' = true ∧ R M (c j) β (cs.getD j undef)
  | .tup n c, β, u => ∃ cs : Array Value, u = .tuple cs ∧ cs.size = n ∧ ∀ j, j < n → R M (c j) β (cs.getD j undef)
  | .sl sz n f, _, u => ∃ A cap, u = .slice A n cap ∧ n ≤ cap ∧ cap ≤ maxLen ∧ (0 < n → ∃ ad : Addr, A = some ad ∧ ∀ i, i < n → ∀ j, j < sz → ∃ v, M (ad.add (i * sz + j)) = some v ∧ R M (f i j) β0 v)
  | .cp n c, _, u => ∃ ad : Addr, u = .pointer (some ad) ∧ ∀ j, j < n → ∃ v, M (ad.add j) = some v ∧ R M (c j) β0 v
  | .ptr o i j, β, u => ∃ g, blk (β o).1 = some g ∧ u = .pointer (some ⟨g, i * (β o).2 + j, none⟩)
  | .vec o, β, u => u = (β o).1 ∧ ∃ A n c, u = .slice A n c

structure Imm.Le (M M' : Imm) : Prop where
  le : ∀ p v, M p = some v → M' p = some v

theorem Imm.Le.refl (M : Imm) : Imm.Le M M := ⟨fun _ _ h => h⟩
theorem Imm.Le.trans {M M' M'' : Imm} (h : Imm.Le M M') (k : Imm.Le M' M'') : Imm.Le M M'' := ⟨fun p v e => k.le p v (h.le p v e)⟩

def EnvLe (β β' : Env) : Prop := ∀ o, (β o).1 ≠ .nilFunc → β' o = β o
theorem EnvLe.refl (β : Env) : EnvLe β β := fun _ _ => rfl
theorem EnvLe.of0 (β : Env) : EnvLe β0 β := fun _ h => absurd rfl h

theorem blk_ne {v : Value} {g : Nat} (h : blk v = some g) : v ≠ .nilFunc := by rintro rfl; simp [blk] at h

theorem R.mono {M M' : Imm} (hM : Imm.Le M M') : ∀ (v : V) {β β' : Env} {u : Value}, EnvLe β β' → R M v β u → R M' v β' u
  | .any, _, _, _, _, _ => trivial
  | .raw _, _, _, _, _, h => h
  | .e0, _, _, _, _, h => h
  | .agg _ c, _, _, _, hb, ⟨cs, h1, h2, h3⟩ => ⟨cs, h1, h2, fun j hj => ⟨(h3 j hj).1, R.mono hM (c j) hb (h3 j hj).2⟩⟩
  | .tup _ c, _, _, _, hb, ⟨cs, h1, h2, h3⟩ => ⟨cs, h1, h2, fun j hj => R.mono hM (c j) hb (h3 j hj)⟩
  | .sl _ _ f, _, _, _, _, ⟨A, cap, h1, h2, h3, h4⟩ => ⟨A, cap, h1, h2, h3, fun hn =>
      let ⟨ad, ha, hf⟩ := h4 hn
      ⟨ad, ha, fun i hi j hj => let ⟨v, hv, hr⟩ := hf i hi j hj; ⟨v, hM.le _ _ hv, R.mono hM (f i j) (EnvLe.refl _) hr⟩⟩⟩
  | .cp _ c, _, _, _, _, ⟨ad, h1, h2⟩ => ⟨ad, h1, fun j hj => let ⟨v, hv, hr⟩ := h2 j hj; ⟨v, hM.le _ _ hv, R.mono hM (c j) (EnvLe.refl _) hr⟩⟩
  | .ptr o _ _, _, β', _, hb, ⟨g, h1, h2⟩ => by
      have e := hb o (blk_ne h1)
      exact ⟨g, by rw [e]; exact h1, by rw [e]; exact h2⟩
  | .vec o, β, β', u, hb, ⟨h1, A, n, c, h2⟩ => by
      have e := hb o (by rw [← h1, h2]; simp)
      exact ⟨by rw [e]; exact h1, A, n, c, h2⟩

theorem R.imm {M : Imm} {v : V} {β β' : Env} {u : Value} (hb : EnvLe β β') (h : R M v β u) : R M v β' u := R.mono (Imm.Le.refl M) v hb h
theorem R.up {M M' : Imm} (hM : Imm.Le M M') {v : V} {β : Env} {u : Value} (h : R M v β u) : R M' v β u := R.mono hM v (EnvLe.refl β) h

/-- What a call was begun with: the world, and the memory that stays. -/
structure Ctx where
  w0 : World
  M0 : Imm

structure St where
  N : Nat
  T : Nat → V
  nx : Nat
  σ : Nat → Ob
  G : Nat → V

structure Mem (X : Ctx) (M : Imm) (β : Env) (st : St) (w : World) : Prop where
  below : Below X.w0.heap.size X.w0 w
  cons : ∀ p v, M p = some v → w.cell? p = some v ∧ v.oneCell' = true
  ext : Imm.Le X.M0 M
  old : ∀ p : Addr, p.block < X.w0.heap.size → M p = X.M0 p
  box : ∀ o t n c, st.σ o = .box t n c → ∃ (g : Nat) (cs : Array Value), (β o).1 = .pointer (some ⟨g, 0, none⟩) ∧ X.w0.heap.size ≤ g ∧ w.heap[g]? = some (.cells cs t (0, 0)) ∧ cs.size = n ∧
    (∀ j, j < n → (cs.getD j undef).oneCell' = true ∧ R M (c j) β (cs.getD j undef)) ∧ ∀ off s, M ⟨g, off, s⟩ = none
  vec : ∀ o e sz n fz f, st.σ o = .vec e sz n fz f → ∃ xs, w.ownsRow X.w0.heap.size e sz (β o).1 n xs ∧ (β o).2 = sz ∧
    (∀ i j, i < n → j < sz → ∃ v, xs[i * sz + j]? = some v ∧ v.oneCell' = true ∧ R M (f i j) β0 v) ∧ ∀ g, blk (β o).1 = some g → ∀ off s, fz * sz ≤ off → M ⟨g, off, s⟩ = none
  sep : ∀ o o' g, o ≠ o' → st.σ o ≠ .dead → st.σ o' ≠ .dead → blk (β o).1 = some g → blk (β o').1 ≠ some g
  nx : ∀ o, st.nx ≤ o → st.σ o = .dead ∧ (β o).1 = .nilFunc
  glob : ∀ g, R M (st.G g) β0 (.pointer (some ⟨g, 0, none⟩))

structure SatM (X : Ctx) (M : Imm) (β : Env) (st : St) (a : Act) (w : World) : Prop where
  nodef : a.defers = []
  size : a.tmps.size = st.N
  tmps : ∀ t, R M (st.T t) β (a.tmps.getD t undef)
  mem : Mem X M β st w

def Sat (X : Ctx) (st : St) (a : Act) (w : World) : Prop := ∃ M β, SatM X M β st a w

def St.put (st : St) (d : Option Tmp) (v : V) : St :=
  match d with
  | some d => { st with T := fun t => if t = d then v else st.T t }
  | none => st

def St.fits (st : St) (d : Option Tmp) : Prop :=
  match d with
  | some d => d < st.N
  | none => True

def ev (st : St) : Operand → V
  | .tmp t => st.T t
  | .const v => .raw v
  | .global g => st.G g
  | .func f => .raw (.func (.func f) #[] #[])

theorem ev_sound {X : Ctx} {M : Imm} {β : Env} {st : St} {a : Act} {w : World} (h : SatM X M β st a w) (x : Operand) : R M (ev st x) β (a.eval x) := by
  cases x with
  | tmp t => exact h.tmps t
  | const v => rfl
  | global g => exact R.imm (EnvLe.of0 β) (h.mem.glob g)
  | func f => rfl

theorem Mem.of_same {X : Ctx} {M : Imm} {β : Env} {st st' : St} {w : World} (h : Mem X M β st w) (h1 : st'.σ = st.σ) (h2 : st'.nx = st.nx) (h3 : st'.G = st.G) : Mem X M β st' w := by
  obtain ⟨a1, a2, a3, a4, a5, a6, a7, a8, a9⟩ := h
  exact ⟨a1, a2, a3, a4, by rw [h1]; exact a5, by rw [h1]; exact a6, by rw [h1]; exact a7, by rw [h1, h2]; exact a8, by rw [h3]; exact a9⟩

theorem put_σ (st : St) (d : Option Tmp) (v : V) : (st.put d v).σ = st.σ := by cases d <;> rfl
theorem put_nx (st : St) (d : Option Tmp) (v : V) : (st.put d v).nx = st.nx := by cases d <;> rfl
theorem put_G (st : St) (d : Option Tmp) (v : V) : (st.put d v).G = st.G := by cases d <;> rfl
theorem put_N (st : St) (d : Option Tmp) (v : V) : (st.put d v).N = st.N := by cases d <;> rfl

theorem Act.size_put (a : Act) (d : Option Tmp) (v : Value) : (a.put d v).tmps.size = a.tmps.size := by cases d <;> simp [Act.put]
theorem Act.defers_put (a : Act) (d : Option Tmp) (v : Value) : (a.put d v).defers = a.defers := by cases d <;> simp [Act.put]
theorem Act.getD_put (a : Act) (d : Nat) (v : Value) (hd : d < a.tmps.size) (t : Nat) : (a.put (some d) v).tmps.getD t undef = if t = d then v else a.tmps.getD t undef := by
  simp only [Act.put, Array.getD_eq_getD_getElem?, Array.getElem?_setIfInBounds]
  by_cases h : t = d
  · subst h; simp [hd]
  · rw [if_neg (fun e => h e.symm), if_neg h]

/-- A result goes into its slot. -/
theorem SatM.put {X : Ctx} {M M' : Imm} {β : Env} {st : St} {a : Act} {w w' : World} (h : SatM X M β st a w) (hM : Imm.Le M M') (hm : Mem X M' β st w') {d : Option Tmp} (hd : st.fits d) {v : V} {u : Value}
    (hr : R M' v β u) : SatM X M' β (st.put d v) (a.put d u) w' := by
  refine ⟨by rw [Act.defers_put]; exact h.nodef, by rw [Act.size_put, put_N]; exact h.size, fun t => ?_, hm.of_same (put_σ _ _ _) (put_nx _ _ _) (put_G _ _ _)⟩
  cases d with
  | none => exact R.up hM (h.tmps t)
  | some d =>
    have hd' : d < a.tmps.size := by rw [h.size]; exact hd
    rw [Act.getD_put a d u hd']
    show R M' (if t = d then v else st.T t) β _
    by_cases e : t = d
    · rw [if_pos e, if_pos e]; exact hr
    · rw [if_neg e, if_neg e]; exact R.up hM (h.tmps t)

/-- A draw turns nothing. -/
theorem Mem.drew {X : Ctx} {M : Imm} {β : Env} {st : St} {w : World} (h : Mem X M β st w) : Mem X M β st w.drew :=
  ⟨h.below.drew, h.cons, h.ext, h.old, h.box, h.vec, h.sep, h.nx, h.glob⟩

/-- What a callee leaves that only adds blocks. -/
theorem Mem.grow {X : Ctx} {M M' : Imm} {β : Env} {st : St} {w w' : World} (h : Mem X M β st w) (hb : Below w.heap.size w w') (hM : Imm.Le M M')
    (hc : ∀ p v, M' p = some v → w'.cell? p = some v ∧ v.oneCell' = true) (ho : ∀ p : Addr, p.block < w.heap.size → M' p = M p) : Mem X M' β st w' := by
  have hsz : X.w0.heap.size ≤ w.heap.size := h.below.size
  refine ⟨h.below.trans (hb.mono hsz), hc, h.ext.trans hM, fun p hp => (ho p (Nat.lt_of_lt_of_le hp hsz)).trans (h.old p hp), ?_, ?_, h.sep, h.nx, fun g => R.up hM (h.glob g)⟩
  · intro o t n c ho'
    obtain ⟨g, cs, h1, h2, h3, h4, h5, h6⟩ := h.box o t n c ho'
    have hg : g < w.heap.size := by
      rcases Nat.lt_or_ge g w.heap.size with hlt | hge
      · exact hlt
      · rw [Array.getElem?_eq_none hge] at h3; cases h3
    exact ⟨g, cs, h1, h2, (hb.block g hg).trans h3, h4, fun j hj => ⟨(h5 j hj).1, R.up hM (h5 j hj).2⟩, fun off s => (ho ⟨g, off, s⟩ hg).trans (h6 off s)⟩
  · intro o e sz n fz f ho'
    obtain ⟨xs, h1, h2, h3, h4⟩ := h.vec o e sz n fz f ho'
    have hlt : ∀ g, (β o).1.ownBlock = some g → g < w.heap.size := fun g hg => (h1.lt g hg).2
    have hown : ∀ g, blk (β o).1 = some g → (β o).1.ownBlock = some g := by
      intro g hg
      rcases h1.2 with ⟨hv, _⟩ | ⟨g', cap, cur, hv, _⟩
      · rw [hv] at hg; simp [blk] at hg
      · rw [hv] at hg ⊢; simpa [blk, Value.ownBlock] using hg
    refine ⟨xs, h1.kept (row := none) ⟨hb.os, hb.tape, hb.output, hb.size, fun k hk _ => hb.block k hk⟩ ?_, h2, fun i j hi hj => ?_, fun g hg off s hoff => ?_⟩
    · cases hq : (β o).1.ownBlock with
      | none => exact .inl rfl
      | some q => exact .inr (by simp)
    · obtain ⟨v, e1, e2, e3⟩ := h3 i j hi hj
      exact ⟨v, e1, e2, R.up hM e3⟩
    · exact (ho ⟨g, off, s⟩ (hlt g (hown g hg))).trans (h4 g hg off s hoff)

end Go.Proofs.YtfnfbdccmggfoaaGreatDoor.Pg
