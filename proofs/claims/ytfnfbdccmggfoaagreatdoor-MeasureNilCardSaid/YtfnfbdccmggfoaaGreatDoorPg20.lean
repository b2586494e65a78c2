/-
  A row of one's own, from now on never written: it turns into memory that stays.
-/
import Derived.Test.YtfnfbdccmggfoaaGreatDoorPg16
set_option linter.unusedSimpArgs false
set_option linter.unusedVariables false
namespace Go.Proofs.YtfnfbdccmggfoaaGreatDoor.Pg
open Go.RowKit

/-- What held the row o holds memory that stays; pointers into it are given up. -/
def frz (o sz n : Nat) (f : Nat → Nat → V) : V → V
  | .vec p => if p = o then .sl sz n f else .vec p
  | .ptr p i j => if p = o then .any else .ptr p i j
  | .agg m c => .agg m fun j => frz o sz n f (c j)
  | .tup m c => .tup m fun j => frz o sz n f (c j)
  | v => v

def frzOb (o sz n : Nat) (f : Nat → Nat → V) : Ob → Ob
  | .box t m c => .box t m fun j => frz o sz n f (c j)
  | ob => ob

def frzT (o sz n : Nat) (f : Nat → Nat → V) (T : Nat → V) : Nat → V := fun t => frz o sz n f (T t)
def frzS (o sz n : Nat) (f : Nat → Nat → V) (σ : Nat → Ob) : Nat → Ob := fun p => if p = o then .dead else frzOb o sz n f (σ p)
def St.frozenAt (st : St) (o sz n : Nat) (f : Nat → Nat → V) : St := ⟨st.N, frzT o sz n f st.T, st.nx, frzS o sz n f st.σ, st.G⟩

theorem frz_sound {M M' : Imm} (hM : Imm.Le M M') {β : Env} {o sz n : Nat} {f : Nat → Nat → V} (hs : R M' (.sl sz n f) β (β o).1) : ∀ (v : V) {u : Value}, R M v β u → R M' (frz o sz n f v) β u
  | .vec p, u, h => by
    unfold frz
    split
    · rename_i e
      subst e
      obtain ⟨rfl, _⟩ := h
      exact hs
    · exact R.up hM h
  | .ptr p i j, u, h => by
    unfold frz
    split
    · trivial
    · exact R.up hM h
  | .agg m c, u, ⟨cs, h1, h2, h3⟩ => by
    unfold frz
    exact ⟨cs, h1, h2, fun j hj => ⟨(h3 j hj).1, frz_sound hM hs (c j) (h3 j hj).2⟩⟩
  | .tup m c, u, ⟨cs, h1, h2, h3⟩ => by
    unfold frz
    exact ⟨cs, h1, h2, fun j hj => frz_sound hM hs (c j) (h3 j hj)⟩
  | .any, u, h => trivial
  | .raw v, u, h => h
  | .e0, u, h => h
  | .sl a b g, u, h => by
    have : frz o sz n f (.sl a b g) = .sl a b g := by unfold frz; rfl
    rw [this]; exact R.mono hM (.sl a b g) (EnvLe.refl _) h
  | .cp a g, u, h => by
    have : frz o sz n f (.cp a g) = .cp a g := by unfold frz; rfl
    rw [this]; exact R.mono hM (.cp a g) (EnvLe.refl _) h

theorem sat_freeze {X : Ctx} {st : St} {a : Act} {w : World} (o : Nat) {e : TypeId} {sz n fz : Nat} {f : Nat → Nat → V} (ho : st.σ o = .vec e sz n fz f) (h : Sat X st a w) : Sat X (st.frozenAt o sz n f) a w := by
  obtain ⟨M, β, hs⟩ := h
  have hm := hs.mem
  obtain ⟨xs, h1, h2, h3, h4⟩ := hm.vec o e sz n fz f ho
  -- all in one: the new memory, and that the row reads as a slice of it
  have key : ∃ M', Imm.Le M M' ∧ (∀ p v, M' p = some v → w.cell? p = some v ∧ v.oneCell' = true) ∧ (∀ p : Addr, p.block < X.w0.heap.size → M' p = M p) ∧ R M' (.sl sz n f) β (β o).1 ∧
      (∀ g, blk (β o).1 ≠ some g → ∀ off s, M' ⟨g, off, s⟩ = M ⟨g, off, s⟩) := by
    rcases h1.2 with ⟨hv, hn⟩ | ⟨g, cap, cur, hv, hg, hh, hc, hmx, hsz, ht⟩
    · exact ⟨M, Imm.Le.refl M, hm.cons, fun _ _ => rfl, ⟨none, 0, by rw [hv, hn], by omega, by simp [maxLen], fun h => by omega⟩, fun _ _ _ _ => rfl⟩
    · let M' : Imm := fun p => if p.block = g then allOf w p else M p
      have up : Imm.Le M M' := ⟨fun p v hp => by
        show (if p.block = g then allOf w p else M p) = some v
        split
        · exact (allOf_le hm.cons).le p v hp
        · exact hp⟩
      refine ⟨M', up, fun p v hp => ?_, fun p hp => ?_, ?_, fun g' hg' off s => ?_⟩
      · have hp' : (if p.block = g then allOf w p else M p) = some v := hp
        split at hp'
        · exact allOf_cons w p v hp'
        · exact hm.cons p v hp'
      · show (if p.block = g then allOf w p else M p) = M p
        rw [if_neg (by omega)]
      · refine ⟨_, cap, hv, hc, hmx, fun _ => ⟨_, rfl, fun i hi j hj => ?_⟩⟩
        obtain ⟨v, e1, e2, e3⟩ := hm.cellVec ho hi hj (g := g) (by rw [hv]; rfl)
        refine ⟨v, ?_, R.up up e3⟩
        show (if ((⟨g, 0, none⟩ : Addr).add (i * sz + j)).block = g then allOf w ((⟨g, 0, none⟩ : Addr).add (i * sz + j)) else M ((⟨g, 0, none⟩ : Addr).add (i * sz + j))) = some v
        rw [add_none, if_pos rfl, Nat.zero_add]
        rw [h2] at e1
        exact allOf_of e1 e2
      · show (if g' = g then allOf w ⟨g', off, s⟩ else M ⟨g', off, s⟩) = _
        rw [if_neg]
        intro e'
        subst e'
        exact hg' (by rw [hv]; rfl)
  obtain ⟨M', up, hcons, hold, hsl, hout⟩ := key
  have hne : ∀ p, p ≠ o → st.σ p ≠ .dead → ∀ g, blk (β p).1 = some g → blk (β o).1 ≠ some g := fun p hp hd g hg => hm.sep p o g hp hd (by rw [ho]; simp) hg
  refine ⟨M', β, hs.nodef, hs.size, fun t => frz_sound up hsl _ (hs.tmps t), ?_⟩
  refine ⟨hm.below, hcons, hm.ext.trans up, fun p hp => (hold p hp).trans (hm.old p hp), ?_, ?_, ?_, ?_, fun g => R.up up (hm.glob g)⟩
  · intro p t m c hp
    have hp' : (if p = o then Ob.dead else frzOb o sz n f (st.σ p)) = .box t m c := hp
    split at hp'
    · cases hp'
    · rename_i hpo
      cases hσ : st.σ p with
      | dead => rw [hσ] at hp'; cases hp'
      | vec => rw [hσ] at hp'; cases hp'
      | box t' m' c' =>
        rw [hσ] at hp'
        simp only [frzOb, Ob.box.injEq] at hp'
        obtain ⟨rfl, rfl, rfl⟩ := hp'
        obtain ⟨g, cs, b1, b2, b3, b4, b5, b6⟩ := hm.box p _ _ _ hσ
        refine ⟨g, cs, b1, b2, b3, b4, fun j hj => ⟨(b5 j hj).1, frz_sound up hsl _ (b5 j hj).2⟩, fun off s => ?_⟩
        rw [hout g (hne p hpo (by rw [hσ]; simp) g (by rw [b1]; rfl))]
        exact b6 off s
  · intro p e' sz' n' fz' f' hp
    have hp' : (if p = o then Ob.dead else frzOb o sz n f (st.σ p)) = .vec e' sz' n' fz' f' := hp
    split at hp'
    · cases hp'
    · rename_i hpo
      cases hσ : st.σ p with
      | dead => rw [hσ] at hp'; cases hp'
      | box => rw [hσ] at hp'; cases hp'
      | vec e2 sz2 n2 fz2 f2 =>
        rw [hσ] at hp'
        simp only [frzOb, Ob.vec.injEq] at hp'
        obtain ⟨rfl, rfl, rfl, rfl, rfl⟩ := hp'
        obtain ⟨ys, k1, k2, k3, k4⟩ := hm.vec p _ _ _ _ _ hσ
        refine ⟨ys, k1, k2, fun i j hi hj => ?_, fun g hg off s hoff => ?_⟩
        · obtain ⟨v, e1, e2, e3⟩ := k3 i j hi hj
          exact ⟨v, e1, e2, R.up up e3⟩
        · rw [hout g (hne p hpo (by rw [hσ]; simp) g hg)]
          exact k4 g hg off s hoff
  · intro p q g hpq hp hq
    have alive : ∀ p, (if p = o then Ob.dead else frzOb o sz n f (st.σ p)) ≠ .dead → st.σ p ≠ .dead := by
      intro p hp he
      rw [he] at hp
      split at hp <;> exact hp rfl
    exact hm.sep p q g hpq (alive p hp) (alive q hq)
  · intro p hp
    obtain ⟨d1, d2⟩ := hm.nx p hp
    refine ⟨?_, d2⟩
    show (if p = o then Ob.dead else frzOb o sz n f (st.σ p)) = .dead
    rw [d1]
    split <;> rfl

theorem aw_freeze {P : Program} {k : List It} {st : St} {Q : Exit → St → Prop} (o : Nat) {e : TypeId} {sz n fz : Nat} {f : Nat → Nat → V} (ho : st.σ o = .vec e sz n fz f) (h : AW P k (st.frozenAt o sz n f) Q) : AW P k st Q :=
  fun X a w hs => h X a w (sat_freeze o ho hs)

end Go.Proofs.YtfnfbdccmggfoaaGreatDoor.Pg
