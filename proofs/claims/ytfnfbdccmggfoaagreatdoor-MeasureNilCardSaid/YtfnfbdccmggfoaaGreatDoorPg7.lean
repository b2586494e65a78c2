/-
  The operations that make or write memory of the call's own: what they do to a state ('vcS'), and that they do.
-/
import Derived.Test.YtfnfbdccmggfoaaGreatDoorPg6
import Derived.Maps.AppendAt
set_option linter.unusedSimpArgs false
set_option linter.unusedVariables false
namespace Go.Proofs.YtfnfbdccmggfoaaGreatDoor.Pg
open Go.RowKit

def ObOK (X : Ctx) (M : Imm) (β : Env) (w : World) (val : Value × Nat) : Ob → Prop
  | .dead => True
  | .box t n c => ∃ (g : Nat) (cs : Array Value), val.1 = .pointer (some ⟨g, 0, none⟩) ∧ X.w0.heap.size ≤ g ∧ w.heap[g]? = some (.cells cs t (0, 0)) ∧ cs.size = n ∧
      (∀ j, j < n → (cs.getD j undef).oneCell' = true ∧ R M (c j) β (cs.getD j undef)) ∧ ∀ off s, M ⟨g, off, s⟩ = none
  | .vec e sz n fz f => ∃ xs, w.ownsRow X.w0.heap.size e sz val.1 n xs ∧ val.2 = sz ∧
      (∀ i j, i < n → j < sz → ∃ v, xs[i * sz + j]? = some v ∧ v.oneCell' = true ∧ R M (f i j) β0 v) ∧ ∀ g, blk val.1 = some g → ∀ off s, fz * sz ≤ off → M ⟨g, off, s⟩ = none

theorem Mem.ob {X : Ctx} {M : Imm} {β : Env} {st : St} {w : World} (h : Mem X M β st w) (o : Nat) : ObOK X M β w (β o) (st.σ o) := by
  cases ho : st.σ o with
  | dead => trivial
  | box t n c => exact h.box o t n c ho
  | vec e sz n fz f => exact h.vec o e sz n fz f ho

theorem ownBlock_blk {w : World} {base e sz n : Nat} {v : Value} {xs : List Value} (h1 : w.ownsRow base e sz v n xs) {g : Nat} (hg : blk v = some g) : v.ownBlock = some g := by
  rcases h1.2 with ⟨hv, _⟩ | ⟨g', cap, cur, hv, _⟩
  · rw [hv] at hg; simp [blk] at hg
  · rw [hv] at hg ⊢; simpa [blk, Value.ownBlock] using hg

/-- An object that is not touched. -/
theorem ObOK.kept {X : Ctx} {M M' : Imm} {β β' : Env} {w w' : World} {val : Value × Nat} {ob : Ob} {row : Option Nat} (h : ObOK X M β w val ob) (hg : w.grownBy w' row) (hne : ∀ g, blk val.1 = some g → row ≠ some g)
    (hM : Imm.Le M M') (hnew : ∀ g, blk val.1 = some g → ∀ off s, M' ⟨g, off, s⟩ = M ⟨g, off, s⟩) (hb : EnvLe β β') : ObOK X M' β' w' val ob := by
  cases ob with
  | dead => trivial
  | box t n c =>
    obtain ⟨g, cs, h1, h2, h3, h4, h5, h6⟩ := h
    have hgb : blk val.1 = some g := by rw [h1]; rfl
    have hlt : g < w.heap.size := by
      rcases Nat.lt_or_ge g w.heap.size with hlt | hge
      · exact hlt
      · rw [Array.getElem?_eq_none hge] at h3; cases h3
    exact ⟨g, cs, h1, h2, (hg.block g hlt (fun e => hne g hgb e.symm)).trans h3, h4, fun j hj => ⟨(h5 j hj).1, R.mono hM _ hb (h5 j hj).2⟩, fun off s => (hnew g hgb off s).trans (h6 off s)⟩
  | vec e sz n fz f =>
    obtain ⟨xs, h1, h2, h3, h4⟩ := h
    refine ⟨xs, h1.kept hg ?_, h2, fun i j hi hj => ?_, fun g hgb off s hoff => (hnew g hgb off s).trans (h4 g hgb off s hoff)⟩
    · cases hq : val.1.ownBlock with
      | none => exact .inl rfl
      | some q =>
        refine .inr (fun e' => hne q ?_ e'.symm)
        cases hv : val.1 <;> rw [hv] at hq <;> simp only [Value.ownBlock] at hq <;> try (cases hq; done)
        rename_i A m c
        cases A with
        | none => cases hq
        | some ad => simpa [blk] using hq
    · obtain ⟨v, e1, e2, e3⟩ := h3 i j hi hj
      exact ⟨v, e1, e2, R.up hM e3⟩

theorem ObOK.lt {X : Ctx} {M : Imm} {β : Env} {w : World} {val : Value × Nat} {ob : Ob} (h : ObOK X M β w val ob) (hd : ob ≠ .dead) {g : Nat} (hg : blk val.1 = some g) : X.w0.heap.size ≤ g ∧ g < w.heap.size := by
  cases ob with
  | dead => exact absurd rfl hd
  | box t n c =>
    obtain ⟨g', cs, h1, h2, h3, _⟩ := h
    rw [h1] at hg
    obtain rfl : g' = g := by simpa [blk] using hg
    refine ⟨h2, ?_⟩
    rcases Nat.lt_or_ge g' w.heap.size with hlt | hge
    · exact hlt
    · rw [Array.getElem?_eq_none hge] at h3; cases h3
  | vec e sz n fz f =>
    obtain ⟨xs, h1, _⟩ := h
    exact h1.lt g (ownBlock_blk h1 hg)

/-- One object is new or turned, others may go; one row of the call's own may have been written. -/
theorem Mem.change {X : Ctx} {M : Imm} {β β' : Env} {st st' : St} {w w' : World} {row : Option Nat} {d : Nat} (h : Mem X M β st w) (hg : w.grownBy w' row)
    (hrow : ∀ g, row = some g → X.w0.heap.size ≤ g) (hcons : ∀ p v, M p = some v → row = some p.block → w'.cell? p = some v)
    (keep : ∀ o, o ≠ d → st'.σ o ≠ .dead → st'.σ o = st.σ o ∧ β' o = β o ∧ ∀ g, blk (β o).1 = some g → row ≠ some g)
    (hd : ObOK X M β' w' (β' d) (st'.σ d)) (hdb : ∀ o g, o ≠ d → st'.σ o ≠ .dead → st'.σ d ≠ .dead → blk (β' d).1 = some g → blk (β o).1 ≠ some g)
    (hb : EnvLe β β') (hnx : ∀ o, st'.nx ≤ o → st'.σ o = .dead ∧ (β' o).1 = .nilFunc) (hG : st'.G = st.G) : Mem X M β' st' w' := by
  have hsz : X.w0.heap.size ≤ w.heap.size := h.below.size
  have hob : ∀ o, ObOK X M β' w' (β' o) (st'.σ o) := by
    intro o
    by_cases e : o = d
    · subst e; exact hd
    · by_cases hdead : st'.σ o = .dead
      · rw [hdead]; trivial
      · obtain ⟨e1, e2, e3⟩ := keep o e hdead
        rw [e1, e2]
        exact (h.ob o).kept hg e3 (Imm.Le.refl M) (fun _ _ _ _ => rfl) hb
  refine ⟨?_, ?_, h.ext, h.old, ?_, ?_, ?_, hnx, by rw [hG]; exact h.glob⟩
  · refine h.below.trans ⟨hg.os, hg.tape, hg.output, hg.size, fun k hk => hg.block k (by omega) (fun e => ?_)⟩
    have := hrow k e.symm
    omega
  · intro p v hp
    obtain ⟨h1, h2⟩ := h.cons p v hp
    refine ⟨?_, h2⟩
    by_cases e : row = some p.block
    · exact hcons p v hp e
    · rw [← h1]
      exact World.cell?_of_block (hg.block p.block (World.block_lt_of_cell? w p h1) (fun e' => e e'.symm))
  · intro o t n c ho
    have := hob o
    rw [ho] at this
    exact this
  · intro o e sz n fz f ho
    have := hob o
    rw [ho] at this
    exact this
  · intro o o' g hne h1 h2 hb1 hb2
    by_cases e : o = d
    · subst e
      obtain ⟨e1, e2, e3⟩ := keep o' (Ne.symm hne) h2
      exact hdb o' g (Ne.symm hne) h2 h1 hb1 (by rw [← e2]; exact hb2)
    · by_cases e' : o' = d
      · subst e'
        obtain ⟨e1, e2, e3⟩ := keep o e h1
        exact hdb o g e h1 h2 hb2 (by rw [← e2]; exact hb1)
      · obtain ⟨e1, e2, _⟩ := keep o e h1
        obtain ⟨f1, f2, _⟩ := keep o' e' h2
        rw [e1] at h1; rw [f1] at h2; rw [e2] at hb1; rw [f2] at hb2
        exact h.sep o o' g hne h1 h2 hb1 hb2

def upd {α : Type} (f : Nat → α) (d : Nat) (x : α) : Nat → α := fun i => if i = d then x else f i

theorem upd_same {α : Type} (f : Nat → α) (d : Nat) (x : α) : upd f d x d = x := if_pos rfl
theorem upd_ne {α : Type} (f : Nat → α) {d i : Nat} (x : α) (h : i ≠ d) : upd f d x i = f i := if_neg h

theorem grownBy_alloc (w : World) (o : Obj) : w.grownBy (w.alloc o) none :=
  ⟨rfl, rfl, rfl, by simp, fun k hk _ => by
    show (w.heap.push o)[k]? = _
    rw [Array.getElem?_push, if_neg (by omega)]⟩

def St.new (st : St) (ob : Ob) : St := { st with nx := st.nx + 1, σ := upd st.σ st.nx ob }

/-- A new object. -/
theorem Mem.new {X : Ctx} {M : Imm} {β : Env} {st : St} {w w' : World} (h : Mem X M β st w) (hg : w.grownBy w' none) {ob : Ob} {val : Value × Nat}
    (hd : ObOK X M (upd β st.nx val) w' val ob) (hfresh : ∀ g, blk val.1 = some g → w.heap.size ≤ g) : Mem X M (upd β st.nx val) (st.new ob) w' ∧ EnvLe β (upd β st.nx val) := by
  have hle : EnvLe β (upd β st.nx val) := fun o ho => upd_ne β val (fun e => ho (by rw [e]; exact (h.nx st.nx (Nat.le_refl _)).2))
  refine ⟨h.change (d := st.nx) hg (fun g e => by cases e) (fun _ _ _ e => by cases e) ?_ ?_ ?_ hle ?_ rfl, hle⟩
  · intro o hne hdead
    have e : (st.new ob).σ o = st.σ o := upd_ne _ _ hne
    exact ⟨e, upd_ne _ _ hne, fun g _ hr => by cases hr⟩
  · have e : (st.new ob).σ st.nx = ob := upd_same _ _ _
    rw [e, upd_same]; exact hd
  · intro o g hne hdead _ hb hb'
    rw [upd_same] at hb
    have e : (st.new ob).σ o = st.σ o := upd_ne _ _ hne
    rw [e] at hdead
    have := (h.ob o).lt hdead hb'
    have := hfresh g hb
    omega
  · intro o ho
    have hne : o ≠ st.nx := by simp only [St.new] at ho; omega
    have hn := h.nx o (by simp only [St.new] at ho; omega)
    exact ⟨(upd_ne _ _ hne).trans hn.1, by rw [upd_ne _ _ hne]; exact hn.2⟩

theorem SatM.env {X : Ctx} {M : Imm} {β β' : Env} {st st' : St} {a : Act} {w w' : World} (h : SatM X M β st a w) (hm : Mem X M β' st' w') (hb : EnvLe β β') (hT : st'.T = st.T) (hN : st'.N = st.N) : SatM X M β' st' a w' :=
  ⟨h.nodef, by rw [hN]; exact h.size, fun t => by rw [hT]; exact R.imm hb (h.tmps t), hm⟩

/-- M has nothing in blocks that are not there yet. -/
theorem Mem.fresh {X : Ctx} {M : Imm} {β : Env} {st : St} {w : World} (h : Mem X M β st w) {g : Nat} (hg : w.heap.size ≤ g) (off : Nat) (s : Option Nat) : M ⟨g, off, s⟩ = none := by
  cases hm : M ⟨g, off, s⟩ with
  | none => rfl
  | some v =>
    have := World.block_lt_of_cell? w _ (h.cons _ _ hm).1
    simp at this
    omega

/-! ### alloc, box -/

def zeroOf (P : Program) (t : TypeId) : Option (List Value) :=
  match P.info? t with
  | some i => match i.zero with
    | some z => if z.cells.all Value.oneCell' then some z.cells.toList else none
    | none => none
  | none => none

def vcells : V → Option (Nat × (Nat → V))
  | .agg n c => some (n, c)
  | .raw v => if v.oneCell' then some (1, fun _ => .raw v) else none
  | .e0 => some (1, fun _ => .e0)
  | .sl sz n f => some (1, fun _ => .sl sz n f)
  | .cp n c => some (1, fun _ => .cp n c)
  | .ptr o i j => some (1, fun _ => .ptr o i j)
  | .vec o => some (1, fun _ => .vec o)
  | .tup .. | .any => none

theorem cells_one {u : Value} (hu : u.oneCell' = true) : u.cells = #[u] := by cases u <;> first | rfl | (simp [Value.oneCell'] at hu)

theorem vcells_sound {M : Imm} {β : Env} {v : V} {n : Nat} {c : Nat → V} {u : Value} (h : vcells v = some (n, c)) (hr : R M v β u) : CellsOK M β n c u.cells := by
  have one : ∀ (v : V), (u.oneCell' = true) → R M v β u → CellsOK M β 1 (fun _ => v) u.cells := by
    intro v h1 hr
    rw [cells_one h1]
    refine ⟨rfl, fun j hj => ?_⟩
    obtain rfl : j = 0 := by omega
    exact ⟨h1, hr⟩
  cases v with
  | any => cases h
  | tup n c => cases h
  | raw x =>
    simp only [vcells] at h
    split at h
    · rename_i hx
      simp only [Option.some.injEq, Prod.mk.injEq] at h
      obtain ⟨rfl, rfl⟩ := h
      exact one _ (by rw [show u = x from hr]; exact hx) hr
    · cases h
  | e0 =>
    simp only [vcells, Option.some.injEq, Prod.mk.injEq] at h
    obtain ⟨rfl, rfl⟩ := h
    exact one _ (by obtain ⟨A, e⟩ := hr; rw [e]; rfl) hr
  | sl sz n f =>
    simp only [vcells, Option.some.injEq, Prod.mk.injEq] at h
    obtain ⟨rfl, rfl⟩ := h
    exact one _ (by obtain ⟨A, cap, e, _⟩ := hr; rw [e]; rfl) hr
  | cp n c =>
    simp only [vcells, Option.some.injEq, Prod.mk.injEq] at h
    obtain ⟨rfl, rfl⟩ := h
    exact one _ (by obtain ⟨A, e, _⟩ := hr; rw [e]; rfl) hr
  | ptr o i j =>
    simp only [vcells, Option.some.injEq, Prod.mk.injEq] at h
    obtain ⟨rfl, rfl⟩ := h
    exact one _ (by obtain ⟨g, _, e⟩ := hr; rw [e]; rfl) hr
  | vec o =>
    simp only [vcells, Option.some.injEq, Prod.mk.injEq] at h
    obtain ⟨rfl, rfl⟩ := h
    exact one _ (by obtain ⟨_, A, n, c, e⟩ := hr; rw [e]; rfl) hr
  | agg n' c' =>
    simp only [vcells, Option.some.injEq, Prod.mk.injEq] at h
    obtain ⟨rfl, rfl⟩ := h
    obtain ⟨cs, rfl, h2, h3⟩ := hr
    exact ⟨h2, h3⟩

theorem CellsOK.env {M : Imm} {β β' : Env} {n : Nat} {c : Nat → V} {cs : Array Value} (h : CellsOK M β n c cs) (hb : EnvLe β β') : CellsOK M β' n c cs := ⟨h.1, fun j hj => ⟨(h.2 j hj).1, R.imm hb (h.2 j hj).2⟩⟩

theorem getElem_alloc_new (w : World) (o : Obj) : (w.alloc o).heap[w.heap.size]? = some o := by
  show (w.heap.push o)[w.heap.size]? = _
  simp

/-- A new box. -/
theorem Mem.newBox {X : Ctx} {M : Imm} {β : Env} {st : St} {w : World} (h : Mem X M β st w) {t : TypeId} {n : Nat} {c : Nat → V} {cs : Array Value} (hc : CellsOK M β n c cs) :
    Mem X M (upd β st.nx (.pointer (some ⟨w.heap.size, 0, none⟩), 0)) (st.new (.box t n c)) (w.alloc (.cells cs t)) ∧ EnvLe β (upd β st.nx (.pointer (some ⟨w.heap.size, 0, none⟩), 0)) := by
  have hle : EnvLe β (upd β st.nx (.pointer (some ⟨w.heap.size, 0, none⟩), 0)) := fun o ho => upd_ne β _ (fun e => ho (by rw [e]; exact (h.nx st.nx (Nat.le_refl _)).2))
  refine h.new (grownBy_alloc w _) ⟨w.heap.size, cs, rfl, h.below.size, getElem_alloc_new w _, hc.1, fun j hj => ⟨(hc.2 j hj).1, R.imm hle (hc.2 j hj).2⟩, fun off s => h.fresh (Nat.le_refl _) off s⟩ (fun g hg => ?_)
  have : w.heap.size = g := by simpa [blk] using hg
  omega

/-! ### stores -/

theorem run_storeCells_row {P : Program} {g : Nat} {t : TypeId} : ∀ (vs : List Value) (k off : Nat) (w : World) (cs : Array Value), w.heap[g]? = some (.cells cs t (0, 0)) → off + k + vs.length ≤ cs.size → (∀ v ∈ vs, v.oneCell' = true) →
    ∃ w' cs', (storeCells ⟨g, off, none⟩ vs k).run P w = .ok () w' ∧ w'.heap[g]? = some (.cells cs' t (0, 0)) ∧ cs'.size = cs.size ∧ w.grownBy w' (some g) ∧
      ∀ j, cs'.getD j undef = if off + k ≤ j ∧ j < off + k + vs.length then vs.getD (j - (off + k)) undef else cs.getD j undef
  | [], k, off, w, cs, hg, _, _ => ⟨w, cs, rfl, hg, rfl, ⟨rfl, rfl, rfl, Nat.le_refl _, fun _ _ _ => rfl⟩, fun j => by simp only [List.length_nil]; rw [if_neg (by omega)]⟩
  | v :: vs, k, off, w, cs, hg, hle, h1 => by
    simp only [List.length_cons] at hle
    have hv := h1 v (by simp)
    have hk : off + k < cs.size := by omega
    have hcell : w.cell? ⟨g, off + k, none⟩ = some (cs.getD (off + k) undef) := cell_of_block w hg hk
    have hfr : w.frozen? ⟨g, off + k, none⟩ = false := by simp [World.frozen?, hg]
    have hset : (w.setCell ⟨g, off + k, none⟩ v).heap[g]? = some (.cells (cs.setIfInBounds (off + k) v) t (0, 0)) := by
      simp [World.setCell, Array.getElem?_modify, hg]
    obtain ⟨w', cs', r1, r2, r3, r4, r5⟩ := run_storeCells_row vs (k + 1) off (w.setCell ⟨g, off + k, none⟩ v) (cs.setIfInBounds (off + k) v) hset (by simp; omega) (fun u hu => h1 u (by simp [hu]))
    refine ⟨w', cs', ?_, r2, by simpa using r3, ⟨r4.os, r4.tape, r4.output, by simpa [World.setCell] using r4.size, fun q hq hne => ?_⟩, fun j => ?_⟩
    · simp only [storeCells, Sem.run_bind, add_none, run_store P w _ v .plain hv, hcell, hfr, Bool.false_eq_true, if_false, Result.andThen_ok]
      exact r1
    · rw [r4.block q (by simpa [World.setCell] using hq) hne]
      exact Below.heap_setCell w ⟨g, off + k, none⟩ v q (fun e => hne (by rw [e]))
    · rw [r5, List.length_cons]
      by_cases hj : j = off + k
      · subst hj
        rw [if_neg (by omega), if_pos (by omega)]
        simp [Array.getD_eq_getD_getElem?, hk]
      · by_cases hb : off + k ≤ j ∧ j < off + k + (vs.length + 1)
        · rw [if_pos (by omega), if_pos hb]
          have e : j - (off + k) = (j - (off + (k + 1))) + 1 := by omega
          rw [e]; simp [List.getD]
        · rw [if_neg (by omega), if_neg hb]
          simp only [Array.getD_eq_getD_getElem?, Array.getElem?_setIfInBounds]
          rw [if_neg (fun e => hj e.symm)]

end Go.Proofs.YtfnfbdccmggfoaaGreatDoor.Pg
