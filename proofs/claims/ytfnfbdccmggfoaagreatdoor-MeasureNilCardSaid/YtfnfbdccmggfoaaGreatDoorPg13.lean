/-
  A function's contract out of its body; what may be forgotten of a state.
-/
import Derived.Test.YtfnfbdccmggfoaaGreatDoorPg12
set_option linter.unusedSimpArgs false
set_option linter.unusedVariables false
namespace Go.Proofs.YtfnfbdccmggfoaaGreatDoor.Pg
open Go.RowKit

/-- a says at least as much as 'b'. -/
def VLe (a b : V) : Prop := ∀ (M : Imm) (u : Value), R M a β0 u → R M b β0 u

theorem VLe.refl (a : V) : VLe a a := fun _ _ h => h
theorem VLe.trans {a b c : V} (h : VLe a b) (k : VLe b c) : VLe a c := fun M u x => k M u (h M u x)
theorem VLe.any (a : V) : VLe a .any := fun _ _ _ => trivial
theorem VLe.sl {sz n : Nat} {f g : Nat → Nat → V} (h : ∀ i j, i < n → j < sz → VLe (f i j) (g i j)) : VLe (.sl sz n f) (.sl sz n g) := fun M u ⟨A, cap, h1, h2, h3, h4⟩ =>
  ⟨A, cap, h1, h2, h3, fun hn => let ⟨ad, ha, hf⟩ := h4 hn; ⟨ad, ha, fun i hi j hj => let ⟨v, hv, hr⟩ := hf i hi j hj; ⟨v, hv, h i j hi hj M v hr⟩⟩⟩
theorem VLe.agg {n : Nat} {f g : Nat → V} (h : ∀ j, j < n → VLe (f j) (g j)) : VLe (.agg n f) (.agg n g) := fun M u ⟨cs, h1, h2, h3⟩ => ⟨cs, h1, h2, fun j hj => ⟨(h3 j hj).1, h j hj M _ (h3 j hj).2⟩⟩
theorem VLe.tup {n : Nat} {f g : Nat → V} (h : ∀ j, j < n → VLe (f j) (g j)) : VLe (.tup n f) (.tup n g) := fun M u ⟨cs, h1, h2, h3⟩ => ⟨cs, h1, h2, fun j hj => h j hj M _ (h3 j hj)⟩
theorem VLe.nil {sz : Nat} {f : Nat → Nat → V} : VLe (.raw (.slice none 0 0)) (.sl sz 0 f) := fun _ _ h => ⟨none, 0, h, Nat.le_refl _, by simp [maxLen], fun h => by omega⟩
theorem VLe.e0 {sz : Nat} {f : Nat → Nat → V} : VLe .e0 (.sl sz 0 f) := fun _ _ ⟨A, h⟩ => ⟨A, 0, h, Nat.le_refl _, by simp [maxLen], fun h => by omega⟩

def St.enter (N : Nat) (G : Nat → V) (args : List V) : St := { N, T := fun t => (args[t]?).getD .any, nx := 0, σ := fun _ => .dead, G }

/-- One result. -/
def resV (P : Program) (st : St) : ResultVar → Option (Prop × V)
  | .tmp t => some (True, st.T t)
  | .cell t ty => loadV st (shapeOf P ty) (st.T t)

def resL (P : Program) (st : St) : List ResultVar → Option (Prop × List V)
  | [] => some (True, [])
  | x :: xs => match resV P st x, resL P st xs with
    | some (c, v), some (c', vs) => some (c ∧ c', v :: vs)
    | _, _ => none

/-- The results read as r. -/
def ResOK (P : Program) (rs : List ResultVar) (st : St) (r : V) : Prop :=
  match rs with
  | [x] => match resV P st x with
    | some (c, v) => c ∧ VLe (snap st v) r
    | none => False
  | rs => match resL P st rs with
    | some (c, vs) => c ∧ VLe (.tup vs.length fun j => snap st (vs.getD j .any)) r
    | none => False

def Ret (P : Program) (rs : List ResultVar) (r : V) : Exit → St → Prop := fun e st =>
  match e with
  | .normal => ResOK P rs st r
  | .ret => ResOK P rs st r
  | _ => False

section
variable {P : Program}

theorem resV_sound {X : Ctx} {M : Imm} {β : Env} {st : St} {a : Act} {w : World} (hs : SatM X M β st a w) {x : ResultVar} {c : Prop} {v : V} (h : resV P st x = some (c, v)) (hc : c) :
    ∃ u, (match x with | .tmp t => pure (a.tmps.getD t undef) | .cell p t => do loadVar t (← asAddr (a.tmps.getD p undef)) : Sem Value).run P w = .ok u w ∧ R M v β u := by
  cases x with
  | tmp t =>
    simp only [resV, Option.some.injEq, Prod.mk.injEq] at h
    obtain ⟨rfl, rfl⟩ := h
    exact ⟨_, rfl, hs.tmps t⟩
  | cell p t =>
    obtain ⟨u, h1, h2⟩ := loadV_sound (P := P) h hc X M β w _ hs.mem (hs.tmps p)
    refine ⟨u, ?_, h2⟩
    have hptr : ∃ ad, a.tmps.getD p undef = .pointer (some ad) := by
      have := hs.tmps p
      simp only [resV] at h
      unfold loadV at h
      split at h
      · rename_i o i j _ hp; rw [hp] at this; obtain ⟨g, _, e⟩ := this; exact ⟨_, e⟩
      · rename_i q o i j _ hp; rw [hp] at this; obtain ⟨g, _, e⟩ := this; exact ⟨_, e⟩
      · rename_i n c' _ hp; rw [hp] at this; obtain ⟨ad, e, _⟩ := this; exact ⟨_, e⟩
      · rename_i q n c' _ hp; rw [hp] at this; obtain ⟨ad, e, _⟩ := this; exact ⟨_, e⟩
      · cases h
    obtain ⟨ad, had⟩ := hptr
    rw [had] at h1
    dsimp only
    rw [had]
    simpa [asAddr, Instr.loadAt, Instr.sureAddr] using h1

theorem resL_sound {X : Ctx} {M : Imm} {β : Env} {st : St} {a : Act} {w : World} (hs : SatM X M β st a w) : ∀ {rs : List ResultVar} {c : Prop} {vs : List V}, resL P st rs = some (c, vs) → c →
    ∃ us : List Value, (rs.mapM fun x => (match x with | .tmp t => pure (a.tmps.getD t undef) | .cell p t => do loadVar t (← asAddr (a.tmps.getD p undef)) : Sem Value)).run P w = .ok us w ∧ us.length = vs.length ∧ vs.length = rs.length ∧ ∀ j, j < vs.length → R M (vs.getD j .any) β (us.getD j undef)
  | [], c, vs, h, hc => by
    simp only [resL, Option.some.injEq, Prod.mk.injEq] at h
    obtain ⟨rfl, rfl⟩ := h
    exact ⟨[], rfl, rfl, rfl, fun j hj => by simp at hj⟩
  | x :: xs, c, vs, h, hc => by
    simp only [resL] at h
    cases h1 : resV P st x with
    | none => simp [h1] at h
    | some p =>
      obtain ⟨c1, v⟩ := p
      cases h2 : resL P st xs with
      | none => simp [h1, h2] at h
      | some q =>
        obtain ⟨c2, vs'⟩ := q
        simp only [h1, h2, Option.some.injEq, Prod.mk.injEq] at h
        obtain ⟨rfl, rfl⟩ := h
        obtain ⟨u, r1, r2⟩ := resV_sound hs h1 hc.1
        obtain ⟨us, s1, s2, s3, s4⟩ := resL_sound hs h2 hc.2
        refine ⟨u :: us, ?_, by simp [s2], by simp [s3], fun j hj => ?_⟩
        · rw [List.mapM_cons, Sem.run_bind, r1, Result.andThen_ok, Sem.run_bind, s1]
          rfl
        · cases j with
          | zero => exact r2
          | succ j => exact s4 j (by simpa using hj)

def packV : List Value → Value
  | [u] => u
  | us => .tuple us.toArray

theorem run_results (fn : Func) (tmps : Array Value) (w : World) {us : List Value}
    (h : (fn.results.toList.mapM fun x => (match x with | .tmp t => pure (tmps.getD t undef) | .cell p t => do loadVar t (← asAddr (tmps.getD p undef)) : Sem Value)).run P w = .ok us w) :
    (results fn tmps).run P w = .ok (packV us) w := by
  have hm : (fn.results.mapM fun x => (match x with | .tmp t => pure (tmps.getD t undef) | .cell p t => do loadVar t (← asAddr (tmps.getD p undef)) : Sem Value)).run P w = .ok us.toArray w := by
    rw [Array.mapM_eq_mapM_toList, Sem.run_map, h]; rfl
  have hr : (results fn tmps).run P w = ((fn.results.mapM fun x => (match x with | .tmp t => pure (tmps.getD t undef) | .cell p t => do loadVar t (← asAddr (tmps.getD p undef)) : Sem Value)).run P w).andThen fun vs w' => (pure (if h : vs.size = 1 then vs[0] else .tuple vs) : Sem Value).run P w' := by
    unfold results
    rw [Sem.run_bind]
    rfl
  rw [hr, hm]
  simp only [Result.andThen_ok, Sem.run_pure]
  clear hr hm h
  cases us with
  | nil => rfl
  | cons u us =>
    cases us with
    | nil => rfl
    | cons v us =>
      have : ¬ ((u :: v :: us).toArray.size = 1) := by simp
      rw [dif_neg this]
      rfl

/-- What is there at the end, as memory that stays. -/
noncomputable def endM (X : Ctx) (M : Imm) (w : World) : Imm := fun p => if p.block < X.w0.heap.size then M p else allOf w p

theorem endM_le {X : Ctx} {M : Imm} {β : Env} {st : St} {w : World} (hm : Mem X M β st w) : Imm.Le M (endM X M w) := ⟨fun p v h => by
  unfold endM
  split
  · exact h
  · exact (allOf_le hm.cons).le p v h⟩

/-- THE CONTRACT OUT OF THE BODY. -/
theorem Con.of_body {G : Nat → V} {f : FuncId} {fn : Func} {c : Code} {args : List V} {r : V} (hf : P.funcs[f]? = some fn) (hb : fn.body = some c) (hc : callable P f = true) (hn : args.length ≤ fn.ntmps)
    (h : AW P [.code c] (St.enter fn.ntmps G args) (Ret P fn.results.toList r)) : Con P G f args r := by
  refine ⟨hc, fun w M cargs hcons hG hsz hargs => ?_⟩
  refine calls_of_wp hf hb ?_
  let X : Ctx := ⟨w, M⟩
  have hget : ∀ t, (cargs ++ Array.replicate (fn.ntmps - cargs.size) undef).getD t undef = cargs.getD t undef := by
    intro t
    simp only [Array.getD_eq_getD_getElem?, Array.getElem?_append, Array.getElem?_replicate]
    split
    · rfl
    · rename_i h1
      rw [Array.getElem?_eq_none (by omega)]
      split <;> rfl
  have hsat : Sat X (St.enter fn.ntmps G args) { tmps := cargs ++ Array.replicate (fn.ntmps - cargs.size) undef, defers := [] } w := by
    refine ⟨M, β0, rfl, by simp [St.enter]; omega, fun t => ?_, ?_⟩
    · rw [hget]
      show R M ((args[t]?).getD .any) β0 _
      cases ha : args[t]? with
      | none => trivial
      | some v => exact hargs t v ha
    · exact ⟨Below.refl _ _, hcons, Imm.Le.refl M, fun _ _ => rfl, (fun o t n c h => by cases h), (fun o e sz n fz f h => by cases h), fun o o' g _ h => absurd rfl h, fun o _ => ⟨rfl, rfl⟩, hG⟩
  have hwp := h X _ w hsat
  refine wp_mono hwp fun e a' w' hq => ?_
  obtain ⟨st', hq, M', β', hs⟩ := hq
  have main : ResOK P fn.results.toList st' r → a'.defers = [] ∧ ∃ v, (results fn a'.tmps).run P w' = .ok v w' ∧ ∃ u M'', Ending.returned v = .returned u ∧ Below w.heap.size w w' ∧ Imm.Le M M'' ∧ (∀ p : Addr, p.block < w.heap.size → M'' p = M p) ∧
      (∀ p v, M'' p = some v → w'.cell? p = some v ∧ v.oneCell' = true) ∧ R M'' r β0 u := by
    intro hres
    refine ⟨hs.nodef, ?_⟩
    have up := endM_le hs.mem
    have all : ∀ g off v, X.w0.heap.size ≤ g → w'.cell? ⟨g, off, none⟩ = some v → v.oneCell' = true → endM X M' w' ⟨g, off, none⟩ = some v := by
      intro g off v hg h1 h2
      unfold endM
      rw [if_neg (by show ¬ g < _; omega)]
      exact allOf_of h1 h2
    have hold : ∀ p : Addr, p.block < w.heap.size → endM X M' w' p = M p := fun p hp => by
      unfold endM
      rw [if_pos hp]
      exact hs.mem.old p hp
    have hcons' : ∀ p v, endM X M' w' p = some v → w'.cell? p = some v ∧ v.oneCell' = true := fun p v hp => by
      unfold endM at hp
      split at hp
      · exact hs.mem.cons p v hp
      · exact allOf_cons w' p v hp
    have wrap : ∀ u, R (endM X M' w') r β0 u → ∃ u' M'', Ending.returned u = .returned u' ∧ Below w.heap.size w w' ∧ Imm.Le M M'' ∧ (∀ p : Addr, p.block < w.heap.size → M'' p = M p) ∧ (∀ p v, M'' p = some v → w'.cell? p = some v ∧ v.oneCell' = true) ∧ R M'' r β0 u' :=
      fun u hu => ⟨u, endM X M' w', rfl, hs.mem.below, hs.mem.ext.trans up, hold, hcons', hu⟩
    have multi : ∀ rs, fn.results.toList = rs → (∀ x, rs ≠ [x]) → (match resL P st' rs with | some (c, vs) => c ∧ VLe (.tup vs.length fun j => snap st' (vs.getD j .any)) r | none => False) →
        ∃ v, (results fn a'.tmps).run P w' = .ok v w' ∧ ∃ u M'', Ending.returned v = .returned u ∧ Below w.heap.size w w' ∧ Imm.Le M M'' ∧ (∀ p : Addr, p.block < w.heap.size → M'' p = M p) ∧ (∀ p v, M'' p = some v → w'.cell? p = some v ∧ v.oneCell' = true) ∧ R M'' r β0 u := by
      intro rs hrs hne hres
      cases hl : resL P st' rs with
      | none => rw [hl] at hres; exact hres.elim
      | some p =>
        obtain ⟨c, vs⟩ := p
        rw [hl] at hres
        obtain ⟨us, s1, s2, s3, s4⟩ := resL_sound hs hl hres.1
        have hrun := run_results fn a'.tmps w' (by rw [hrs]; exact s1)
        have hus : packV us = Value.tuple us.toArray := by
          have hl1 : us.length = rs.length := by omega
          clear hrun s4 s1
          cases us with
          | nil => rfl
          | cons u us =>
            cases us with
            | nil =>
              cases rs with
              | nil => simp at hl1
              | cons x rs =>
                cases rs with
                | nil => exact absurd rfl (hne x)
                | cons y rs => simp at hl1
            | cons v us => rfl
        rw [hus] at hrun
        refine ⟨_, hrun, wrap _ (hres.2 _ _ ⟨us.toArray, rfl, by simpa using s2, fun j hj => ?_⟩)⟩
        have e : us.toArray.getD j undef = us.getD j undef := by simp [Array.getD_eq_getD_getElem?, List.getD]
        rw [e]
        exact snap_spec hs.mem up all (s4 j hj)
    unfold ResOK at hres
    split at hres
    · rename_i x hrs
      split at hres
      · rename_i c v hv
        obtain ⟨u, r1, r2⟩ := resV_sound hs hv hres.1
        have hrun := run_results fn a'.tmps w' (us := [u]) (by rw [hrs, List.mapM_cons, Sem.run_bind, r1]; rfl)
        exact ⟨u, hrun, wrap u (hres.2 _ _ (snap_spec hs.mem up all r2))⟩
      · exact hres.elim
    · rename_i rs hne
      exact multi _ rfl (fun x hx => hne x hx) hres
  cases e with
  | normal => exact main hq
  | ret => exact main hq
  | exit id => exact hq.elim
  | goto l => exact hq.elim
  | panic c => exact hq.elim
  | outgrown => exact hq.elim

end
end Go.Proofs.YtfnfbdccmggfoaaGreatDoor.Pg
