/-
  Regions: in the order of the text; and those that draw their order, where the operations but the last ones are quiet.
-/
import Derived.Test.YtfnfbdccmggfoaaGreatDoorPg9
set_option linter.unusedSimpArgs false
set_option linter.unusedVariables false
namespace Go.Proofs.YtfnfbdccmggfoaaGreatDoor.Pg
open Go.RowKit

/-- New cells that are never written: they go to the memory that stays. -/
theorem Mem.freeze {X : Ctx} {M : Imm} {β : Env} {st : St} {w w' : World} (h : Mem X M β st w) (hg : w.grownBy w' none) (M' : Imm) (hM' : M' = fun p => if p.block = w.heap.size then allOf w' p else M p) : Imm.Le M M' ∧ Mem X M' β st w' := by
  have hsz : X.w0.heap.size ≤ w.heap.size := h.below.size
  have hlt : ∀ p v, M p = some v → p.block < w.heap.size := fun p v e => World.block_lt_of_cell? w p (h.cons p v e).1
  have hle : Imm.Le M M' := ⟨fun p v e => by
    subst hM'
    show (if p.block = w.heap.size then _ else _) = _
    rw [if_neg (by have := hlt p v e; omega)]; exact e⟩
  have hob : ∀ o, ObOK X M' β w' (β o) (st.σ o) := by
    intro o
    by_cases hd : st.σ o = .dead
    · rw [hd]; trivial
    · refine (h.ob o).kept hg (fun _ _ e => by cases e) hle (fun g hb off s => ?_) (EnvLe.refl β)
      have := ((h.ob o).lt hd hb).2
      subst hM'
      show (if g = w.heap.size then _ else _) = _
      rw [if_neg (by omega)]
  refine ⟨hle, ?_, ?_, h.ext.trans hle, ?_, ?_, ?_, h.sep, h.nx, fun g => R.mono hle _ (EnvLe.refl _) (h.glob g)⟩
  · exact h.below.trans ⟨hg.os, hg.tape, hg.output, hg.size, fun k hk => hg.block k (by omega) (by simp)⟩
  · intro p v hp
    by_cases e : p.block = w.heap.size
    · subst hM'
      have hp' : allOf w' p = some v := by rw [← hp]; exact (if_pos e).symm
      exact allOf_cons _ _ _ hp'
    · have hp' : M p = some v := by rw [← hp]; subst hM'; exact (if_neg e).symm
      obtain ⟨h1, h2⟩ := h.cons p v hp'
      exact ⟨by rw [← h1]; exact World.cell?_of_block (hg.block p.block (hlt p v hp') (by simp)), h2⟩
  · intro p hp
    subst hM'
    show (if p.block = w.heap.size then _ else _) = _
    rw [if_neg (by omega)]
    exact h.old p hp
  · intro o t n c ho
    have := hob o
    rw [ho] at this
    exact this
  · intro o e sz n fz f ho
    have := hob o
    rw [ho] at this
    exact this

/-- A quiet operation of a region that draws: a slice literal too, whose cells are then never written. -/
def vcD (P : Program) (st : St) (op : Op) (K : V → Prop) : Prop :=
  match op with
  | .buildSlice t len parts => match sliceOf P t with
    | some (_, sz, _, z) => len * sz ≤ 16777216 ∧ match fillE sz len (parts.toList.map fun p => (p.1, ev st p.2)) (fun _ => rawCells z) with
      | some f => K (.sl sz len f)
      | none => False
    | none => False
  | op => vcC P st op K

theorem vcD_sound {P : Program} {st : St} {o : Oper} {K : V → Prop} (h : vcD P st o.op K) : ∃ r, K r ∧ OpOK P st o r := by
  by_cases hb : ∃ t len parts, o.op = .buildSlice t len parts
  · obtain ⟨t, len, parts, ho⟩ := hb
    rw [ho] at h
    simp only [vcD] at h
    split at h
    · rename_i e sz bytes z hsl
      obtain ⟨hle, h⟩ := h
      split at h
      · rename_i f hf
        obtain ⟨i, zv, hu, hi, hz, hsz, hby, hzs, h0, hb0, rfl, hone⟩ := sliceOf_spec hsl
        refine ⟨_, h, fun X M β a w hm hx => ?_⟩
        have hrow0 := zeros_row M zv.cells sz len hzs hone
        obtain ⟨cs, k1, k2⟩ := fillE_sound (M := M) (β := β) sz len _ (parts.toList.map fun p => (p.1, a.eval p.2)) (fun _ => rawCells zv.cells.toList) f _ (by simp) (fun k x hk => by
          simp only [List.getElem?_map, Option.map_eq_some_iff] at hk
          obtain ⟨p, hp, rfl⟩ := hk
          exact ⟨(p.1, a.eval p.2), by simp [hp], rfl, hx p.2 (by rw [ho]; simp [Op.operands]; exact ⟨p.1, by simpa using List.mem_of_getElem? hp⟩)⟩) hrow0 hf
        have hmx : len ≤ maxLen := by
          have : len ≤ len * sz := Nat.le_mul_of_pos_right len h0
          simp only [maxLen]; omega
        obtain ⟨hM, hm'⟩ := hm.freeze (grownBy_alloc w (.cells cs e)) _ rfl
        refine Yields.of_run (w' := w.alloc (.cells cs e)) (v := .slice (some ⟨w.heap.size, 0, none⟩) len len) ?_ ⟨_, hM, ⟨⟨rfl, rfl, rfl, (grownBy_alloc w (.cells cs e)).size, fun k hk => (grownBy_alloc w (.cells cs e)).block k hk (by simp)⟩, hm'.cons, fun p hp => if_neg (by omega)⟩, hm', ?_⟩
        · unfold execOp
          simp only [ho]
          refine run_v ?_
          have hno : ¬ (len * i.size > 2 ^ 24) := by rw [hsz]; omega
          have hzv : (zeroValue e).run P w = .ok zv w := by simp [zeroValue, typeInfo, hi, hz]
          have hmap0 : ∀ g : Nat → Value, (Array.range 0).map g = #[] := fun g => by simp
          simp only [Instr.buildSlice, Sem.run_bind, run_underlying hu, Result.andThen_ok, run_sizeOf_of w hi, if_neg hno]
          simp only [Array.toList_map]
          rw [hsz]
          by_cases hl0 : len * sz = 0
          · rw [if_pos hl0]
            rw [hl0, hmap0] at k1
            simp only [Sem.run_bind, Sem.run_pure, Result.andThen_ok, hl0, hmap0, k1]
            simp [newRow]
          · rw [if_neg hl0]
            simp only [Sem.run_bind, Sem.run_pure, Result.andThen_ok, hzv, k1]
            simp [newRow]
        · refine ⟨_, _, rfl, Nat.le_refl _, hmx, fun _ => ⟨_, rfl, fun i' hi' j hj => ?_⟩⟩
          obtain ⟨g1, g2⟩ := k2
          obtain ⟨e1, e2⟩ := g2 i' j hi' hj
          have hlt : i' * sz + j < cs.size := by rw [g1]; exact row_lt hi' hj
          have hc : (w.alloc (.cells cs e)).cell? ⟨w.heap.size, i' * sz + j, none⟩ = some (cs.getD (i' * sz + j) undef) := by
            have hh : (w.alloc (.cells cs e)).heap[w.heap.size]? = some (.cells cs e) := by
              show (w.heap.push _)[w.heap.size]? = _
              rw [Array.getElem?_push, if_pos rfl]
            unfold World.cell?
            rw [hh]
            simp [Array.getD_eq_getD_getElem?, hlt]
          refine ⟨cs.getD (i' * sz + j) undef, ?_, R.up hM e2⟩
          have ea : (Addr.add ⟨w.heap.size, 0, none⟩ (i' * sz + j)) = ⟨w.heap.size, i' * sz + j, none⟩ := by
            unfold Addr.add
            split
            · rename_i h0; rw [h0]
            · simp
          rw [ea]
          show (if w.heap.size = w.heap.size then _ else _) = _
          rw [if_pos rfl]
          exact allOf_of hc e1
      · exact h.elim
    · exact h.elim
  · have e : vcD P st o.op K = vcC P st o.op K := by
      cases ho : o.op <;> first | rfl | exact absurd ⟨_, _, _, ho⟩ hb
    rw [e] at h
    exact vcC_sound h

/-- 'dr': in a region that draws. -/
def stateful (dr : Bool) : Op → Bool
  | .alloc _ | .box .. | .store .. => true
  | .buildSlice .. => !dr
  | .call c => match c.callee with
    | .builtin .append => true
    | _ => false
  | _ => false

/-- A value goes into its slot, and on. -/
def KV (st : St) (d : Option Tmp) (K : St → Prop) : V → Prop := fun r => st.fits d ∧ K (st.put d r)

def vcOp (dr : Bool) (P : Program) (st : St) (o : Oper) (K : St → Prop) : Prop :=
  if stateful dr o.op = true then vcS P st o.op o.dst K else vcD P st o.op (KV st o.dst K)

/-- A guard's word: none where it can't be told; a skipped operation's slot has no word. -/
def guardV (ops : Array Oper) (st : St) (j : Nat) : Option (Option Bool) :=
  match (ops[j]?).bind (·.dst) with
  | some d => match st.T d with
    | .raw (.bool b) => some (some b)
    | .raw (.tuple _) => some none
    | _ => none
  | none => none

def vcOps (dr : Bool) (P : Program) (ops : Array Oper) : List Oper → St → (St → Prop) → Prop
  | [], st, K => K st
  | o :: rest, st, K => match o.guard with
    | none => vcOp dr P st o fun st' => vcOps dr P ops rest st' K
    | some (j, want) => match guardV ops st j with
      | some b => if b = some want then vcOp dr P st o fun st' => vcOps dr P ops rest st' K else st.fits o.dst ∧ vcOps dr P ops rest (st.put o.dst (.raw undef)) K
      | none => False

theorem KV_apply (st : St) (d : Option Tmp) (K : St → Prop) (r : V) : KV st d K r = (st.fits d ∧ K (st.put d r)) := rfl

section
variable {P : Program}

theorem operand_sound {X : Ctx} {M : Imm} {β : Env} {st : St} {a : Act} {w : World} (h : SatM X M β st a w) (o : Oper) : ∀ x ∈ o.op.operands, R M (ev st x) β (a.eval x) := fun x _ => ev_sound h x

theorem vcOp_sound {dr : Bool} {st : St} {o : Oper} {K : St → Prop} (h : vcOp dr P st o K) : StOK P st o K := by
  unfold vcOp at h
  split at h
  · rename_i hs
    cases ho : o.op <;> rw [ho] at hs <;> simp only [stateful] at hs <;> try (cases hs; done)
    · exact alloc_sound ho h
    · exact box_sound ho h
    · exact buildSlice_sound ho h
    · exact store_sound ho h
    · exact append_sound ho h
  · obtain ⟨r, ⟨hd, hK⟩, hr⟩ := vcD_sound h
    intro X a w Q next ⟨M, β, hs⟩ hn
    exact (hr X M β a w hs.mem (operand_sound hs o)).wp fun v w' ⟨M', hle, _, hm, hrv⟩ => hn _ _ _ hK ⟨M', β, hs.put hle hm hd hrv⟩

theorem guardV_sound {ops : Array Oper} {st : St} {j : Nat} {b : Option Bool} (h : guardV ops st j = some b) {M : Imm} {β : Env} {a : Act} (ht : ∀ d, (ops[j]?).bind (·.dst) = some d → R M (st.T d) β (a.tmps.getD d undef)) : yielded ops a.tmps j = b := by
  unfold guardV at h
  split at h
  · rename_i d hd
    split at h
    · rename_i b' hb
      simp only [Option.some.injEq] at h
      subst h
      have h1 := ht d hd
      rw [hb] at h1
      have h2 : a.tmps.getD d undef = .bool b' := h1
      unfold yielded
      rw [hd]
      simp only [Option.bind_some]
      rw [Array.getD_eq_getD_getElem?] at h2
      cases hx : a.tmps[d]? with
      | none => rw [hx] at h2; cases h2
      | some x => rw [hx] at h2; simp only [Option.getD_some] at h2; subst h2; rfl
    · rename_i xs hb
      simp only [Option.some.injEq] at h
      subst h
      have h1 := ht d hd
      rw [hb] at h1
      have h2 : a.tmps.getD d undef = .tuple xs := h1
      unfold yielded
      rw [hd]
      simp only [Option.bind_some]
      rw [Array.getD_eq_getD_getElem?] at h2
      cases hx : a.tmps[d]? with
      | none => rfl
      | some x => rw [hx] at h2; simp only [Option.getD_some] at h2; subst h2; rfl
    · cases h
  · cases h

/-- IN THE ORDER OF THE TEXT. -/
theorem vcOps_sound {dr : Bool} {ops : Array Oper} {X : Ctx} {Q : Exit → Act → World → Prop} {K : St → Prop} (hQ : ∀ st' a' w', K st' → Sat X st' a' w' → Q .normal a' w') : ∀ (l : List Oper) (st : St) (a : Act) (w : World),
    vcOps dr P ops l st K → Sat X st a w → wpList P ops Q l a w
  | [], st, a, w, h, hs => hQ st a w h hs
  | o :: rest, st, a, w, h, hs => by
    refine wpList_step fun next hnext => ?_
    unfold vcOps at h
    cases hg : o.guard with
    | none =>
      simp only [hg] at h
      rw [if_pos (by simp [Region.wanted, hg])]
      exact vcOp_sound h X a w Q next hs fun st' a' w' hk hs' => hnext _ _ (vcOps_sound hQ rest st' a' w' hk hs')
    | some jw =>
      obtain ⟨j, want⟩ := jw
      simp only [hg] at h
      cases hgv : guardV ops st j with
      | none => rw [hgv] at h; exact h.elim
      | some b =>
        rw [hgv] at h
        dsimp only at h
        obtain ⟨M, β, hs'⟩ := hs
        have hy := guardV_sound hgv (a := a) (M := M) (β := β) (fun d _ => hs'.tmps d)
        by_cases hb : b = some want
        · rw [if_pos hb] at h
          rw [if_pos (by simp [Region.wanted, hg, hy, hb])]
          exact vcOp_sound h X a w Q next ⟨M, β, hs'⟩ fun st' a' w' hk hs'' => hnext _ _ (vcOps_sound hQ rest st' a' w' hk hs'')
        · rw [if_neg hb] at h
          rw [if_neg (by simp [Region.wanted, hg, hy, hb])]
          exact hnext _ _ (vcOps_sound hQ rest _ _ w h.2 ⟨M, β, hs'.put (Imm.Le.refl M) hs'.mem h.1 (by rfl)⟩)

end
end Go.Proofs.YtfnfbdccmggfoaaGreatDoor.Pg
