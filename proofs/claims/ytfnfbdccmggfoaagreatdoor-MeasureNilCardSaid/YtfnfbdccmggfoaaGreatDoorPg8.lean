/-
  The operations that make or write memory: 'vcS' and its soundness.
-/
import Derived.Test.YtfnfbdccmggfoaaGreatDoorPg7
set_option linter.unusedSimpArgs false
set_option linter.unusedVariables false
namespace Go.Proofs.YtfnfbdccmggfoaaGreatDoor.Pg
open Go.RowKit

def St.setOb (st : St) (o : Nat) (ob : Ob) : St := { st with σ := upd st.σ o ob }

def szOf (P : Program) (t : TypeId) : Option Nat := (P.info? t).map (·.size)

/-- Elements laid over others: a slice literal. -/
def ovrE (k sz : Nat) (v : V) (f : Nat → Nat → V) : Nat → Nat → V := fun i => if i = k then ovr 0 sz v (f i) else f i

def fillE (sz len : Nat) : List (Nat × V) → (Nat → Nat → V) → Option (Nat → Nat → V)
  | [], f => some f
  | (k, v) :: rest, f =>
    match vsize v with
    | some q => if q = sz ∧ k < len ∧ isImm v = true then fillE sz len rest (ovrE k sz v f) else none
    | none => none

/-- Of a slice type: the element's type, size, bytes, zero cells. -/
def sliceOf (P : Program) (t : TypeId) : Option (TypeId × Nat × Nat × List Value) :=
  match P.underlying t with
  | some (.slice e) => match P.info? e with
    | some i => match i.zero with
      | some z => if z.cells.all Value.oneCell' && z.cells.size == i.size && decide (0 < i.size) && decide (0 < i.bytes) then some (e, i.size, i.bytes, z.cells.toList) else none
      | none => none
    | none => none
  | _ => none

/-- What is appended: how many, and which. -/
def srcV (st : St) (sz : Nat) (v : V) : Option (Prop × Nat × (Nat → Nat → V)) :=
  match v with
  | .sl sz' m g => some (sz' = sz, m, g)
  | .vec o => match st.σ o with
    | .vec _ sz' m _ g => some (sz' = sz, m, g)
    | _ => none
  | .raw (.slice none 0 0) => some (True, 0, fun _ _ => .any)
  | _ => none

def appF (n : Nat) (f g : Nat → Nat → V) : Nat → Nat → V := fun i j => if i < n then f i j else g (i - n) j

def appendV (st : St) (e : TypeId) (sz bytes : Nat) (s x : V) : Option (Prop × St) :=
  match srcV st sz x with
  | none => none
  | some (c, m, g) => match s with
    | .raw (.slice none 0 0) => some (c ∧ m * bytes ≤ 140737488355328, st.new (.vec e sz m 0 g))
    | .vec o => match st.σ o with
      | .vec e' sz' n fz f => some (c ∧ e' = e ∧ sz' = sz ∧ fz = 0 ∧ (n + m) * bytes ≤ 140737488355328, (st.setOb o .dead).new (.vec e sz (n + m) 0 (appF n f g)))
      | _ => none
    | _ => none

/-- WHAT AN OPERATION DOES THAT MAKES OR WRITES MEMORY. -/
def vcS (P : Program) (st : St) (op : Op) (dst : Option Tmp) (K : St → Prop) : Prop :=
  match op with
  | .alloc t => match zeroOf P t with
    | some z => st.fits dst ∧ K ((st.new (.box t z.length (rawCells z))).put dst (.ptr st.nx 0 0))
    | none => False
  | .box t x => match vcells (ev st x) with
    | some (n, c) => st.fits dst ∧ K ((st.new (.box t n c)).put dst (.ptr st.nx 0 0))
    | none => False
  | .store t p x => match dst, ev st p, vsize (ev st x), szOf P t with
    | none, .ptr o i j, some q, some q' => q = q' ∧ match st.σ o with
      | .box t' n c => i = 0 ∧ j + q ≤ n ∧ K (st.setOb o (.box t' n (ovr j q (ev st x) c)))
      | .vec e sz n fz f => i < n ∧ fz ≤ i ∧ j + q ≤ sz ∧ isImm (ev st x) = true ∧ K (st.setOb o (.vec e sz n fz fun i' => if i' = i then ovr j q (ev st x) (f i) else f i'))
      | .dead => False
    | _, _, _, _ => False
  | .buildSlice t len parts => match sliceOf P t with
    | some (e, sz, _, z) => st.fits dst ∧ len * sz ≤ 16777216 ∧ match fillE sz len (parts.toList.map fun p => (p.1, ev st p.2)) (fun _ => rawCells z) with
      | some f => K ((st.new (.vec e sz len 0 f)).put dst (.vec st.nx))
      | none => False
    | none => False
  | .call c => match c.callee, c.args.toList, c.argTypes.toList with
    | .builtin .append, [s, x], [t, t'] => t = t' ∧ match sliceOf P t with
      | some (e, sz, bytes, _) => match appendV st e sz bytes (ev st s) (ev st x) with
        | some (c, st') => st.fits dst ∧ c ∧ K (st'.put dst (.vec st.nx))
        | none => False
      | none => False
    | _, _, _ => False
  | _ => False

section
variable {P : Program}

def StOK (P : Program) (st : St) (o : Oper) (K : St → Prop) : Prop :=
  ∀ (X : Ctx) (a : Act) (w : World) (Q : Exit → Act → World → Prop) (next : Act → World → Prop), Sat X st a w → (∀ st' a' w', K st' → Sat X st' a' w' → next a' w') → o.wp P a w next Q

theorem fits_new (st : St) (ob : Ob) (d : Option Tmp) : (st.new ob).fits d = st.fits d := rfl

theorem wp_value {o : Oper} {a : Act} {w w' : World} {v : Value} {next : Act → World → Prop} {Q : Exit → Act → World → Prop} (h : (execOp a.eval o).run P w = .ok (.value v) w') (hk : next (a.put o.dst v) w') : o.wp P a w next Q := by
  unfold Oper.wp; rw [h]; exact hk
theorem wp_skip_ {o : Oper} {a : Act} {w w' : World} {next : Act → World → Prop} {Q : Exit → Act → World → Prop} (h : (execOp a.eval o).run P w = .ok .skip w') (hd : o.dst = none) (hk : next a w') : o.wp P a w next Q := by
  unfold Oper.wp; rw [h]; show next (a.put o.dst undef) w'; rw [hd]; exact hk

theorem alloc_sound {st : St} {o : Oper} {t : TypeId} {K : St → Prop} (ho : o.op = .alloc t) (h : vcS P st o.op o.dst K) : StOK P st o K := by
  rw [ho] at h
  simp only [vcS] at h
  split at h
  · rename_i z hz
    obtain ⟨hd, hK⟩ := h
    intro X a w Q next ⟨M, β, hs⟩ hn
    unfold zeroOf at hz
    cases hi : P.info? t with
    | none => simp [hi] at hz
    | some i =>
      cases hzv : i.zero with
      | none => simp [hi, hzv] at hz
      | some zv =>
        simp only [hi, hzv] at hz
        split at hz
        · rename_i hall
          simp only [Option.some.injEq] at hz
          subst hz
          have hc : CellsOK M β zv.cells.toList.length (rawCells zv.cells.toList) zv.cells := by
            refine ⟨by simp, fun j hj => ?_⟩
            have hj' : j < zv.cells.size := by simpa using hj
            refine ⟨?_, ?_⟩
            · rw [Array.all_eq_true] at hall
              have := hall j hj'
              simpa [Array.getD_eq_getD_getElem?, hj'] using this
            · show zv.cells.getD j undef = zv.cells.toList.getD j undef
              simp [Array.getD_eq_getD_getElem?, List.getD]
          obtain ⟨hm, hle⟩ := hs.mem.newBox (t := t) hc
          refine wp_value (w' := w.alloc (.cells zv.cells t)) (v := .pointer (some ⟨w.heap.size, 0, none⟩)) ?_ (hn _ _ _ hK ⟨M, upd β st.nx (.pointer (some ⟨w.heap.size, 0, none⟩), 0), ?_⟩)
          · unfold execOp
            simp only [ho]
            refine run_v ?_
            simp [Instr.alloc, zeroValue, typeInfo, hi, hzv, newVar, newRow]
          · refine (hs.env hm hle rfl rfl).put (Imm.Le.refl M) hm hd ?_
            exact ⟨w.heap.size, by rw [upd_same]; rfl, by simp⟩
        · cases hz
  · exact h.elim

theorem box_sound {st : St} {o : Oper} {t : TypeId} {x : Operand} {K : St → Prop} (ho : o.op = .box t x) (h : vcS P st o.op o.dst K) : StOK P st o K := by
  rw [ho] at h
  simp only [vcS] at h
  split at h
  · rename_i n c hc
    obtain ⟨hd, hK⟩ := h
    intro X a w Q next ⟨M, β, hs⟩ hn
    obtain ⟨hm, hle⟩ := hs.mem.newBox (t := t) (vcells_sound hc (ev_sound hs x))
    refine wp_value (w' := w.alloc (.cells (a.eval x).cells t)) (v := .pointer (some ⟨w.heap.size, 0, none⟩)) ?_ (hn _ _ _ hK ⟨M, upd β st.nx (.pointer (some ⟨w.heap.size, 0, none⟩), 0), ?_⟩)
    · unfold execOp
      simp only [ho]
      refine run_v ?_
      simp [Instr.box, newVar, newRow]
    · refine (hs.env hm hle rfl rfl).put (Imm.Le.refl M) hm hd ?_
      exact ⟨w.heap.size, by rw [upd_same]; rfl, by simp⟩
  · exact h.elim

theorem vsize_one {M : Imm} {β : Env} {v : V} {q : Nat} {u : Value} (h : vsize v = some q) (hr : R M v β u) (x : Value) (hx : x ∈ u.cells.toList) : x.oneCell' = true := by
  obtain ⟨h1, h2⟩ := vsize_sound h hr
  obtain ⟨j, hj, rfl⟩ := List.getElem_of_mem hx
  have := (h2 0 j (Nat.zero_le _) (by simpa [h1] using hj)).1
  have e : u.cells.toList.getD (j - 0) undef = u.cells.toList[j] := by
    rw [Nat.sub_zero, List.getD, List.getElem?_eq_getElem hj]; rfl
  rwa [e] at this

theorem ovr_imm {M : Imm} {β : Env} {v : V} {q : Nat} (hv : isImm v = true) {off j : Nat} (hj : off ≤ j ∧ j < off + q) {n : Nat} (hq : vsize v = some q) (hn : n = q) {u : Value} (h : R M (ovr off q v (fun _ => .any) j) β u) : R M (ovr off q v (fun _ => .any) j) β0 u := by
  unfold ovr at *
  rw [if_pos hj] at *
  cases v with
  | agg n' c' =>
    simp only [isImm, List.all_eq_true, List.mem_range] at hv
    simp only [vsize, Option.some.injEq] at hq
    exact isImm1_spec (hv (j - off) (by omega)) h
  | _ => exact isImm1_spec (by exact hv) h

theorem run_store_of {t : TypeId} {i : TypeInfo} (hi : P.info? t = some i) {u : Value} (hu : u.cells.size = i.size) {ad : Addr} {w w' : World} (h : (storeCells ad u.cells.toList).run P w = .ok () w') :
    (Instr.storeAt t (.pointer (some ad)) u).run P w = .ok () w' := by
  have hne : ¬ (u.cells.size ≠ i.size) := fun hh => hh hu
  simp only [Instr.storeAt, Instr.sureAddr, Sem.run_bind, Sem.run_pure, Result.andThen_ok, storeVar, run_sizeOf_of w hi]
  rw [if_neg hne]
  exact h

theorem store_sound {st : St} {o : Oper} {t : TypeId} {p x : Operand} {K : St → Prop} (ho : o.op = .store t p x) (h : vcS P st o.op o.dst K) : StOK P st o K := by
  rw [ho] at h
  simp only [vcS] at h
  split at h
  · rename_i ob i j q q' hdst hp hq hsz
    obtain ⟨rfl, h⟩ := h
    have hinfo : ∃ ti, P.info? t = some ti ∧ ti.size = q := by
      unfold szOf at hsz
      cases hi : P.info? t with
      | none => simp [hi] at hsz
      | some ti => exact ⟨ti, rfl, by simpa [hi] using hsz⟩
    obtain ⟨ti, hti, htq⟩ := hinfo
    split at h
    · rename_i t' n c hσ
      obtain ⟨rfl, hj, hK⟩ := h
      intro X a w Q next ⟨M, β, hs⟩ hn
      have hpr := ev_sound hs p
      rw [hp] at hpr
      obtain ⟨g, hg, hpu⟩ := hpr
      obtain ⟨g', cs, b1, b2, b3, b4, b5, b6⟩ := hs.mem.box ob t' n c hσ
      obtain rfl : g' = g := by rw [b1] at hg; simpa [blk] using hg
      have hxr := ev_sound hs x
      obtain ⟨v1, v2⟩ := vsize_sound hq hxr
      have hlen : (a.eval x).cells.toList.length = q := by simpa using v1
      obtain ⟨w', cs', r1, r2, r3, r4, r5⟩ := run_storeCells_row (P := P) (a.eval x).cells.toList 0 j w cs b3 (by rw [hlen]; omega) (vsize_one hq hxr)
      simp only [Nat.add_zero, hlen] at r5
      have hm : Mem X M β (st.setOb ob (.box t' n (ovr j q (ev st x) c))) w' := by
        refine hs.mem.change (d := ob) r4 (fun g hg' => by cases hg'; exact b2) (fun p v hp' hr => ?_) (fun o' hne hdead => ?_) ?_ ?_ (EnvLe.refl β) ?_ rfl
        · have : p.block = g' := by simpa using hr.symm
          obtain ⟨pb, po, ps⟩ := p
          subst this
          rw [b6] at hp'; cases hp'
        · have e : (st.setOb ob (.box t' n (ovr j q (ev st x) c))).σ o' = st.σ o' := upd_ne _ _ hne
          refine ⟨e, rfl, fun g hg' hr => ?_⟩
          rw [e] at hdead
          have e2 : g' = g := by simpa using hr
          subst e2
          exact hs.mem.sep o' ob g' hne hdead (by rw [hσ]; simp) hg' (by rw [b1]; rfl)
        · have e : (st.setOb ob (.box t' n (ovr j q (ev st x) c))).σ ob = .box t' n (ovr j q (ev st x) c) := upd_same _ _ _
          rw [e]
          refine ⟨g', cs', b1, b2, r2, r3.trans b4, fun k hk => ?_, b6⟩
          rw [r5]
          by_cases hb : j ≤ k ∧ k < j + q
          · rw [if_pos hb, ovr_any hb]; exact v2 j k hb.1 hb.2
          · rw [if_neg hb, ovr_out hb]; exact b5 k hk
        · intro o' g hne hdead _ hb hb'
          have e : (st.setOb ob (.box t' n (ovr j q (ev st x) c))).σ o' = st.σ o' := upd_ne _ _ hne
          rw [e] at hdead
          exact hs.mem.sep o' ob g hne hdead (by rw [hσ]; simp) hb' hb
        · intro o' ho'
          have hn' := hs.mem.nx o' ho'
          have hne : o' ≠ ob := fun e => by subst e; rw [hn'.1] at hσ; cases hσ
          exact ⟨(upd_ne _ _ hne).trans hn'.1, hn'.2⟩
      refine wp_skip_ (w' := w') ?_ hdst (hn _ _ _ hK ⟨M, β, hs.env hm (EnvLe.refl β) rfl rfl⟩)
      unfold execOp
      simp only [ho, hpu, Sem.run_bind]
      rw [show (0 * (β ob).2 + j) = j from by simp, run_store_of hti (by rw [v1, htq]) r1]
      rfl
    · rename_i e sz n fz f hσ
      obtain ⟨hi, hfz, hj, himm, hK⟩ := h
      intro X a w Q next ⟨M, β, hs⟩ hn
      have hpr := ev_sound hs p
      rw [hp] at hpr
      obtain ⟨g, hg, hpu⟩ := hpr
      obtain ⟨xs, b1, b2, b3, b4⟩ := hs.mem.vec ob e sz n fz f hσ
      have hxr := ev_sound hs x
      obtain ⟨v1, v2⟩ := vsize_sound hq hxr
      have hlen : (a.eval x).cells.toList.length = q := by simpa using v1
      rcases b1.2 with ⟨hv, hn0⟩ | ⟨g', cap, cur, hv, hg', hh, hcp, hmx, hcs, ht⟩
      · omega
      obtain rfl : g' = g := by rw [hv] at hg; simpa [blk] using hg
      have hblk : blk (β ob).1 = some g' := by rw [hv]; rfl
      have hrow : i * sz + sz ≤ n * sz := by
        have : (i + 1) * sz ≤ n * sz := Nat.mul_le_mul_right sz hi
        rwa [Nat.add_mul, Nat.one_mul] at this
      have hcapn : n * sz ≤ cap * sz := Nat.mul_le_mul_right sz hcp
      have hfzn : fz * sz ≤ i * sz := Nat.mul_le_mul_right sz hfz
      obtain ⟨w', cs', r1, r2, r3, r4, r5⟩ := run_storeCells_row (P := P) (a.eval x).cells.toList 0 (i * sz + j) w cur hh (by rw [hlen]; omega) (vsize_one hq hxr)
      simp only [Nat.add_zero, hlen] at r5
      let F : Nat → Nat → V := fun i' => if i' = i then ovr j q (ev st x) (f i) else f i'
      have hF1 : F i = ovr j q (ev st x) (f i) := if_pos rfl
      have hF2 : ∀ i', i' ≠ i → F i' = f i' := fun i' h => if_neg h
      let ob' : Ob := .vec e sz n fz F
      have hxs : ∀ k, k < n * sz → xs[k]? = some (cur.getD k undef) := by
        intro k hk
        rw [← ht, List.getElem?_take, if_pos hk]
        have : k < cur.size := by omega
        simp [Array.getD_eq_getD_getElem?, this]
      have hm : Mem X M β (st.setOb ob ob') w' := by
        refine hs.mem.change (d := ob) r4 (fun g hg'' => by cases hg''; exact hg') (fun p v hp' hr => ?_) (fun o' hne hdead => ?_) ?_ ?_ (EnvLe.refl β) ?_ rfl
        · have hpb : p.block = g' := by simpa using hr.symm
          obtain ⟨pb, po, ps⟩ := p
          simp only at hpb
          subst hpb
          have hlt : po < fz * sz := by
            rcases Nat.lt_or_ge po (fz * sz) with hlt | hge
            · exact hlt
            · rw [b4 pb hblk po ps hge] at hp'; cases hp'
          have hold := (hs.mem.cons _ _ hp').1
          cases ps with
          | some sp => simp [World.cell?, hh] at hold
          | none =>
            have e1 := cell_of_block w hh (show po < cur.size by omega)
            have e2 := cell_of_block w' r2 (show po < cs'.size by omega)
            rw [e2, r5, if_neg (by omega), ← e1]
            exact hold
        · have e' : (st.setOb ob ob').σ o' = st.σ o' := upd_ne _ _ hne
          refine ⟨e', rfl, fun g hg'' hr => ?_⟩
          rw [e'] at hdead
          have e2 : g' = g := by simpa using hr
          subst e2
          exact hs.mem.sep o' ob g' hne hdead (by rw [hσ]; simp) hg'' hblk
        · have e' : (st.setOb ob ob').σ ob = ob' := upd_same _ _ _
          rw [e']
          refine ⟨cs'.toList.take (n * sz), ⟨by rw [List.length_take, Array.length_toList, r3, hcs]; exact Nat.min_eq_left hcapn, .inr ⟨g', cap, cs', hv, hg', r2, hcp, hmx, r3.trans hcs, rfl⟩⟩, b2, fun i' j' hi' hj' => ?_, b4⟩
          have hlt : i' * sz + j' < n * sz := by
            have : (i' + 1) * sz ≤ n * sz := Nat.mul_le_mul_right sz hi'
            rw [Nat.add_mul, Nat.one_mul] at this
            omega
          have hget : (cs'.toList.take (n * sz))[i' * sz + j']? = some (cs'.getD (i' * sz + j') undef) := by
            rw [List.getElem?_take, if_pos hlt]
            have : i' * sz + j' < cs'.size := by omega
            simp [Array.getD_eq_getD_getElem?, this]
          refine ⟨_, hget, ?_⟩
          rw [r5]
          show _ ∧ R M (F i' j') β0 _
          by_cases hii : i' = i
          · subst hii
            rw [hF1]
            by_cases hb : i' * sz + j ≤ i' * sz + j' ∧ i' * sz + j' < i' * sz + j + q
            · rw [if_pos hb]
              have hb' : j ≤ j' ∧ j' < j + q := by omega
              rw [ovr_any hb']
              have := v2 j j' hb'.1 hb'.2
              rw [show i' * sz + j' - (i' * sz + j) = j' - j from by omega]
              exact ⟨this.1, ovr_imm himm hb' hq rfl this.2⟩
            · rw [if_neg hb, ovr_out (by omega)]
              obtain ⟨v, e1, e2, e3⟩ := b3 i' j' hi' hj'
              rw [hxs _ hlt] at e1
              cases e1
              exact ⟨e2, e3⟩
          · rw [hF2 i' hii]
            have hout : ¬ (i * sz + j ≤ i' * sz + j' ∧ i' * sz + j' < i * sz + j + q) := by
              rcases Nat.lt_or_ge i' i with hlt' | hge'
              · have : (i' + 1) * sz ≤ i * sz := Nat.mul_le_mul_right sz hlt'
                rw [Nat.add_mul, Nat.one_mul] at this
                omega
              · have : (i + 1) * sz ≤ i' * sz := Nat.mul_le_mul_right sz (by omega)
                rw [Nat.add_mul, Nat.one_mul] at this
                omega
            rw [if_neg hout]
            obtain ⟨v, e1, e2, e3⟩ := b3 i' j' hi' hj'
            rw [hxs _ hlt] at e1
            cases e1
            exact ⟨e2, e3⟩
        · intro o' g hne hdead _ hb hb'
          have e' : (st.setOb ob ob').σ o' = st.σ o' := upd_ne _ _ hne
          rw [e'] at hdead
          exact hs.mem.sep o' ob g hne hdead (by rw [hσ]; simp) hb' hb
        · intro o' ho'
          have hn' := hs.mem.nx o' ho'
          have hne : o' ≠ ob := fun e => by subst e; rw [hn'.1] at hσ; cases hσ
          exact ⟨(upd_ne _ _ hne).trans hn'.1, hn'.2⟩
      refine wp_skip_ (w' := w') ?_ hdst (hn _ _ _ hK ⟨M, β, hs.env hm (EnvLe.refl β) rfl rfl⟩)
      unfold execOp
      simp only [ho, hpu, Sem.run_bind]
      rw [b2, run_store_of hti (by rw [v1, htq]) r1]
      rfl
    · exact h.elim
  · exact h.elim

end
end Go.Proofs.YtfnfbdccmggfoaaGreatDoor.Pg
