/-
  A region that draws its order, one of whose operations is a store into a box that no other of them looks at.
-/
import Derived.Test.YtfnfbdccmggfoaaGreatDoorPg12
set_option linter.unusedSimpArgs false
set_option linter.unusedVariables false
namespace Go.Proofs.YtfnfbdccmggfoaaGreatDoor.Pg
open Go.RowKit

section
variable {P : Program}
theorem store_box {X : Ctx} {M : Imm} {β : Env} {st : St} {a : Act} {w : World} (hm0 : Mem X M β st w) {o : Oper} {t : TypeId} {p x : Operand} (ho : o.op = .store t p x) {ob j q n : Nat} {t' : TypeId} {c : Nat → V} {vx : V}
    (hpr : R M (.ptr ob 0 j) β (a.eval p)) (hxr : R M vx β (a.eval x)) (hq : vsize vx = some q) (hsz : szOf P t = some q) (hσ : st.σ ob = .box t' n c) (hj : j + q ≤ n) :
    ∃ w', (execOp a.eval o).run P w = .ok .skip w' ∧ Mem X M β (st.setOb ob (.box t' n (ovr j q vx c))) w' := by
  have hinfo : ∃ ti, P.info? t = some ti ∧ ti.size = q := by
    unfold szOf at hsz
    cases hi : P.info? t with
    | none => simp [hi] at hsz
    | some ti => exact ⟨ti, rfl, by simpa [hi] using hsz⟩
  obtain ⟨ti, hti, htq⟩ := hinfo
  obtain ⟨g, hg, hpu⟩ := hpr
  obtain ⟨g', cs, b1, b2, b3, b4, b5, b6⟩ := hm0.box ob t' n c hσ
  obtain rfl : g' = g := by rw [b1] at hg; simpa [blk] using hg
  obtain ⟨v1, v2⟩ := vsize_sound hq hxr
  have hlen : (a.eval x).cells.toList.length = q := by simpa using v1
  obtain ⟨w', cs', r1, r2, r3, r4, r5⟩ := run_storeCells_row (P := P) (a.eval x).cells.toList 0 j w cs b3 (by rw [hlen]; omega) (vsize_one hq hxr)
  simp only [Nat.add_zero, hlen] at r5
  have hm : Mem X M β (st.setOb ob (.box t' n (ovr j q vx c))) w' := by
    refine hm0.change (d := ob) r4 (fun g hg' => by cases hg'; exact b2) (fun p v hp' hr => ?_) (fun o' hne hdead => ?_) ?_ ?_ (EnvLe.refl β) ?_ rfl
    · have : p.block = g' := by simpa using hr.symm
      obtain ⟨pb, po, ps⟩ := p
      subst this
      rw [b6] at hp'; cases hp'
    · have e : (st.setOb ob (.box t' n (ovr j q vx c))).σ o' = st.σ o' := upd_ne _ _ hne
      refine ⟨e, rfl, fun g hg' hr => ?_⟩
      rw [e] at hdead
      have e2 : g' = g := by simpa using hr
      subst e2
      exact hm0.sep o' ob g' hne hdead (by rw [hσ]; simp) hg' (by rw [b1]; rfl)
    · have e : (st.setOb ob (.box t' n (ovr j q vx c))).σ ob = .box t' n (ovr j q vx c) := upd_same _ _ _
      rw [e]
      refine ⟨g', cs', b1, b2, r2, r3.trans b4, fun k hk => ?_, b6⟩
      rw [r5]
      by_cases hb : j ≤ k ∧ k < j + q
      · rw [if_pos hb, ovr_any hb]; exact v2 j k hb.1 hb.2
      · rw [if_neg hb, ovr_out hb]; exact b5 k hk
    · intro o' g hne hdead _ hb hb'
      have e : (st.setOb ob (.box t' n (ovr j q vx c))).σ o' = st.σ o' := upd_ne _ _ hne
      rw [e] at hdead
      exact hm0.sep o' ob g hne hdead (by rw [hσ]; simp) hb' hb
    · intro o' ho'
      have hn' := hm0.nx o' ho'
      have hne : o' ≠ ob := fun e => by subst e; rw [hn'.1] at hσ; cases hσ
      exact ⟨(upd_ne _ _ hne).trans hn'.1, hn'.2⟩
  refine ⟨w', ?_, hm⟩
  unfold execOp
  simp only [ho, hpu, Sem.run_bind]
  rw [show (0 * (β ob).2 + j) = j from by simp, run_store_of hti (by rw [v1, htq]) r1]
  rfl

theorem St_eq {a b : St} (h1 : a.N = b.N) (h2 : a.T = b.T) (h3 : a.nx = b.nx) (h4 : a.σ = b.σ) (h5 : a.G = b.G) : a = b := by
  cases a; cases b; simp_all

/-- What is asked behind the region. -/
def lateS (P : Program) (k : List It) (Q : Exit → St → Prop) (o : Nat) (ob : Ob) (pv : V) (vs sz : Option Nat) (xv : V) (σ : Nat → Ob) (st' : St) : Prop :=
  match pv, vs, sz, ob with
  | .ptr o' i j, some q, some q', .box t' n c => o' = o ∧ i = 0 ∧ q = q' ∧ j + q ≤ n ∧ AW P k ⟨st'.N, st'.T, st'.nx, upd σ o (.box t' n (ovr j q xv c)), st'.G⟩ Q
  | _, _, _, _ => False
def lateO (P : Program) (k : List It) (Q : Exit → St → Prop) (o : Nat) (st : St) (op : Op) (st' : St) : Prop :=
  match op with
  | .store t p x => lateS P k Q o (st.σ o) (ev st' p) (vsize (ev st' x)) (szOf P t) (ev st' x) st.σ st'
  | _ => False
def lateK (P : Program) (k : List It) (Q : Exit → St → Prop) (ops : Array Oper) (s o : Nat) (st : St) : St → Prop := fun st' =>
  match ops[s]? with
  | some os => lateO P k Q o st os.op st'
  | none => False

theorem stAt_keep {ops : Array Oper} {st : St} {vs : Nat → V} {s : Nat} {t : Nat} : ∀ k, s ≤ k → (∀ j, s ≤ j → j < k → dstOf ops j ≠ some t) → (stAt ops st vs k).T t = (stAt ops st vs s).T t
  | 0, hk, _ => by obtain rfl : s = 0 := by omega
                   rfl
  | k + 1, hk, h => by
    by_cases e : s = k + 1
    · subst e; rfl
    · rw [stAt, put_T, if_neg (h k (by omega) (by omega)), stAt_keep k (by omega) (fun j h1 h2 => h j h1 (by omega))]

theorem aw_late {id : Nat} {ops : Array Oper} {k : List It} {st : St} {Q : Exit → St → Prop} (s o : Nat) (hm : P.follows .mixedOrders = true) (hd : lateOK ops s = true)
    (h : vcOps true P (nopAt ops s) (nopAt ops s).toList (st.mask o) (lateK P k Q ops s o st)) : AW P (.code (.region id ops true) :: k) st Q := fun X a w hs => by
  obtain ⟨M, β, hs'⟩ := hs
  have hd' := hd
  unfold lateOK at hd'
  simp only [Bool.and_eq_true, decide_eq_true_eq] at hd'
  obtain ⟨⟨hd0, hslt⟩, hrest⟩ := hd'
  have hos : ops[s]? = some ops[s] := Array.getElem?_eq_getElem hslt
  simp only [hos, Bool.and_eq_true, List.all_eq_true, List.mem_range, Bool.or_eq_true, decide_eq_true_eq] at hrest
  obtain ⟨⟨hs1, hs2⟩, hs3⟩ := hrest
  have hquiet : ∀ j o', j < (nopAt ops s).size → (nopAt ops s)[j]? = some o' → stateful true o'.op = false := by
    intro j o' hj ho'
    by_cases e : j = s
    · subst e
      unfold nopAt at ho'
      simp only [hos] at ho'
      rw [Array.getElem?_setIfInBounds_self_of_lt hslt] at ho'
      cases ho'
      rfl
    · rw [nopAt_ne e] at ho'
      exact (((drawOK_at hd0 ho').2.1 (by rw [nopAt_size] at hj; exact hj)).1).resolve_left e
  obtain ⟨vs, h1, h2⟩ := head_run (m := (nopAt ops s).size) hquiet (Nat.le_refl _) h _ (Nat.le_refl _)
  rw [List.drop_eq_nil_of_le (by simp)] at h2
  have h3 : lateK P k Q ops s o st (stAt (nopAt ops s) (st.mask o) vs (nopAt ops s).size) := h2
  rw [stAt_nop, nopAt_size] at h3
  unfold lateK at h3
  rw [hos] at h3
  dsimp only at h3
  unfold lateO at h3
  split at h3
  case h_2 => exact h3.elim
  rename_i t p x hop
  unfold lateS at h3
  split at h3
  case h_2 => exact h3.elim
  rename_i o' i j q q' t' n c hpv hvs hsz hob
  obtain ⟨rfl, rfl, rfl, hjq, hK⟩ := h3
  have keep : ∀ y ∈ (Op.store t p x).operands, ev (stAt ops (st.mask o') vs s) y = ev (stAt ops (st.mask o') vs ops.size) y := by
    intro y hy
    cases y with
    | tmp u =>
      show (stAt ops (st.mask o') vs s).T u = (stAt ops (st.mask o') vs ops.size).T u
      refine (stAt_keep ops.size (by omega) fun j hj1 hj2 hju => ?_).symm
      rcases Nat.lt_or_eq_of_le hj1 with hlt | rfl
      · have := (hs3 j hj2).resolve_left (by omega)
        have hu : u ∈ ops[s].looksAt ops := by
          unfold Oper.looksAt
          refine List.mem_append_left _ ?_
          rw [hop]
          exact List.mem_filterMap.2 ⟨.tmp u, by simpa using hy, rfl⟩
        have := this u hu
        rw [hju] at this
        simp at this
      · unfold dstOf at hju
        rw [hos] at hju
        have : ops[s].dst = none := by simpa using hs1
        simp [this] at hju
    | const v => rfl
    | global g => simp only [ev]; rw [(stAt_σ _ vs _).2.2.1, (stAt_σ _ vs _).2.2.1]
    | func f => rfl
  have hsame : SameT (st.mask o') st := ⟨rfl, rfl, rfl, rfl⟩
  have hsame1 : SameT (st.setOb o' (.box t' n (ovr j q (ev (stAt ops (st.mask o') vs ops.size) x) c))) st := ⟨rfl, rfl, rfl, rfl⟩
  refine wp_region_any hm (any_orderL (X := X) (β := β) (vs := vs) hd hsame hsame1 (fun M w hmm => hmm.mask o') (fun M w hmm => ?_) (fun i hi his => ?_) (fun os hos' M a w hmem hops => ?_) (fun a' w' hsat => ?_) ops.size M _ a _ ?_ (by simp) ?_ ?_ ?_)
  · have := hmm.mask o'
    refine this.of_same ?_ rfl rfl
    funext p
    show (if p = o' then Ob.dead else st.σ p) = if p = o' then Ob.dead else upd st.σ o' _ p
    by_cases e : p = o'
    · rw [if_pos e, if_pos e]
    · rw [if_neg e, if_neg e, upd_ne _ _ e]
  · have hst := h1 i (by rw [nopAt_size]; exact hi)
    unfold StepOK at hst ⊢
    rw [nopAt_ne his] at hst
    simp only [stAt_nop, guardV_nop] at hst
    exact hst
  · rw [hos] at hos'
    cases hos'
    have hp' := hops p (by rw [hop]; simp [Op.operands])
    have hx' := hops x (by rw [hop]; simp [Op.operands])
    rw [keep p (by simp [Op.operands]), hpv] at hp'
    rw [keep x (by simp [Op.operands])] at hx'
    exact store_box hmem hop hp' hx' hvs hsz hob hjq
  · refine hK X a' w' ?_
    have e : stAt ops (st.setOb o' (.box t' n (ovr j q (ev (stAt ops (st.mask o') vs ops.size) x) c))) vs ops.size = ⟨(stAt ops (st.mask o') vs ops.size).N, (stAt ops (st.mask o') vs ops.size).T, (stAt ops (st.mask o') vs ops.size).nx, upd st.σ o' (.box t' n (ovr j q (ev (stAt ops (st.mask o') vs ops.size) x) c)), (stAt ops (st.mask o') vs ops.size).G⟩ := by
      have hq := stAt_same (ops := ops) (a := st.setOb o' (.box t' n (ovr j q (ev (stAt ops (st.mask o') vs ops.size) x) c))) (b := st.mask o') ⟨rfl, rfl, rfl, rfl⟩ vs ops.size
      exact St_eq hq.N hq.T hq.nx (stAt_σ _ vs _).1 hq.G
    rw [e] at hsat
    exact hsat
  · rw [cnt_none _ _ (fun i => lis_replicate _ _)]; rfl
  · intro j oj _ hl; rw [lis_replicate] at hl; cases hl
  · refine ⟨hs'.nodef, hs'.size, fun t j _ hl => ?_, fun t _ => hs'.tmps t, (hs'.mem.mask o').drew⟩
    rw [lis_replicate] at hl; cases hl
  · rw [lis_replicate]
    exact hs'.mem.drew
end
end Go.Proofs.YtfnfbdccmggfoaaGreatDoor.Pg
