/-
  'vcC_sound': a quiet operation, or a call by contract, yields what is said, in every world that is so.
-/
import Derived.Test.YtfnfbdccmggfoaaGreatDoorPg5
set_option linter.unusedSimpArgs false
set_option linter.unusedVariables false
namespace Go.Proofs.YtfnfbdccmggfoaaGreatDoor.Pg
open Go.RowKit

section
variable {P : Program}

/-- The form in which each operation's soundness is stated. -/
def OpOK (P : Program) (st : St) (o : Oper) (r : V) : Prop :=
  ∀ (X : Ctx) (M : Imm) (β : Env) (a : Act) (w : World), Mem X M β st w → (∀ x ∈ o.op.operands, R M (ev st x) β (a.eval x)) → Yields P o a w (Keeps X M β st w r)

theorem Keeps.same {X : Ctx} {M : Imm} {β : Env} {st : St} {w : World} {r : V} {v : Value} (hm : Mem X M β st w) (h : R M r β v) : Keeps X M β st w r v w := ⟨M, Imm.Le.refl M, ⟨Below.refl _ _, hm.cons, fun _ _ => rfl⟩, hm, h⟩

theorem opOK_of {st : St} {o : Oper} {r : V} (h : ∀ (X : Ctx) (M : Imm) (β : Env) (a : Act) (w : World), Mem X M β st w → (∀ x ∈ o.op.operands, R M (ev st x) β (a.eval x)) → ∃ v, (execOp a.eval o).run P w = .ok (.value v) w ∧ R M r β v) : OpOK P st o r :=
  fun X M β a w hm hx => let ⟨v, h1, h2⟩ := h X M β a w hm hx; Yields.of_run h1 (Keeps.same hm h2)

theorem run_v {s : Sem Value} {u : Value} {w w' : World} (h : s.run P w = .ok u w') : (do pure (Next.value (← s)) : Sem Next).run P w = .ok (.value u) w' := by
  rw [Sem.run_bind, h]; rfl

theorem optInt_sound {st : St} {x : Option Operand} {d : Nat} {n : Int} (h : optInt st x d = some n) (M : Imm) (β : Env) (a : Act) (hx : ∀ y ∈ x.toList, R M (ev st y) β (a.eval y)) :
    (x = none ∧ n = d) ∨ ∃ k, (x.map a.eval) = some (.int k n) := by
  unfold optInt at h
  cases x with
  | none => simp only [Option.some.injEq] at h; exact .inl ⟨rfl, h.symm⟩
  | some x =>
    dsimp only at h
    split at h
    · rename_i k n' hv
      simp only [Option.some.injEq] at h
      subst h
      refine .inr ⟨k, ?_⟩
      have := hx x (by simp)
      rw [hv] at this
      simp only [Option.map_some, Option.some.injEq]
      exact this
    · cases h

theorem run_sliceBound_ok (k : IntKind) (i : Int) (y : Nat) (code : BoundsCode) (h0 : 0 ≤ i) (h1 : i ≤ y) (w : World) : (Instr.sliceBound (.int k i) y code).run P w = .ok i.toNat w := by
  have : 0 ≤ i ∧ i ≤ (y : Int) := ⟨h0, h1⟩
  simp [Instr.sliceBound, asIntOf, this]

theorem run_sliceAt_of {t e : TypeId} {i : TypeInfo} (hu : P.underlying t = some (.slice e)) (hi : P.info? e = some i) (A : Option Addr) (n cap : Nat) (lo hi' : Option Value) (l h : Int)
    (hl : (lo = none ∧ l = (0 : Nat)) ∨ ∃ k, lo = some (.int k l)) (hh : (hi' = none ∧ h = n) ∨ ∃ k, hi' = some (.int k h)) (h0 : 0 ≤ l) (h1 : l ≤ h) (h2 : h ≤ n) (hc : n ≤ cap) (w : World) :
    (Instr.sliceAt t (.slice A n cap) lo hi' none).run P w = .ok (.slice (if cap = l.toNat then A else A.map (·.add (l.toNat * i.size))) (h.toNat - l.toNat) (cap - l.toNat)) w := by
  have hlo : ∀ (c : BoundsCode), (match lo with | some v => Instr.sliceBound v h.toNat c | none => pure 0 : Sem Nat).run P w = .ok l.toNat w := by
    intro c
    rcases hl with ⟨rfl, rfl⟩ | ⟨k, rfl⟩
    · rfl
    · exact run_sliceBound_ok k l _ c h0 (by omega) w
  have hhi : ∀ (c : BoundsCode), (match hi' with | some v => Instr.sliceBound v cap c | none => pure n : Sem Nat).run P w = .ok h.toNat w := by
    intro c
    rcases hh with ⟨rfl, rfl⟩ | ⟨k, rfl⟩
    · simp
    · exact run_sliceBound_ok k h _ c (by omega) (by omega) w
  have hb : (Instr.sliceBounds true n cap lo hi' none).run P w = .ok (l.toNat, h.toNat, cap) w := by
    unfold Instr.sliceBounds
    have hhi' := hhi .sliceAcap
    have hlo' := hlo .sliceB
    cases hi' with
    | none =>
      simp only [Sem.run_bind, Sem.run_pure, Result.andThen_ok] at hhi' ⊢
      injection hhi' with e
      subst e
      cases lo with
      | none =>
        simp only [Sem.run_bind, Sem.run_pure, Result.andThen_ok] at hlo' ⊢
        injection hlo' with e'
        rw [e']
      | some v =>
        simp only [Option.isSome_none, Bool.false_eq_true, if_false, Sem.run_bind] at hlo' ⊢
        simp only [hlo', Result.andThen_ok, Sem.run_pure]
    | some u =>
      simp only [Sem.run_bind, Sem.run_pure, Result.andThen_ok, if_true] at hhi' ⊢
      simp only [hhi', Result.andThen_ok]
      cases lo with
      | none =>
        simp only [Sem.run_bind, Sem.run_pure, Result.andThen_ok] at hlo' ⊢
        injection hlo' with e'
        rw [e']
      | some v =>
        simp only [Option.isSome_none, Bool.false_eq_true, if_false, Sem.run_bind] at hlo' ⊢
        simp only [hlo', Result.andThen_ok, Sem.run_pure]
  simp only [Instr.sliceAt, Sem.run_bind, run_underlying hu, Result.andThen_ok, Instr.slice, hb, run_sizeOf_of w hi, Sem.run_pure]

theorem sliceV_sound {st : St} {t : TypeId} {sz : Nat} {p : V} {lo hi : Option Operand} {c0 : Prop} {r0 : V} (hs : elemSz P t = some sz) (h : sliceV st sz p lo hi = some (c0, r0)) (hc0 : c0) :
    ∀ (M : Imm) (β : Env) (a : Act) (w : World) (u : Value), R M p β u → (∀ y ∈ lo.toList, R M (ev st y) β (a.eval y)) → (∀ y ∈ hi.toList, R M (ev st y) β (a.eval y)) →
      ∃ v, (Instr.sliceAt t u (lo.map a.eval) (hi.map a.eval) none).run P w = .ok v w ∧ R M r0 β v := by
  obtain ⟨e, i, hu, hi', rfl⟩ := elemSz_spec hs
  unfold sliceV at h
  split at h
  · rename_i sz n f
    split at h
    case h_2 => cases h
    rename_i l q hl hq
    simp only [Option.some.injEq, Prod.mk.injEq] at h
    obtain ⟨rfl, rfl⟩ := h
    obtain ⟨rfl, h0, h1, h2⟩ := hc0
    intro M β a w u hr hx hy
    obtain ⟨A, cap, rfl, hc, hmx, hA⟩ := hr
    have hlo : (lo.map a.eval = none ∧ l = (0 : Nat)) ∨ ∃ k, lo.map a.eval = some (.int k l) := by
      rcases optInt_sound hl M β a hx with ⟨rfl, e⟩ | e
      · exact .inl ⟨rfl, e⟩
      · exact .inr e
    have hhi : (hi.map a.eval = none ∧ q = n) ∨ ∃ k, hi.map a.eval = some (.int k q) := by
      rcases optInt_sound hq M β a hy with ⟨rfl, e⟩ | e
      · exact .inl ⟨rfl, e⟩
      · exact .inr e
    refine ⟨_, run_sliceAt_of hu hi' A n cap _ _ l q hlo hhi h0 h1 h2 hc w, ?_⟩
    refine ⟨_, _, by rw [show q.toNat - l.toNat = (q - l).toNat from by omega], by omega, by omega, fun hn => ?_⟩
    obtain ⟨ad, rfl, hf⟩ := hA (by omega)
    rw [if_neg (by omega)]
    refine ⟨_, rfl, fun i' hi'' j hj => ?_⟩
    obtain ⟨v, e1, e2⟩ := hf (l.toNat + i') (by omega) j hj
    refine ⟨v, ?_, e2⟩
    rw [add_add']
    rw [← e1]
    congr 2
    rw [Nat.add_mul]; omega
  · cases h

theorem run_len_of {t e : TypeId} (hu : P.underlying t = some (.slice e)) (ty : TypeId) (A : Option Addr) (n cap : Nat) (w : World) : (Builtin.len_ #[t] ty #[.slice A n cap]).run P w = .ok (.int .i64 n) w := by
  simp [Builtin.len_, run_underlying hu, goInt]

theorem vcBuiltin_sound {st : St} {o : Oper} {c : Call} {K : V → Prop} (ho : o.op = .call c) (h : vcBuiltin P st c K) : ∃ r, K r ∧ OpOK P st o r := by
  obtain ⟨callee, args, argTypes⟩ := c
  unfold vcBuiltin at h
  split at h
  · rename_i b hb
    dsimp only at hb h
    subst hb
    split at h
    · rename_i x t ha hat
      obtain ⟨l⟩ := args
      obtain ⟨l'⟩ := argTypes
      dsimp only at ha hat
      subst ha; subst hat
      split at h
      · rename_i sz hs
        obtain ⟨e, i, hu, _, _⟩ := elemSz_spec hs
        split at h
        case h_2 => exact h.elim
        rename_i n hlen
        refine ⟨_, h, opOK_of fun X M β a w hm hx => ?_⟩
        have hx' := hx x (by rw [ho]; simp [Op.operands, Call.operands])
        obtain ⟨A, cap, hv⟩ := lenV_sound hlen X M β w _ hm hx'
        refine ⟨.int .i64 n, ?_, rfl⟩
        unfold execOp
        simp only [ho, resolve, Sem.run_bind, Sem.run_pure, Result.andThen_ok, invoke, builtin, List.map_toArray, List.map_cons, List.map_nil, hv, run_len_of hu]
      · split at h
        · rename_i hu
          split at h
          · rename_i s hv
            refine ⟨_, h, opOK_of fun X M β a w hm hx => ?_⟩
            have hx' := hx x (by rw [ho]; simp [Op.operands, Call.operands])
            rw [hv] at hx'
            have hx'' : a.eval x = .string s := hx'
            refine ⟨.int .i64 s.size, ?_, rfl⟩
            unfold execOp
            simp only [ho, resolve, Sem.run_bind, Sem.run_pure, Result.andThen_ok, invoke, builtin, List.map_toArray, List.map_cons, List.map_nil, hx'']
            simp [Builtin.len_, run_underlying hu, goInt]
          · exact h.elim
        · exact h.elim
    · rename_i x y ha
      obtain ⟨l⟩ := args
      subst ha
      split at h
      · rename_i k p k' q hx0 hy0
        refine ⟨_, h, opOK_of fun X M β a w hm hx => ?_⟩
        have h1 := hx x (by rw [ho]; simp [Op.operands, Call.operands])
        have h2 := hx y (by rw [ho]; simp [Op.operands, Call.operands])
        rw [hx0] at h1; rw [hy0] at h2
        have h1' : a.eval x = .int k p := h1
        have h2' : a.eval y = .int k' q := h2
        refine ⟨_, ?_, rfl⟩
        unfold execOp
        simp only [ho, resolve, Sem.run_bind, Sem.run_pure, Result.andThen_ok, invoke, builtin, List.map_toArray, List.map_cons, List.map_nil, h1', h2']
        simp [Builtin.min_, Builtin.min2]
      · exact h.elim
    · rename_i x y ha
      obtain ⟨l⟩ := args
      subst ha
      split at h
      · rename_i k p k' q hx0 hy0
        refine ⟨_, h, opOK_of fun X M β a w hm hx => ?_⟩
        have h1 := hx x (by rw [ho]; simp [Op.operands, Call.operands])
        have h2 := hx y (by rw [ho]; simp [Op.operands, Call.operands])
        rw [hx0] at h1; rw [hy0] at h2
        have h1' : a.eval x = .int k p := h1
        have h2' : a.eval y = .int k' q := h2
        refine ⟨_, ?_, rfl⟩
        unfold execOp
        simp only [ho, resolve, Sem.run_bind, Sem.run_pure, Result.andThen_ok, invoke, builtin, List.map_toArray, List.map_cons, List.map_nil, h1', h2']
        simp [Builtin.max_, Builtin.max2]
      · exact h.elim
    · exact h.elim
  · exact h.elim

theorem vcQ_sound {st : St} {o : Oper} {K : V → Prop} (h : vcQ P st o.op K) : ∃ r, K r ∧ OpOK P st o r := by
  cases ho : o.op <;> rw [ho] at h <;> simp only [vcQ] at h
  case move x =>
    exact ⟨_, h, opOK_of fun X M β a w hm hx => ⟨_, by unfold execOp; simp only [ho]; rfl, hx x (by rw [ho]; simp [Op.operands])⟩⟩
  case assign x =>
    exact ⟨_, h, opOK_of fun X M β a w hm hx => ⟨_, by unfold execOp; simp only [ho]; rfl, hx x (by rw [ho]; simp [Op.operands])⟩⟩
  case pick c x y =>
    split at h
    · rename_i p hp
      refine ⟨_, h, opOK_of fun X M β a w hm hx => ?_⟩
      have h1 := hx c (by rw [ho]; simp [Op.operands])
      rw [hp] at h1
      have h1' : a.eval c = .bool p := h1
      refine ⟨if p = true then a.eval x else a.eval y, by unfold execOp; simp [ho, h1', asBool], ?_⟩
      cases p
      · exact hx y (by rw [ho]; simp [Op.operands])
      · exact hx x (by rw [ho]; simp [Op.operands])
    · exact h.elim
  case fieldAddr s x f =>
    split at h
    · rename_i off o' i j hf hx0
      refine ⟨_, h, opOK_of fun X M β a w hm hx => ?_⟩
      have h1 := hx x (by rw [ho]; simp [Op.operands])
      rw [hx0] at h1
      obtain ⟨g, hg, hu⟩ := h1
      refine ⟨.pointer (some ⟨g, i * (β o').2 + (j + off), none⟩), ?_, g, hg, rfl⟩
      unfold execOp
      simp only [ho, hu, Sem.run_bind, run_fieldAt_of hf, Result.andThen_ok, add_none, Nat.add_assoc]
      rfl
    · rename_i off n c hf hx0
      refine ⟨_, h, opOK_of fun X M β a w hm hx => ?_⟩
      have h1 := hx x (by rw [ho]; simp [Op.operands])
      rw [hx0] at h1
      obtain ⟨ad, hu, hc⟩ := h1
      refine ⟨.pointer (some (ad.add off)), ?_, ad.add off, rfl, fun q hq => ?_⟩
      · unfold execOp
        simp only [ho, hu, Sem.run_bind, run_fieldAt_of hf, Result.andThen_ok]
        rfl
      · rw [add_add']; exact hc (off + q) (by omega)
    · exact h.elim
  case nilCheck x =>
    split at h
    · rename_i o' i j hx0
      refine ⟨_, h, opOK_of fun X M β a w hm hx => ?_⟩
      have h1 := hx x (by rw [ho]; simp [Op.operands])
      rw [hx0] at h1
      obtain ⟨g, hg, hu⟩ := h1
      exact ⟨_, by unfold execOp; simp only [ho, hu]; rfl, g, hg, rfl⟩
    · rename_i n c hx0
      refine ⟨_, h, opOK_of fun X M β a w hm hx => ?_⟩
      have h1 := hx x (by rw [ho]; simp [Op.operands])
      rw [hx0] at h1
      obtain ⟨ad, hu, hc⟩ := h1
      exact ⟨_, by unfold execOp; simp only [ho, hu]; rfl, ad, rfl, hc⟩
    · exact h.elim
  case load t x =>
    unfold andK at h
    split at h
    case h_2 => exact h.elim
    rename_i c0 r hl
    obtain ⟨hc0, hK⟩ := h
    refine ⟨r, hK, opOK_of fun X M β a w hm hx => ?_⟩
    obtain ⟨v, h1, h2⟩ := loadV_sound hl hc0 X M β w _ hm (hx x (by rw [ho]; simp [Op.operands]))
    exact ⟨v, by unfold execOp; simp only [ho]; exact run_v h1, h2⟩
  case indexAddr t x i =>
    split at h
    · rename_i sz k n hs hi0
      unfold andK at h
      split at h
      case h_2 => exact h.elim
      rename_i c0 r hl
      obtain ⟨hc0, hK⟩ := h
      refine ⟨r, hK, opOK_of fun X M β a w hm hx => ?_⟩
      have h1 := hx i (by rw [ho]; simp [Op.operands])
      rw [hi0] at h1
      have h1' : a.eval i = .int k n := h1
      obtain ⟨v, h2, h3⟩ := indexV_sound hs hl hc0 X M β w _ k hm (hx x (by rw [ho]; simp [Op.operands]))
      exact ⟨v, by unfold execOp; simp only [ho, h1']; exact run_v h2, h3⟩
    · rename_i k n hs0 hi0
      split at h
      case h_2 => exact h.elim
      rename_i len sz hs
      unfold andK at h
      split at h
      case h_2 => exact h.elim
      rename_i c0 r hl
      obtain ⟨hc0, hK⟩ := h
      refine ⟨r, hK, opOK_of fun X M β a w hm hx => ?_⟩
      have h1 := hx i (by rw [ho]; simp [Op.operands])
      rw [hi0] at h1
      have h1' : a.eval i = .int k n := h1
      obtain ⟨v, h2, h3⟩ := arrIx_sound hs hl hc0 M β w _ k (hx x (by rw [ho]; simp [Op.operands]))
      exact ⟨v, by unfold execOp; simp only [ho, h1']; exact run_v h2, h3⟩
    · exact h.elim
  case binOp op t x y ty =>
    split at h
    · rename_i p q hp hq
      split at h
      case h_2 => exact h.elim
      rename_i c0 v hl
      obtain ⟨hc0, hK⟩ := h
      refine ⟨_, hK, opOK_of fun X M β a w hm hx => ?_⟩
      have h1 := hx x (by rw [ho]; simp [Op.operands])
      have h2 := hx y (by rw [ho]; simp [Op.operands])
      rw [hp] at h1; rw [hq] at h2
      have h1' : a.eval x = p := h1
      have h2' : a.eval y = q := h2
      refine ⟨v, ?_, rfl⟩
      unfold execOp
      simp only [ho, h1', h2']
      exact run_v (abin_sound (P := P) hl hc0 w x y)
    · rename_i n c m c' hp hq
      split at h
      case h_2 => exact h.elim
      rename_i c0 v hl
      obtain ⟨hc0, hK⟩ := h
      refine ⟨_, hK, opOK_of fun X M β a w hm hx => ?_⟩
      have h1 := hx x (by rw [ho]; simp [Op.operands])
      have h2 := hx y (by rw [ho]; simp [Op.operands])
      rw [hp] at h1; rw [hq] at h2
      obtain ⟨xs, h1', g1, g2⟩ := h1
      obtain ⟨ys, h2', g3, g4⟩ := h2
      refine ⟨v, ?_, rfl⟩
      unfold execOp
      simp only [ho, h1', h2']
      exact run_v (aggBin_sound (P := P) hl hc0 (by omega) (by omega) (fun j hj => (g2 j hj).2) (fun j hj => (g4 j hj).2) w x y)
    · exact h.elim
  case unOp op t x =>
    split at h
    · rename_i b hx0
      refine ⟨_, h, opOK_of fun X M β a w hm hx => ?_⟩
      have h1 := hx x (by rw [ho]; simp [Op.operands])
      rw [hx0] at h1
      have h1' : a.eval x = .bool b := h1
      exact ⟨_, by unfold execOp; simp only [ho, h1']; rfl, rfl⟩
    · rename_i k n hx0
      refine ⟨_, h, opOK_of fun X M β a w hm hx => ?_⟩
      have h1 := hx x (by rw [ho]; simp [Op.operands])
      rw [hx0] at h1
      have h1' : a.eval x = .int k n := h1
      exact ⟨_, by unfold execOp; simp only [ho, h1']; rfl, rfl⟩
    · exact h.elim
  case convert src dst x =>
    split at h
    · rename_i k k' n hs hd hx0
      refine ⟨_, h, opOK_of fun X M β a w hm hx => ?_⟩
      have h1 := hx x (by rw [ho]; simp [Op.operands])
      rw [hx0] at h1
      have h1' : a.eval x = .int k' n := h1
      have hdst : P.underlying dst = some (.int k) := by
        unfold intKindOf at hd
        split at hd
        · rename_i q hq; rw [hq]; simpa using hd
        · cases hd
      refine ⟨_, ?_, rfl⟩
      unfold execOp
      simp only [ho, h1']
      exact run_v (by cases hsd : P.underlying src with
        | none => rw [hsd] at hs; cases hs
        | some d => simp only [Go.convert, Sem.run_bind, run_underlying hsd, run_underlying hdst, Result.andThen_ok]; rfl)
    · exact h.elim
  case build t parts =>
    split at h
    · rename_i z places hs
      split at h
      · rename_i c hc
        refine ⟨_, h, opOK_of fun X M β a w hm hx => ?_⟩
        obtain ⟨cs, h1, h2⟩ := run_build_agg (M := M) (β := β) hs hc (parts.map fun p => (p.1, a.eval p.2)) (by simp) (fun k x hk => by
          simp only [List.getElem?_map, Option.map_eq_some_iff] at hk
          obtain ⟨p, hp, rfl⟩ := hk
          have hp' : parts[k]? = some p := by simpa using hp
          refine ⟨(p.1, a.eval p.2), by simp [hp'], rfl, ?_⟩
          exact hx p.2 (by
            rw [ho]
            simp only [Op.operands, List.mem_toArray, List.mem_map]
            exact ⟨p, List.mem_of_getElem? hp, rfl⟩)) w
        exact ⟨_, by unfold execOp; simp only [ho]; exact run_v h1, cs, rfl, h2⟩
      · exact h.elim
    · exact h.elim
  case field t x f =>
    split at h
    · rename_i off n c hf hx0
      obtain ⟨hn, hK⟩ := h
      refine ⟨_, hK, opOK_of fun X M β a w hm hx => ?_⟩
      have h1 := hx x (by rw [ho]; simp [Op.operands])
      rw [hx0] at h1
      obtain ⟨cs, hu, hc, hall⟩ := h1
      obtain ⟨fs, fl, e1, e2, e3, e4⟩ := fSh_spec hf
      refine ⟨_, ?_, (hall off hn).2⟩
      unfold execOp
      simp only [ho, hu]
      refine run_v ?_
      simp only [Instr.field, Sem.run_bind, run_underlying e1, Result.andThen_ok, e2, asAgg, Sem.run_pure, e3]
      exact run_part_one e4 cs off (by omega) w
    · rename_i off q n c hf hx0
      obtain ⟨hn, hK⟩ := h
      refine ⟨_, hK, opOK_of fun X M β a w hm hx => ?_⟩
      have h1 := hx x (by rw [ho]; simp [Op.operands])
      rw [hx0] at h1
      obtain ⟨cs, hu, hc, hall⟩ := h1
      obtain ⟨fs, fl, e1, e2, e3, e4⟩ := fSh_spec hf
      refine ⟨_, ?_, cs.extract off (off + q), rfl, by simp; omega, fun p hp => ?_⟩
      · unfold execOp
        simp only [ho, hu]
        refine run_v ?_
        simp only [Instr.field, Sem.run_bind, run_underlying e1, Result.andThen_ok, e2, asAgg, Sem.run_pure, e3]
        exact run_part_many e4 cs off w
      · have e : (cs.extract off (off + q)).getD p undef = cs.getD (off + p) undef := by
          simp only [Array.getD_eq_getD_getElem?, Array.getElem?_extract]
          rw [if_pos (by omega)]
        rw [e]
        exact hall (off + p) (by omega)
    · exact h.elim
  case extract x i =>
    split at h
    · rename_i n c hx0
      obtain ⟨hn, hK⟩ := h
      refine ⟨_, hK, opOK_of fun X M β a w hm hx => ?_⟩
      have h1 := hx x (by rw [ho]; simp [Op.operands])
      rw [hx0] at h1
      obtain ⟨cs, hu, hc, hall⟩ := h1
      refine ⟨_, ?_, hall i hn⟩
      unfold execOp
      simp only [ho, hu]
      refine run_v ?_
      have hi : i < cs.size := by omega
      simp [Instr.extract, Array.getElem?_eq_getElem hi, Array.getD_eq_getD_getElem?]
    · exact h.elim
  case slice t x lo hi mx =>
    split at h
    · rename_i sz hs
      unfold andK at h
      split at h
      case h_2 => exact h.elim
      rename_i c0 r hl
      obtain ⟨hc0, hK⟩ := h
      refine ⟨r, hK, opOK_of fun X M β a w hm hx => ?_⟩
      obtain ⟨v, h1, h2⟩ := sliceV_sound hs hl hc0 M β a w _ (hx x (by rw [ho]; simp [Op.operands])) (fun y hy => hx y (by rw [ho]; simp [Op.operands] at hy ⊢; simp [hy])) (fun y hy => hx y (by rw [ho]; simp [Op.operands] at hy ⊢; simp [hy]))
      exact ⟨v, by unfold execOp; simp only [ho]; exact run_v h1, h2⟩
    · exact h.elim
  case call c => exact vcBuiltin_sound ho h

/-! ### Calls -/

theorem run_call_enter {f : FuncId} (h : callable P f = true) (args : Array Value) (w : World) : (callFunc f args).run P w = .ok (.enter f args) w := by
  unfold callable at h
  cases hf : P.funcs[f]? with
  | none => simp [hf] at h
  | some fn =>
    simp only [hf, Bool.and_eq_true] at h
    have h2 : (fn.name == "runtime.NumGoroutine") = false := by
      have := h.2
      simp only [bne, Bool.not_eq_true'] at this
      exact this
    have h3 : fn.body.isNone = false := by
      cases hb : fn.body with
      | none => simp [hb] at h
      | some b => rfl
    simp only [callFunc, Sem.run_bind, run_program, Result.andThen_ok, hf, h2, h3, Bool.false_eq_true, if_false, Sem.run_pure]

theorem getD_map_eval (a : Act) (l : List Operand) (k : Nat) (x : Operand) (h : l[k]? = some x) : ((l.map a.eval).toArray).getD k undef = a.eval x := by
  simp [Array.getD_eq_getD_getElem?, h]

theorem vcCall_sound {st : St} {o : Oper} {c : Call} {K : V → Prop} (ho : o.op = .call c) (h : vcCall P st c K) : ∃ r, K r ∧ OpOK P st o r := by
  unfold vcCall at h
  split at h
  · rename_i fo hcal
    split at h
    · rename_i f first captured hfo
      split at h
      · rename_i hfi hca
        obtain ⟨callee, args, argTypes⟩ := c
        dsimp only at hcal h
        subst hcal
        have hops : ∀ x ∈ args.toList, x ∈ o.op.operands := fun x hx => by rw [ho]; simp [Op.operands, Call.operands]; exact .inr (by simpa using hx)
        have hfop : fo ∈ o.op.operands := by rw [ho]; simp [Op.operands, Call.operands]
        have hexec : ∀ (M : Imm) (β : Env) (a : Act) (w : World), callable P f = true → (∀ x ∈ o.op.operands, R M (ev st x) β (a.eval x)) → (execOp a.eval o).run P w = .ok (.enter f (args.toList.map a.eval).toArray) w := by
          intro M β a w hcl hx
          have h1 := hx fo hfop
          rw [hfo] at h1
          have h1' : a.eval fo = .func (.func f) first captured := h1
          have e1 : first = #[] := by simpa using congrArg List.toArray hfi
          have e2 : captured = #[] := by simpa using congrArg List.toArray hca
          subst e1; subst e2
          unfold execOp
          simp only [ho, resolve, h1', Deferred.ofValue, Sem.run_bind, Sem.run_pure, Result.andThen_ok, invoke]
          rw [run_call_enter hcl]
          have em : args.map a.eval = (args.toList.map a.eval).toArray := by cases args; simp
          simp [em]
        rcases h with ⟨r, hF, himm, hK⟩ | ⟨r, hF, hflat, hK⟩
        · refine ⟨r, hK, fun X M β a w hm hx => ?_⟩
          unfold Yields
          rw [hexec M β a w hF.call hx]
          refine Calls.mono (hF.run w M _ hm.cons (fun g => hm.glob g) (by simp) ?_) ?_
          · intro k v hk
            simp only [List.getElem?_map, Option.map_eq_some_iff] at hk
            obtain ⟨x, hxk, rfl⟩ := hk
            rw [getD_map_eval a _ k x hxk]
            refine isImm_spec ?_ (hx x (hops x (List.mem_of_getElem? hxk)))
            exact List.all_eq_true.1 himm _ (List.mem_map.2 ⟨x, List.mem_of_getElem? hxk, rfl⟩)
          · rintro e w' ⟨u, M', rfl, hb, hle, hold, hcons, hr⟩
            exact ⟨u, rfl, M', hle, ⟨hb, hcons, hold⟩, hm.grow hb hle hcons hold, R.imm (EnvLe.of0 β) hr⟩
        · refine ⟨r, hK, fun X M β a w hm hx => ?_⟩
          unfold Yields
          rw [hexec M β a w hF.call hx]
          refine Calls.mono (hF.run w (allOf w) _ (allOf_cons w) (fun g => R.up (allOf_le hm.cons) (hm.glob g)) (by simp) ?_) ?_
          · intro k v hk
            simp only [List.getElem?_map, Option.map_eq_some_iff] at hk
            obtain ⟨x, hxk, rfl⟩ := hk
            rw [getD_map_eval a _ k x hxk]
            exact snap_spec hm (allOf_le hm.cons) (fun g off v _ h1 h2 => allOf_of h1 h2) (hx x (hops x (List.mem_of_getElem? hxk)))
          · rintro e w' ⟨u, M', rfl, hb, hle, hold, hcons, hr⟩
            have hcons' : ∀ p v, M p = some v → w'.cell? p = some v ∧ v.oneCell' = true := fun p v hp => by
              have hlt : p.block < w.heap.size := World.block_lt_of_cell? w p (hm.cons p v hp).1
              rw [hb.cell hlt]
              exact hm.cons p v hp
            exact ⟨u, rfl, M, Imm.Le.refl M, ⟨hb, hcons', fun _ _ => rfl⟩, hm.grow hb (Imm.Le.refl M) hcons' (fun _ _ => rfl), isFlat_spec hflat hr⟩
      · exact h.elim
    · exact h.elim
  · exact vcBuiltin_sound ho h

theorem vcC_sound {st : St} {o : Oper} {K : V → Prop} (h : vcC P st o.op K) : ∃ r, K r ∧ OpOK P st o r := by
  unfold vcC at h
  split at h
  · rename_i c ho
    exact vcCall_sound ho h
  · exact vcQ_sound h

end
end Go.Proofs.YtfnfbdccmggfoaaGreatDoor.Pg
