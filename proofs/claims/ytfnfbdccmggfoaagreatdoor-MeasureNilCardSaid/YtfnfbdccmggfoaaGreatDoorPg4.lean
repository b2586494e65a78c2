/-
  'vcQ_sound', continued: structs, addresses, conversions, builtins; the whole.
-/
import Derived.Test.YtfnfbdccmggfoaaGreatDoorPg3
set_option linter.unusedSimpArgs false
set_option linter.unusedVariables false
namespace Go.Proofs.YtfnfbdccmggfoaaGreatDoor.Pg
open Go.RowKit

section
variable {P : Program}

theorem fOff_spec {s : TypeId} {f off : Nat} (h : fOff P s f = some off) : ∃ fs fl i, P.underlying s = some (.struct fs) ∧ fs[f]? = some fl ∧ P.info? fl.type = some i ∧ i.size ≠ 0 ∧ fl.offset = off := by
  unfold fOff at h
  cases hu : P.underlying s with
  | none => simp [hu] at h
  | some d =>
    cases d <;> simp only [hu] at h <;> try (cases h; done)
    rename_i fs
    cases hf : fs[f]? with
    | none => simp [hf] at h
    | some fl =>
      cases hi : P.info? fl.type with
      | none => simp [hf, hi] at h
      | some i =>
        simp only [hf, hi] at h
        split at h
        · cases h
        · rename_i h0
          exact ⟨fs, fl, i, rfl, hf, hi, h0, by simpa using h⟩

theorem run_fieldAt_of {s : TypeId} {f off : Nat} (h : fOff P s f = some off) (a : Addr) (w : World) : (Instr.fieldAt s (.pointer (some a)) f).run P w = .ok (.pointer (some (a.add off))) w := by
  obtain ⟨fs, fl, i, hu, hf, hi, h0, rfl⟩ := fOff_spec h
  simp [Instr.fieldAt, run_underlying hu, hf, Instr.sureAddr, fieldPlace, run_sizeOf_of w hi, h0]

theorem fSh_spec {s : TypeId} {f off : Nat} {q : Sh} (h : fSh P s f = some (off, q)) : ∃ fs fl, P.underlying s = some (.struct fs) ∧ fs[f]? = some fl ∧ fl.offset = off ∧ shapeOf P fl.type = q := by
  unfold fSh at h
  cases hu : P.underlying s with
  | none => simp [hu] at h
  | some d =>
    cases d <;> simp only [hu] at h <;> try (cases h; done)
    rename_i fs
    cases hf : fs[f]? with
    | none => simp [hf] at h
    | some fl =>
      simp only [hf, Option.some.injEq, Prod.mk.injEq] at h
      exact ⟨fs, fl, rfl, hf, h.1, h.2⟩

theorem run_part_one {t : TypeId} (h : shapeOf P t = .one) (cs : Array Value) (off : Nat) (ho : off < cs.size) (w : World) : (part t cs off).run P w = .ok (cs.getD off undef) w := by
  obtain ⟨i, d, hi, hu, _, hd⟩ := shapeOf_one h
  unfold part
  rw [Sem.run_bind, run_isAgg_of w hu, hd]
  simp [Array.getElem?_eq_getElem ho, Array.getD_eq_getD_getElem?]

theorem run_part_many {t : TypeId} {q : Nat} (h : shapeOf P t = .many q) (cs : Array Value) (off : Nat) (w : World) : (part t cs off).run P w = .ok (.agg (cs.extract off (off + q))) w := by
  obtain ⟨i, d, hi, hu, hs, hd⟩ := shapeOf_many h
  unfold part
  rw [Sem.run_bind, run_isAgg_of w hu, hd]
  simp [run_sizeOf_of w hi, hs]

/-! ### comparing structs of ints -/
theorem eqFields_sound {n m : Nat} {c c' : Nat → V} {xs ys : Array Value} {M M' : Imm} {β β' : Env} (hn : xs.size = n) (hm : ys.size = m) (hx : ∀ j, j < n → R M (c j) β (xs.getD j undef)) (hy : ∀ j, j < m → R M' (c' j) β' (ys.getD j undef)) (d : Nat) (w : World) :
    ∀ (fs : List Field) (j : Nat) (b : Bool), flatInts P fs j = true → j + fs.length ≤ n → j + fs.length ≤ m → eqC c c' fs.length j = some b → (Op.eqFields (d + 1) xs ys fs).run P w = .ok b w
  | [], j, b, _, _, _, h => by
    simp only [List.length_nil, eqC, Option.some.injEq] at h
    subst h; rfl
  | f :: fs, j, b, hf, l1, l2, h => by
    simp only [flatInts, Bool.and_eq_true, bne_iff_ne, ne_eq, beq_iff_eq] at hf
    obtain ⟨⟨⟨⟨f1, f2⟩, f3⟩, f4⟩, f5⟩ := hf
    have hsh : shapeOf P f.type = .one := by
      revert f4
      cases shapeOf P f.type <;> simp
    simp only [List.length_cons] at l1 l2 h
    simp only [eqC] at h
    split at h
    case h_2 => cases h
    rename_i q a q' a' r ha ha' hr
    split at h
    case isFalse => cases h
    rename_i hqq
    subst hqq
    simp only [Option.some.injEq] at h
    have ih := eqFields_sound hn hm hx hy d w fs (j + 1) r f5 (by omega) (by omega) hr
    have int : ∀ {v : V} {k : IntKind} {a : Int} {M : Imm} {β : Env} {u : Value}, intOf v = some (k, a) → R M v β u → u = .int k a := by
      intro v k a M β u h hr
      cases v <;> simp only [intOf] at h <;> try (cases h; done)
      rename_i x
      cases x <;> simp only [Option.some.injEq, Prod.mk.injEq] at h <;> try (cases h; done)
      obtain ⟨rfl, rfl⟩ := h
      exact hr
    have e1 := int ha (hx j (by omega))
    have e2 := int ha' (hy j (by omega))
    have hik : ∃ k, P.underlying f.type = some (.int k) := by
      revert f3
      unfold intKindOf
      cases P.underlying f.type with
      | none => simp
      | some d => cases d <;> simp
    obtain ⟨k3, e3⟩ := hik
    unfold Op.eqFields
    rw [if_pos f1]
    simp only [Sem.run_bind, f2, run_part_one hsh xs j (by omega), run_part_one hsh ys j (by omega), Result.andThen_ok, e1, e2, run_equalIn_int w d f.type q k3 a a' e3]
    cases hb : a == a'
    · rw [hb] at h
      simp only [Bool.false_and] at h
      subst h; rfl
    · rw [hb] at h
      simp only [Bool.true_and] at h
      subst h
      simpa using ih

theorem aggBin_sound {op : BinOp} {t : TypeId} {n m : Nat} {c c' : Nat → V} {q : Prop} {v : Value} {xs ys : Array Value} {M M' : Imm} {β β' : Env} (h : aggBin P op t n c m c' = some (q, v)) (hq : q) (hn : xs.size = n) (hm : ys.size = m) (hx : ∀ j, j < n → R M (c j) β (xs.getD j undef)) (hy : ∀ j, j < m → R M' (c' j) β' (ys.getD j undef)) (w : World) (xo yo : Operand) : (do eqGuard op t xo yo (.agg xs) (.agg ys); binOp op t (.agg xs) (.agg ys) : Sem Value).run P w = .ok v w := by
  unfold aggBin at h
  split at h
  case h_2 => cases h
  rename_i k hk
  unfold eqInts at hk
  split at hk
  case h_2 => cases hk
  rename_i fs hu
  split at hk
  case isFalse => cases hk
  rename_i hfl
  simp only [Bool.and_eq_true, Bool.not_eq_true'] at hfl
  obtain ⟨⟨f1, f2⟩, f3⟩ := hfl
  simp only [Option.some.injEq] at hk
  have hfo : P.fieldsOf t = fs := by unfold Program.fieldsOf; rw [hu]
  have key : ∀ b, k ≤ n ∧ k ≤ m → eqC c c' k 0 = some b → (Op.equalIn 10000 t (.agg xs) (.agg ys)).run P w = .ok b w := by
    intro b hb he
    rw [run_equalIn_struct w 9999 t xs ys (by rw [hfo]; exact hu) f1, hfo]
    exact eqFields_sound hn hm hx hy 9998 w fs.toList 0 b f3 (by omega) (by omega) (by rw [hk]; exact he)
  rw [Sem.run_bind, run_eqGuard_agg w op t xo yo xs ys f2, Result.andThen_ok]
  unfold aggOp at h
  split at h
  · rename_i b he
    simp only [Option.some.injEq, Prod.mk.injEq] at h
    obtain ⟨rfl, rfl⟩ := h
    rw [run_eql_struct, key b hq he, Result.andThen_ok]
  · rename_i b he
    simp only [Option.some.injEq, Prod.mk.injEq] at h
    obtain ⟨rfl, rfl⟩ := h
    rw [run_neq_struct, key b hq he, Result.andThen_ok]
  · cases h

/-! ### build -/

def CellsOK (M : Imm) (β : Env) (n : Nat) (c : Nat → V) (cs : Array Value) : Prop := cs.size = n ∧ ∀ j, j < n → (cs.getD j undef).oneCell' = true ∧ R M (c j) β (cs.getD j undef)

theorem setAll_getD (vs : List Value) : ∀ (k off : Nat) (cs : Array Value), off + k + vs.length ≤ cs.size →
    ((vs.zipIdx k).foldl (fun cs (x : Value × Nat) => cs.setIfInBounds (off + x.2) x.1) cs).size = cs.size ∧
    ∀ j, ((vs.zipIdx k).foldl (fun cs (x : Value × Nat) => cs.setIfInBounds (off + x.2) x.1) cs).getD j undef = if off + k ≤ j ∧ j < off + k + vs.length then vs.getD (j - (off + k)) undef else cs.getD j undef := by
  induction vs with
  | nil => intro k off cs _; refine ⟨rfl, fun j => ?_⟩; simp only [List.zipIdx_nil, List.foldl_nil, List.length_nil]; rw [if_neg (by omega)]
  | cons v vs ih =>
    intro k off cs h
    simp only [List.zipIdx_cons, List.foldl_cons, List.length_cons] at h ⊢
    obtain ⟨h1, h2⟩ := ih (k + 1) off (cs.setIfInBounds (off + k) v) (by simp; omega)
    refine ⟨by simpa using h1, fun j => ?_⟩
    rw [h2]
    by_cases hj : j = off + k
    · subst hj
      rw [if_neg (by omega), if_pos (by omega)]
      simp [Array.getD_eq_getD_getElem?, show off + k < cs.size by omega]
    · by_cases hb : off + k ≤ j ∧ j < off + k + (vs.length + 1)
      · rw [if_pos (by omega), if_pos hb]
        have e : j - (off + k) = (j - (off + (k + 1))) + 1 := by omega
        rw [e]; simp [List.getD]
      · rw [if_neg (by omega), if_neg hb]
        simp only [Array.getD_eq_getD_getElem?, Array.getElem?_setIfInBounds]
        rw [if_neg (fun e => hj e.symm)]

theorem vsize_sound {M : Imm} {β : Env} {v : V} {q : Nat} {u : Value} (h : vsize v = some q) (hr : R M v β u) :
    u.cells.size = q ∧ ∀ off j, off ≤ j → j < off + q → (u.cells.toList.getD (j - off) undef).oneCell' = true ∧ R M (ovr off q v (fun _ => .any) j) β (u.cells.toList.getD (j - off) undef) := by
  have single : ∀ u : Value, u.oneCell' = true → u.cells = #[u] := fun u hu => by cases u <;> first | rfl | (simp [Value.oneCell'] at hu)
  have one : ∀ (v : V) (u : Value), u.oneCell' = true → R M v β u → (∀ n c, v ≠ .agg n c) →
      u.cells.size = 1 ∧ ∀ off j, off ≤ j → j < off + 1 → (u.cells.toList.getD (j - off) undef).oneCell' = true ∧ R M (ovr off 1 v (fun _ => .any) j) β (u.cells.toList.getD (j - off) undef) := by
    intro v u h1 hr hne
    rw [single u h1]
    refine ⟨rfl, fun off j h0 hj => ?_⟩
    have e : j - off = 0 := by omega
    rw [e]
    refine ⟨h1, ?_⟩
    unfold ovr
    rw [if_pos ⟨h0, hj⟩]
    cases v <;> first | exact hr | exact absurd rfl (hne _ _)
  cases v with
  | any => cases h
  | tup n c => cases h
  | raw x =>
    simp only [vsize] at h
    split at h
    · rename_i hx
      obtain rfl : 1 = q := by simpa using h
      have e : u = x := hr
      exact one _ u (by rw [e]; exact hx) hr (by intro n c; simp)
    · cases h
  | e0 =>
    obtain rfl : 1 = q := by simpa [vsize] using h
    obtain ⟨A, e⟩ := hr
    exact one .e0 u (by rw [e]; rfl) ⟨A, e⟩ (by intro n c; simp)
  | sl sz n f =>
    obtain rfl : 1 = q := by simpa [vsize] using h
    obtain ⟨A, cap, e, h'⟩ := hr
    exact one (.sl sz n f) u (by rw [e]; rfl) ⟨A, cap, e, h'⟩ (by intro n c; simp)
  | cp n c =>
    obtain rfl : 1 = q := by simpa [vsize] using h
    obtain ⟨A, e, h'⟩ := hr
    exact one (.cp n c) u (by rw [e]; rfl) ⟨A, e, h'⟩ (by intro n c; simp)
  | ptr o i j =>
    obtain rfl : 1 = q := by simpa [vsize] using h
    obtain ⟨g, e, h'⟩ := hr
    exact one (.ptr o i j) u (by rw [h']; rfl) ⟨g, e, h'⟩ (by intro n c; simp)
  | vec o =>
    obtain rfl : 1 = q := by simpa [vsize] using h
    obtain ⟨e, A, n, c, h'⟩ := hr
    exact one (.vec o) u (by rw [h']; rfl) ⟨e, A, n, c, h'⟩ (by intro n c; simp)
  | agg n c =>
    obtain rfl : n = q := by simpa [vsize] using h
    obtain ⟨cs, rfl, h2, h3⟩ := hr
    refine ⟨h2, fun off j h0 hj => ?_⟩
    have := h3 (j - off) (by omega)
    have e : (Value.agg cs).cells.toList.getD (j - off) undef = cs.getD (j - off) undef := by
      simp [Value.cells, Array.getD_eq_getD_getElem?, List.getD]
    rw [e]
    refine ⟨this.1, ?_⟩
    unfold ovr
    rw [if_pos ⟨h0, hj⟩]
    exact this.2

theorem ovr_any {off size : Nat} {v : V} {c : Nat → V} {j : Nat} (h : off ≤ j ∧ j < off + size) : ovr off size v c j = ovr off size v (fun _ => .any) j := by
  unfold ovr; rw [if_pos h, if_pos h]
theorem ovr_out {off size : Nat} {v : V} {c : Nat → V} {j : Nat} (h : ¬ (off ≤ j ∧ j < off + size)) : ovr off size v c j = c j := by
  unfold ovr; rw [if_neg h]

theorem fill_sound {M : Imm} {β : Env} (places : List (Nat × Nat)) (n : Nat) : ∀ (l : List (Nat × V)) (l' : List (Nat × Value)) (c c' : Nat → V) (cs : Array Value), l.length = l'.length →
    (∀ (k : Nat) (x : Nat × V), l[k]? = some x → ∃ y : Nat × Value, l'[k]? = some y ∧ y.1 = x.1 ∧ R M x.2 β y.2) → CellsOK M β n c cs → fillV places n l c = some c' →
    ∃ cs', Instr.fill (fun i => places[i]?) cs l' = some cs' ∧ CellsOK M β n c' cs'
  | [], l', c, c', cs, hl, _, hc, h => by
    obtain rfl : l' = [] := List.eq_nil_of_length_eq_zero (by simpa using hl.symm)
    simp only [fillV, Option.some.injEq] at h
    subst h
    exact ⟨cs, rfl, hc⟩
  | (f, v) :: l, l', c, c', cs, hl, hr, hc, h => by
    cases l' with
    | nil => simp at hl
    | cons y l' =>
      obtain ⟨y', hy', e1, e2⟩ := hr 0 (f, v) rfl
      obtain rfl : y = y' := by simpa using hy'
      obtain ⟨f', u⟩ := y
      obtain rfl : f' = f := e1
      simp only [fillV] at h
      cases hp : places[f']? with
      | none => simp [hp] at h
      | some p =>
        obtain ⟨off, size⟩ := p
        cases hv : vsize v with
        | none => simp [hp, hv] at h
        | some q =>
          simp only [hp, hv] at h
          split at h
          · rename_i hq
            obtain ⟨rfl, hle⟩ := hq
            obtain ⟨s1, s2⟩ := vsize_sound hv e2
            have hsz : ¬ (u.cells.size ≠ q ∨ off + u.cells.size > cs.size) := by rw [s1, hc.1]; omega
            have hlen : u.cells.toList.length = q := by simpa using s1
            obtain ⟨g1, g2⟩ := setAll_getD u.cells.toList 0 off cs (by rw [hlen, hc.1]; omega)
            simp only [Nat.add_zero, hlen] at g2
            have hfold : u.cells.zipIdx.foldl (fun cs (x : Value × Nat) => cs.setIfInBounds (off + x.2) x.1) cs = (u.cells.toList.zipIdx 0).foldl (fun cs (x : Value × Nat) => cs.setIfInBounds (off + x.2) x.1) cs := by
              rw [← Array.foldl_toList]; simp
            have hc2 : CellsOK M β n (ovr off q v c) (u.cells.zipIdx.foldl (fun cs (x : Value × Nat) => cs.setIfInBounds (off + x.2) x.1) cs) := by
              rw [hfold]
              refine ⟨g1.trans hc.1, fun j hj => ?_⟩
              rw [g2]
              by_cases hb : off ≤ j ∧ j < off + q
              · rw [if_pos hb, ovr_any hb]; exact s2 off j hb.1 hb.2
              · rw [if_neg hb, ovr_out hb]; exact hc.2 j hj
            obtain ⟨cs', k1, k2⟩ := fill_sound places n l l' (ovr off q v c) c' _ (by simpa using hl) (fun k x hx => by
              obtain ⟨y, h1, h2⟩ := hr (k + 1) x (by simpa using hx)
              exact ⟨y, by simpa using h1, h2⟩) hc2 h
            refine ⟨cs', ?_, k2⟩
            simp only [Instr.fill, hp]
            rw [if_neg (by simpa using hsz)]
            exact k1
          · cases h

theorem structOf_spec {t : TypeId} {z : List Value} {places : List (Nat × Nat)} (h : structOf P t = some (z, places)) :
    ∃ i fs, P.info? t = some i ∧ P.underlying t = some (.struct fs) ∧ i.zero = some (.agg z.toArray) ∧ (∀ f ∈ fs.toList, (P.info? f.type).isSome = true) ∧ (∀ u ∈ z, u.oneCell' = true) ∧
      places = fs.toList.map fun f => (f.offset, ((P.info? f.type).map (·.size)).getD 0) := by
  unfold structOf at h
  cases hi : P.info? t with
  | none => simp [hi] at h
  | some i =>
    cases hz : i.zero with
    | none => simp [hi, hz] at h
    | some zv =>
      cases hu : P.underlying t with
      | none => simp [hi, hz, hu] at h
      | some d =>
        cases zv <;> cases d <;> simp only [hi, hz, hu] at h <;> try (cases h; done)
        rename_i zs fs
        split at h
        · rename_i hb
          simp only [Option.some.injEq, Prod.mk.injEq] at h
          obtain ⟨rfl, rfl⟩ := h
          simp only [Bool.and_eq_true, Array.all_eq_true_iff_forall_mem] at hb
          exact ⟨i, fs, rfl, rfl, by rw [hz], fun f hf => hb.1 f (by simpa using hf), fun u hu' => hb.2 u (by simpa using hu'), rfl⟩
        · cases h

theorem run_places (fs : List Field) (h : ∀ f ∈ fs, (P.info? f.type).isSome = true) (w : World) :
    (fs.mapM fun f => (do pure (f.offset, ← sizeOf f.type) : Sem (Nat × Nat))).run P w = .ok (fs.map fun f => (f.offset, ((P.info? f.type).map (·.size)).getD 0)) w := by
  induction fs with
  | nil => rfl
  | cons f fs ih =>
    have hf := h f (by simp)
    cases hi : P.info? f.type with
    | none => rw [hi] at hf; cases hf
    | some i =>
      rw [List.mapM_cons]
      simp only [Sem.run_bind, run_sizeOf_of w hi, Result.andThen_ok, Sem.run_pure, ih (fun g hg => h g (by simp [hg])), List.map_cons, hi, Option.map_some, Option.getD_some]

theorem run_build_of {M : Imm} {β : Env} {t : TypeId} {z : List Value} {places : List (Nat × Nat)} (hs : structOf P t = some (z, places)) {l : List (Nat × V)} {c : Nat → V} (hf : fillV places z.length l (rawCells z) = some c)
    (parts : Array (Nat × Value)) (hl : l.length = parts.size) (hr : ∀ (k : Nat) (x : Nat × V), l[k]? = some x → ∃ y : Nat × Value, parts[k]? = some y ∧ y.1 = x.1 ∧ R M x.2 β y.2) (w : World) :
    ∃ cs, (Instr.build t parts).run P w = .ok (.agg cs) w ∧ CellsOK M β z.length c cs := by
  obtain ⟨i, fs, hi, hu, hz, hall, hone, rfl⟩ := structOf_spec hs
  have hc0 : CellsOK M β z.length (rawCells z) z.toArray := by
    refine ⟨by simp, fun j hj => ?_⟩
    have e : z.toArray.getD j undef = z[j] := by simp [Array.getD_eq_getD_getElem?, hj]
    refine ⟨by rw [e]; exact hone _ (List.getElem_mem hj), ?_⟩
    show z.toArray.getD j undef = z.getD j undef
    simp [Array.getD_eq_getD_getElem?, List.getD]
  obtain ⟨cs, h1, h2⟩ := fill_sound _ z.length l parts.toList (rawCells z) c z.toArray (by simpa using hl) (fun k x hx => by
    obtain ⟨y, e1, e2⟩ := hr k x hx
    exact ⟨y, by simpa using e1, e2⟩) hc0 hf
  refine ⟨cs, ?_, h2⟩
  have hm : (fs.mapM fun f => (do pure (f.offset, ← sizeOf f.type) : Sem (Nat × Nat))).run P w = .ok (fs.toList.map fun f => (f.offset, ((P.info? f.type).map (·.size)).getD 0)).toArray w := by
    rw [Array.mapM_eq_mapM_toList, Sem.run_map, run_places fs.toList hall w]
    rfl
  have hzv : (zeroValue t).run P w = .ok (.agg z.toArray) w := by simp [zeroValue, typeInfo, hi, hz]
  simp only [Instr.build, Sem.run_bind, hzv, Result.andThen_ok, run_underlying hu, hm, Value.cells]
  simp only [List.getElem?_toArray, h1]
  rfl

theorem fill_mono {f g : Nat → Option (Nat × Nat)} (hfg : ∀ i x, f i = some x → g i = some x) : ∀ (l : List (Nat × Value)) (cs cs' : Array Value), Instr.fill f cs l = some cs' → Instr.fill g cs l = some cs'
  | [], cs, cs', h => h
  | (i, v) :: l, cs, cs', h => by
    simp only [Instr.fill] at h ⊢
    cases hf : f i with
    | none => rw [hf] at h; cases h
    | some x =>
      rw [hf] at h
      rw [hfg i x hf]
      obtain ⟨off, size⟩ := x
      simp only at h ⊢
      split at h
      · cases h
      · rename_i hn
        rw [if_neg hn]
        exact fill_mono hfg l _ cs' h

theorem run_build_arr {M : Imm} {β : Env} {t : TypeId} {z : List Value} {places : List (Nat × Nat)} (hs : arrZ P t = some (z, places)) {l : List (Nat × V)} {c : Nat → V} (hf : fillV places z.length l (rawCells z) = some c)
    (parts : Array (Nat × Value)) (hl : l.length = parts.size) (hr : ∀ (k : Nat) (x : Nat × V), l[k]? = some x → ∃ y : Nat × Value, parts[k]? = some y ∧ y.1 = x.1 ∧ R M x.2 β y.2) (w : World) :
    ∃ cs, (Instr.build t parts).run P w = .ok (.agg cs) w ∧ CellsOK M β z.length c cs := by
  unfold arrZ at hs
  cases hi : P.info? t with
  | none => simp [hi] at hs
  | some i =>
    cases hz : i.zero with
    | none => simp [hi, hz] at hs
    | some zv =>
      cases hu : P.underlying t with
      | none => simp [hi, hz, hu] at hs
      | some d =>
        cases zv <;> cases d <;> simp only [hi, hz, hu] at hs <;> try (cases hs; done)
        rename_i zs len e
        cases he : P.info? e with
        | none => simp [he] at hs
        | some ie =>
          simp only [he] at hs
          split at hs
          · rename_i hb
            simp only [Option.some.injEq, Prod.mk.injEq] at hs
            obtain ⟨rfl, rfl⟩ := hs
            rw [Array.all_eq_true_iff_forall_mem] at hb
            have hc0 : CellsOK M β zs.toList.length (rawCells zs.toList) zs := by
              refine ⟨by simp, fun j hj => ?_⟩
              have hj' : j < zs.size := by simpa using hj
              have e : zs.getD j undef = zs[j] := by simp [Array.getD_eq_getD_getElem?, hj']
              refine ⟨by rw [e]; exact hb _ (Array.getElem_mem hj'), ?_⟩
              show zs.getD j undef = zs.toList.getD j undef
              simp [Array.getD_eq_getD_getElem?, List.getD]
            obtain ⟨cs, h1, h2⟩ := fill_sound _ zs.toList.length l parts.toList (rawCells zs.toList) c zs (by simpa using hl) (fun k x hx => by
              obtain ⟨y, e1, e2⟩ := hr k x hx
              exact ⟨y, by simpa using e1, e2⟩) hc0 hf
            refine ⟨cs, ?_, h2⟩
            have h3 := fill_mono (g := fun i => some (i * ie.size, ie.size)) (fun i x hx => by
              rw [List.getElem?_map] at hx
              rcases Nat.lt_or_ge i len with h | h
              · rw [List.getElem?_range h] at hx; exact hx
              · rw [List.getElem?_eq_none (by simpa using h)] at hx; cases hx) _ _ _ h1
            have hzv : (zeroValue t).run P w = .ok (.agg zs) w := by simp [zeroValue, typeInfo, hi, hz]
            simp only [Instr.build, Sem.run_bind, hzv, Result.andThen_ok, run_underlying hu, run_sizeOf_of w he, Value.cells, h3]
            rfl
          · cases hs
theorem run_build_agg {M : Imm} {β : Env} {t : TypeId} {z : List Value} {places : List (Nat × Nat)} (hs : aggOf P t = some (z, places)) {l : List (Nat × V)} {c : Nat → V} (hf : fillV places z.length l (rawCells z) = some c)
    (parts : Array (Nat × Value)) (hl : l.length = parts.size) (hr : ∀ (k : Nat) (x : Nat × V), l[k]? = some x → ∃ y : Nat × Value, parts[k]? = some y ∧ y.1 = x.1 ∧ R M x.2 β y.2) (w : World) :
    ∃ cs, (Instr.build t parts).run P w = .ok (.agg cs) w ∧ CellsOK M β z.length c cs := by
  unfold aggOf at hs
  cases h : structOf P t with
  | some x => rw [h] at hs; exact run_build_of (by rw [h]; exact hs) hf parts hl hr w
  | none => rw [h] at hs; exact run_build_arr hs hf parts hl hr w

end
end Go.Proofs.YtfnfbdccmggfoaaGreatDoor.Pg
