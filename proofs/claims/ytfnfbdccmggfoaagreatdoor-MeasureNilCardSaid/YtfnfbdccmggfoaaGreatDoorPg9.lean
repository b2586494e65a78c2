/-
  Slice literals and append: sound.
-/
import Derived.Test.YtfnfbdccmggfoaaGreatDoorPg8
set_option linter.unusedSimpArgs false
set_option linter.unusedVariables false
namespace Go.Proofs.YtfnfbdccmggfoaaGreatDoor.Pg
open Go.RowKit

section
variable {P : Program}

theorem sliceOf_spec {t e : TypeId} {sz bytes : Nat} {z : List Value} (h : sliceOf P t = some (e, sz, bytes, z)) :
    ∃ i zv, P.underlying t = some (.slice e) ∧ P.info? e = some i ∧ i.zero = some zv ∧ i.size = sz ∧ i.bytes = bytes ∧ zv.cells.size = sz ∧ 0 < sz ∧ 0 < bytes ∧ z = zv.cells.toList ∧ (∀ u ∈ z, u.oneCell' = true) := by
  unfold sliceOf at h
  cases hu : P.underlying t with
  | none => simp [hu] at h
  | some d =>
    cases d <;> simp only [hu] at h <;> try (cases h; done)
    rename_i e'
    cases hi : P.info? e' with
    | none => simp [hi] at h
    | some i =>
      cases hz : i.zero with
      | none => simp [hi, hz] at h
      | some zv =>
        simp only [hi, hz] at h
        split at h
        · rename_i hb
          simp only [Option.some.injEq, Prod.mk.injEq] at h
          obtain ⟨rfl, rfl, rfl, rfl⟩ := h
          simp only [Bool.and_eq_true, decide_eq_true_eq, beq_iff_eq] at hb
          refine ⟨i, zv, rfl, hi, hz, rfl, rfl, hb.1.1.2, hb.1.2, hb.2, rfl, fun u hu' => ?_⟩
          have := hb.1.1.1
          rw [Array.all_eq_true_iff_forall_mem] at this
          exact this u (by simpa using hu')
        · cases h

/-- The cells of a row of elements. -/
def RowOK (M : Imm) (sz len : Nat) (f : Nat → Nat → V) (cs : Array Value) : Prop :=
  cs.size = len * sz ∧ ∀ i j, i < len → j < sz → (cs.getD (i * sz + j) undef).oneCell' = true ∧ R M (f i j) β0 (cs.getD (i * sz + j) undef)

theorem row_lt {i j len sz : Nat} (hi : i < len) (hj : j < sz) : i * sz + j < len * sz := by
  have : (i + 1) * sz ≤ len * sz := Nat.mul_le_mul_right sz hi
  rw [Nat.add_mul, Nat.one_mul] at this
  omega

theorem row_out {i k j sz : Nat} (hne : i ≠ k) (hj : j < sz) : ¬ (k * sz ≤ i * sz + j ∧ i * sz + j < k * sz + sz) := by
  rcases Nat.lt_or_ge i k with h | h
  · have : (i + 1) * sz ≤ k * sz := Nat.mul_le_mul_right sz h
    rw [Nat.add_mul, Nat.one_mul] at this
    omega
  · have : (k + 1) * sz ≤ i * sz := Nat.mul_le_mul_right sz (by omega)
    rw [Nat.add_mul, Nat.one_mul] at this
    omega

theorem fillE_sound {M : Imm} {β : Env} (sz len : Nat) : ∀ (l : List (Nat × V)) (l' : List (Nat × Value)) (f f' : Nat → Nat → V) (cs : Array Value), l.length = l'.length →
    (∀ (k : Nat) (x : Nat × V), l[k]? = some x → ∃ y : Nat × Value, l'[k]? = some y ∧ y.1 = x.1 ∧ R M x.2 β y.2) → RowOK M sz len f cs → fillE sz len l f = some f' →
    ∃ cs', Instr.fill (fun i => some (i * sz, sz)) cs l' = some cs' ∧ RowOK M sz len f' cs'
  | [], l', f, f', cs, hl, _, hc, h => by
    obtain rfl : l' = [] := List.eq_nil_of_length_eq_zero (by simpa using hl.symm)
    simp only [fillE, Option.some.injEq] at h
    subst h
    exact ⟨cs, rfl, hc⟩
  | (k, v) :: l, l', f, f', cs, hl, hr, hc, h => by
    cases l' with
    | nil => simp at hl
    | cons y l' =>
      obtain ⟨y', hy', e1, e2⟩ := hr 0 (k, v) rfl
      obtain rfl : y = y' := by simpa using hy'
      obtain ⟨k', u⟩ := y
      obtain rfl : k' = k := e1
      simp only [fillE] at h
      cases hv : vsize v with
      | none => simp [hv] at h
      | some q =>
        simp only [hv] at h
        split at h
        · rename_i hq
          obtain ⟨rfl, hlt, himm⟩ := hq
          obtain ⟨s1, s2⟩ := vsize_sound hv e2
          have hk : k' * q + q ≤ len * q := by
            have : (k' + 1) * q ≤ len * q := Nat.mul_le_mul_right q hlt
            rwa [Nat.add_mul, Nat.one_mul] at this
          have hsz : ¬ (u.cells.size ≠ q ∨ k' * q + u.cells.size > cs.size) := by rw [s1, hc.1]; omega
          have hlen : u.cells.toList.length = q := by simpa using s1
          obtain ⟨g1, g2⟩ := setAll_getD u.cells.toList 0 (k' * q) cs (by rw [hlen, hc.1]; omega)
          simp only [Nat.add_zero, hlen] at g2
          have hfold : u.cells.zipIdx.foldl (fun cs (x : Value × Nat) => cs.setIfInBounds (k' * q + x.2) x.1) cs = (u.cells.toList.zipIdx 0).foldl (fun cs (x : Value × Nat) => cs.setIfInBounds (k' * q + x.2) x.1) cs := by
            rw [← Array.foldl_toList]; simp
          have hc2 : RowOK M q len (ovrE k' q v f) (u.cells.zipIdx.foldl (fun cs (x : Value × Nat) => cs.setIfInBounds (k' * q + x.2) x.1) cs) := by
            rw [hfold]
            refine ⟨g1.trans hc.1, fun i j hi hj => ?_⟩
            rw [g2]
            by_cases hik : i = k'
            · subst hik
              rw [if_pos (by omega)]
              have e : ovrE i q v f i = ovr 0 q v (f i) := if_pos rfl
              rw [e, ovr_any ⟨Nat.zero_le _, by omega⟩, show i * q + j - i * q = j - 0 from by omega]
              have := s2 0 j (Nat.zero_le _) (by omega)
              exact ⟨this.1, ovr_imm himm ⟨Nat.zero_le _, by omega⟩ hv rfl this.2⟩
            · rw [if_neg (row_out hik hj)]
              have e : ovrE k' q v f i = f i := if_neg hik
              rw [e]
              exact hc.2 i j hi hj
          obtain ⟨cs', k1, k2⟩ := fillE_sound q len l l' (ovrE k' q v f) f' _ (by simpa using hl) (fun k x hx => by
            obtain ⟨y, h1, h2⟩ := hr (k + 1) x (by simpa using hx)
            exact ⟨y, by simpa using h1, h2⟩) hc2 h
          refine ⟨cs', ?_, k2⟩
          simp only [Instr.fill]
          rw [if_neg (by simpa using hsz)]
          exact k1
        · cases h

theorem zeros_row (M : Imm) (zs : Array Value) (sz len : Nat) (hs : zs.size = sz) (h1 : ∀ u ∈ zs.toList, u.oneCell' = true) :
    RowOK M sz len (fun _ => rawCells zs.toList) ((Array.range (len * sz)).map fun k => zs[k % zs.size]!) := by
  refine ⟨by simp, fun i j hi hj => ?_⟩
  have hlt := row_lt hi hj
  have e : ((Array.range (len * sz)).map fun k => zs[k % zs.size]!).getD (i * sz + j) undef = zs.toList.getD j undef := by
    have hm : (i * sz + j) % zs.size = j := by
      rw [hs, Nat.mul_comm, Nat.mul_add_mod]; exact Nat.mod_eq_of_lt hj
    have hj' : j < zs.size := by omega
    simp [Array.getD_eq_getD_getElem?, hlt, hm, hj', List.getD]
  rw [e]
  refine ⟨?_, rfl⟩
  have hj' : j < zs.toList.length := by simp; omega
  rw [List.getD, List.getElem?_eq_getElem hj']
  exact h1 _ (List.getElem_mem hj')

/-- A new row of elements, as an object. -/
theorem ObOK.row {X : Ctx} {M : Imm} {β : Env} {w : World} {e : TypeId} {sz len : Nat} {f : Nat → Nat → V} {cs : Array Value} (hb : X.w0.heap.size ≤ w.heap.size) (hr : RowOK M sz len f cs) (hmx : len ≤ maxLen) (hfresh : ∀ off s, M ⟨w.heap.size, off, s⟩ = none) :
    ObOK X M β (w.alloc (.cells cs e)) (.slice (some ⟨w.heap.size, 0, none⟩) len len, sz) (.vec e sz len 0 f) := by
  refine ⟨cs.toList, ⟨by simpa using hr.1, .inr ⟨w.heap.size, len, cs, rfl, hb, getElem_alloc_new w _, Nat.le_refl _, hmx, hr.1, ?_⟩⟩, rfl, fun i j hi hj => ?_, fun g hg off s _ => ?_⟩
  · rw [List.take_of_length_le (by simp [hr.1])]
  · have hlt : i * sz + j < cs.size := by rw [hr.1]; exact row_lt hi hj
    obtain ⟨h1, h2⟩ := hr.2 i j hi hj
    exact ⟨_, by simp [Array.getD_eq_getD_getElem?, hlt], h1, h2⟩
  · have : w.heap.size = g := by simpa [blk] using hg
    subst this
    exact hfresh off s

theorem buildSlice_sound {st : St} {o : Oper} {t : TypeId} {len : Nat} {parts : Array (Nat × Operand)} {K : St → Prop} (ho : o.op = .buildSlice t len parts) (h : vcS P st o.op o.dst K) : StOK P st o K := by
  rw [ho] at h
  simp only [vcS] at h
  split at h
  · rename_i e sz bytes z hsl
    obtain ⟨hd, hle, h⟩ := h
    split at h
    · rename_i f hf
      obtain ⟨i, zv, hu, hi, hz, hsz, hby, hzs, h0, hb0, rfl, hone⟩ := sliceOf_spec hsl
      intro X a w Q next ⟨M, β, hs⟩ hn
      have hrow0 := zeros_row M zv.cells sz len hzs hone
      obtain ⟨cs, k1, k2⟩ := fillE_sound (M := M) (β := β) sz len _ (parts.toList.map fun p => (p.1, a.eval p.2)) (fun _ => rawCells zv.cells.toList) f _ (by simp) (fun k x hk => by
        simp only [List.getElem?_map, Option.map_eq_some_iff] at hk
        obtain ⟨p, hp, rfl⟩ := hk
        exact ⟨(p.1, a.eval p.2), by simp [hp], rfl, ev_sound hs p.2⟩) hrow0 hf
      have hmx : len ≤ maxLen := by
        have : len ≤ len * sz := Nat.le_mul_of_pos_right len h0
        simp only [maxLen]; omega
      have hm := hs.mem.new (ob := .vec e sz len 0 f) (val := (.slice (some ⟨w.heap.size, 0, none⟩) len len, sz)) (grownBy_alloc w (.cells cs e)) (ObOK.row hs.mem.below.size k2 hmx (fun off s => hs.mem.fresh (Nat.le_refl _) off s)) (fun g hg => by
        have : w.heap.size = g := by simpa [blk] using hg
        omega)
      refine wp_value (w' := w.alloc (.cells cs e)) (v := .slice (some ⟨w.heap.size, 0, none⟩) len len) ?_ (hn _ _ _ h ⟨M, upd β st.nx (.slice (some ⟨w.heap.size, 0, none⟩) len len, sz), ?_⟩)
      · unfold execOp
        simp only [ho]
        refine run_v ?_
        have hno : ¬ (len * i.size > 2 ^ 24) := by rw [hsz]; omega
        have hzv : (zeroValue e).run P w = .ok zv w := by simp [zeroValue, typeInfo, hi, hz]
        have hmap0 : ∀ g : Nat → Value, (Array.range 0).map g = #[] := fun g => by simp
        simp only [Instr.buildSlice, Sem.run_bind, run_underlying hu, Result.andThen_ok, run_sizeOf_of w hi, if_neg hno]
        simp only [Array.toList_map]
        rw [hsz]
        by_cases hl0 : len * sz = 0
        · rw [if_pos hl0]
          rw [hl0, hmap0] at k1
          simp only [Sem.run_bind, Sem.run_pure, Result.andThen_ok, hl0, hmap0, k1]
          simp [newRow]
        · rw [if_neg hl0]
          simp only [Sem.run_bind, Sem.run_pure, Result.andThen_ok, hzv, k1]
          simp [newRow]
      · refine (hs.env hm.1 hm.2 rfl rfl).put (Imm.Le.refl M) hm.1 hd ?_
        exact ⟨by rw [upd_same], _, _, _, rfl⟩
    · exact h.elim
  · exact h.elim

/-! ### append -/

/-- What a source of an append holds. -/
theorem srcV_sound {st : St} {sz : Nat} {x : V} {c0 : Prop} {m : Nat} {g : Nat → Nat → V} (h : srcV st sz x = some (c0, m, g)) (hc0 : c0) : ∀ X M β w u, Mem X M β st w → R M x β u →
    ∃ A c, u = .slice A m c ∧ (A = none → m = 0) ∧ ∀ ad, A = some ad → ∀ i j, i < m → j < sz → ∃ v, w.cell? (ad.add (i * sz + j)) = some v ∧ v.oneCell' = true ∧ R M (g i j) β0 v := by
  unfold srcV at h
  split at h
  · rename_i sz' m' g'
    simp only [Option.some.injEq, Prod.mk.injEq] at h
    obtain ⟨rfl, rfl, rfl⟩ := h
    subst hc0
    intro X M β w u hm hr
    obtain ⟨A, cap, rfl, hc, hmx, hA⟩ := hr
    refine ⟨A, cap, rfl, fun e => ?_, fun ad e i j hi hj => ?_⟩
    · rcases Nat.eq_zero_or_pos m' with h0 | h0
      · exact h0
      · obtain ⟨ad, h1, _⟩ := hA h0; rw [e] at h1; cases h1
    · obtain ⟨ad', h1, h2⟩ := hA (by omega)
      rw [e] at h1
      cases h1
      obtain ⟨v, e1, e2⟩ := h2 i hi j hj
      exact ⟨v, (hm.cons _ _ e1).1, (hm.cons _ _ e1).2, e2⟩
  · rename_i o
    split at h
    · rename_i e sz' m' fz g' hσ
      simp only [Option.some.injEq, Prod.mk.injEq] at h
      obtain ⟨rfl, rfl, rfl⟩ := h
      subst hc0
      intro X M β w u hm hr
      obtain ⟨rfl, _⟩ := hr
      obtain ⟨A, cap, hv, hc, hmx, hA⟩ := hm.lenVec hσ
      obtain ⟨_, _, hsz, _⟩ := hm.vec o e sz' m' fz g' hσ
      refine ⟨A, cap, hv, fun e => ?_, fun ad e i j hi hj => ?_⟩
      · rcases Nat.eq_zero_or_pos m' with h0 | h0
        · exact h0
        · obtain ⟨g, h1⟩ := hA h0; rw [e] at h1; cases h1
      · obtain ⟨gb, h1⟩ := hA (by omega)
        rw [e] at h1
        cases h1
        obtain ⟨v, e1, e2, e3⟩ := hm.cellVec hσ hi hj (g := gb) (by rw [hv, e]; rfl)
        exact ⟨v, by rw [add_none]; simpa [hsz] using e1, e2, e3⟩
    · cases h
  · simp only [Option.some.injEq, Prod.mk.injEq] at h
    obtain ⟨rfl, rfl, rfl⟩ := h
    exact fun X M β w u hm hr => ⟨none, 0, hr, fun _ => rfl, fun ad e => by cases e⟩
  · cases h

theorem run_append_nil (base : Nat) (t ty e : TypeId) (i : TypeInfo) (size : Nat) (ht : P.underlying t = some (.slice e)) (hi : P.info? e = some i)
    (w : World) (v : Value) (n : Nat) (xs : List Value) (hown : w.ownsRow base e size v n xs) (c : Nat) : (Builtin.append_ #[t, t] ty #[v, .slice none 0 c]).run P w = .ok v w := by
  rcases hown.2 with ⟨rfl, rfl⟩ | ⟨g, cap, cur, rfl, _, _, hnc, _⟩
  · simp [Builtin.append_, run_underlying ht, sizeOf, typeInfo, hi, Builtin.lenOf, Builtin.firstCells]
  · simp [Builtin.append_, run_underlying ht, sizeOf, typeInfo, hi, Builtin.lenOf, Builtin.firstCells, hnc, storeCells]

/-- The append itself: what was owned, and what is to come; what is owned then. -/
theorem run_append_ok {t ty e : TypeId} {sz bytes : Nat} {z : List Value} (hsl : sliceOf P t = some (e, sz, bytes, z)) {base : Nat} {w : World} {v : Value} {n : Nat} {xs : List Value} (hown : w.ownsRow base e sz v n xs)
    {A : Option Addr} {m c : Nat} (hA0 : A = none → m = 0) {g : Nat → Nat → V} {M : Imm} (hA : ∀ ad, A = some ad → ∀ i j, i < m → j < sz → ∃ v, w.cell? (ad.add (i * sz + j)) = some v ∧ v.oneCell' = true ∧ R M (g i j) β0 v)
    (hbytes : (n + m) * bytes ≤ 140737488355328) (hbase : base ≤ w.heap.size) :
    ∃ v' w' news, (Builtin.append_ #[t, t] ty #[v, .slice A m c]).run P w = .ok v' w' ∧ w'.ownsRow base e sz v' (n + m) (xs ++ news) ∧ news.length = m * sz ∧ w.grownBy w' v.ownBlock ∧
      (v'.ownBlock = v.ownBlock ∨ v'.ownBlock = some w.heap.size) ∧ ∀ i j, i < m → j < sz → ∃ u, news[i * sz + j]? = some u ∧ u.oneCell' = true ∧ R M (g i j) β0 u := by
  obtain ⟨i, zv, hu, hi, hz, hsz, hby, hzs, h0, hb0, rfl, hone⟩ := sliceOf_spec hsl
  cases A with
  | none =>
    obtain rfl := hA0 rfl
    exact ⟨v, w, [], run_append_nil base t ty e i sz hu hi w v n xs hown c, by simpa using hown, by simp, World.grownBy.refl w _, .inl rfl, fun i j hi => by omega⟩
  | some ad =>
    have hcell : ∀ k, k < m * sz → ∃ u, w.cell? (ad.add k) = some u ∧ u.oneCell' = true ∧ R M (g (k / sz) (k % sz)) β0 u := by
      intro k hk
      have hi' : k / sz < m := Nat.div_lt_of_lt_mul (by rwa [Nat.mul_comm])
      have hj' : k % sz < sz := Nat.mod_lt k h0
      obtain ⟨u, e1, e2, e3⟩ := hA ad rfl (k / sz) (k % sz) hi' hj'
      rw [show k / sz * sz + k % sz = k from by rw [Nat.mul_comm]; exact Nat.div_add_mod k sz] at e1
      exact ⟨u, e1, e2, e3⟩
    let news : List Value := (List.range (m * sz)).map fun k => (w.cell? (ad.add k)).getD undef
    have hget : ∀ k u, news[k]? = some u → k < m * sz ∧ w.cell? (ad.add k) = some u ∧ u.oneCell' = true ∧ R M (g (k / sz) (k % sz)) β0 u := by
      intro k u hk
      simp only [news, List.getElem?_map, Option.map_eq_some_iff] at hk
      obtain ⟨q, hq, rfl⟩ := hk
      obtain ⟨hlt, rfl⟩ : k < m * sz ∧ k = q := by simpa [List.getElem?_range'] using (by
        rw [List.getElem?_eq_some_iff] at hq
        obtain ⟨h1, h2⟩ := hq
        simp at h1 h2
        exact ⟨h1, h2⟩ : k < m * sz ∧ k = q)
      obtain ⟨u, e1, e2, e3⟩ := hcell k hlt
      rw [e1]
      exact ⟨hlt, rfl, e2, e3⟩
    have hlen : news.length = m * sz := by simp [news]
    have h63 : n + m ≤ maxLen := by
      have : n + m ≤ (n + m) * bytes := Nat.le_mul_of_pos_right _ hb0
      simp only [maxLen]; omega
    obtain ⟨v', w', r1, r2, r3, r4, r5⟩ := run_append_own_at (P := P) w base t ty e i zv sz bytes hu hi hz hsz hby hzs h0 v n xs hown ad m c news hlen (fun k u hk => (hget k u hk).2.1)
      (fun u hu' => by obtain ⟨k, hk⟩ := List.getElem?_of_mem hu'; exact (hget k u hk).2.2.1) h63 hbytes hbase
    refine ⟨v', w', news, r1, r2, hlen, r3, r5, fun i' j' hi' hj' => ?_⟩
    have hlt : i' * sz + j' < news.length := by rw [hlen]; exact row_lt hi' hj'
    have hk := hget (i' * sz + j') _ (List.getElem?_eq_getElem hlt)
    refine ⟨_, List.getElem?_eq_getElem hlt, hk.2.2.1, ?_⟩
    have := hk.2.2.2
    rw [show (i' * sz + j') / sz = i' from by rw [Nat.mul_comm, Nat.mul_add_div h0, Nat.div_eq_of_lt hj', Nat.add_zero], show (i' * sz + j') % sz = j' from by rw [Nat.mul_comm, Nat.mul_add_mod]; exact Nat.mod_eq_of_lt hj'] at this
    exact this

theorem blk_ownBlock {v : Value} {A : Option Addr} {n c : Nat} (h : v = .slice A n c) : blk v = v.ownBlock := by
  subst h; cases A <;> rfl

theorem own_slice {w : World} {base e sz n : Nat} {v : Value} {xs : List Value} (h : w.ownsRow base e sz v n xs) : ∃ A c, v = .slice A n c := by
  rcases h.2 with ⟨rfl, rfl⟩ | ⟨g, cap, cur, rfl, _⟩
  · exact ⟨_, _, rfl⟩
  · exact ⟨_, _, rfl⟩

theorem append_sound {st : St} {o : Oper} {c : Call} {K : St → Prop} (ho : o.op = .call c) (h : vcS P st o.op o.dst K) : StOK P st o K := by
  rw [ho] at h
  simp only [vcS] at h
  split at h
  · rename_i s x t t' hcal hargs htys
    obtain ⟨rfl, h⟩ := h
    split at h
    · rename_i e sz bytes z hsl
      obtain ⟨callee, ⟨args⟩, ⟨argTypes⟩⟩ := c
      dsimp only at hcal hargs htys
      subst hcal; subst hargs; subst htys
      have hexec : ∀ (a : Act) (w w' : World) (u v v' : Value), a.eval s = u → a.eval x = v → (Builtin.append_ #[t, t] o.type #[u, v]).run P w = .ok v' w' → (execOp a.eval o).run P w = .ok (.value v') w' := by
        intro a w w' u v v' h1 h2 hr
        unfold execOp
        simp only [ho, resolve, Sem.run_bind, Sem.run_pure, Result.andThen_ok, invoke, builtin, List.map_toArray, List.map_cons, List.map_nil, h1, h2, hr]
      split at h
      case h_2 => exact h.elim
      rename_i c0 st0 hap
      obtain ⟨hd, hc0, hK⟩ := h
      unfold appendV at hap
      split at hap
      case h_1 => cases hap
      rename_i c1 m g hsv
      split at hap
      · rename_i hs0
        simp only [Option.some.injEq, Prod.mk.injEq] at hap
        obtain ⟨rfl, rfl⟩ := hap
        obtain ⟨hc1, hby⟩ := hc0
        have hsrc := srcV_sound hsv hc1
        intro X a w Q next ⟨M, β, hs⟩ hn
        have hsr := ev_sound hs s
        rw [hs0] at hsr
        have hsr' : a.eval s = .slice none 0 0 := hsr
        obtain ⟨A, c', hx, hA0, hA⟩ := hsrc X M β w _ hs.mem (ev_sound hs x)
        obtain ⟨v', w', news, r1, r2, r3, r4, r5, r6⟩ := run_append_ok (P := P) (ty := o.type) hsl (World.ownsRow_nil w X.w0.heap.size e sz) hA0 hA (by simpa using hby) hs.mem.below.size
        simp only [Nat.zero_add, List.nil_append] at r2
        obtain ⟨A', c'', hv'⟩ := own_slice r2
        have hfresh : ∀ g, blk v' = some g → g = w.heap.size := by
          intro g hg
          rw [blk_ownBlock hv'] at hg
          rcases r5 with r5 | r5
          · rw [r5] at hg; cases hg
          · rw [r5] at hg; simpa using hg.symm
        have hm := hs.mem.new (ob := .vec e sz m 0 g) (val := (v', sz)) (w' := w') (by simpa [Value.ownBlock] using r4) ⟨news, r2, rfl, fun i j hi hj => r6 i j hi hj, fun g hg off s' _ => hs.mem.fresh (by rw [hfresh g hg]; exact Nat.le_refl _) off s'⟩ (fun g hg => by rw [hfresh g hg]; exact Nat.le_refl _)
        refine wp_value (hexec a w w' _ _ v' hsr' hx r1) (hn _ _ _ hK ⟨M, upd β st.nx (v', sz), ?_⟩)
        refine (hs.env hm.1 hm.2 rfl rfl).put (Imm.Le.refl M) hm.1 hd ?_
        exact ⟨by rw [upd_same], A', m, c'', hv'⟩
      · rename_i ob hs0
        split at hap
        · rename_i e' sz' n fz f hσ
          simp only [Option.some.injEq, Prod.mk.injEq] at hap
          obtain ⟨rfl, rfl⟩ := hap
          obtain ⟨hc1, rfl, rfl, rfl, hby⟩ := hc0
          have hsrc := srcV_sound hsv hc1
          intro X a w Q next ⟨M, β, hs⟩ hn
          have hsr := ev_sound hs s
          rw [hs0] at hsr
          obtain ⟨hsr', _⟩ := hsr
          obtain ⟨xs, b1, b2, b3, b4⟩ := hs.mem.vec ob e' sz' n 0 f hσ
          obtain ⟨A, c', hx, hA0, hA⟩ := hsrc X M β w _ hs.mem (ev_sound hs x)
          obtain ⟨v', w', news, r1, r2, r3, r4, r5, r6⟩ := run_append_ok (P := P) (ty := o.type) hsl b1 hA0 hA hby hs.mem.below.size
          obtain ⟨A', c'', hv'⟩ := own_slice r2
          obtain ⟨A0, c0, hv0⟩ := own_slice b1
          have hob : ob ≠ st.nx := fun e => by
            have := (hs.mem.nx st.nx (Nat.le_refl _)).1
            rw [← e, hσ] at this; cases this
          let st' : St := (st.setOb ob .dead).new (.vec e' sz' (n + m) 0 (appF n f g))
          have hσ1 : st'.σ st.nx = .vec e' sz' (n + m) 0 (appF n f g) := upd_same _ _ _
          have hσ2 : ∀ o', o' ≠ st.nx → st'.σ o' ≠ .dead → st'.σ o' = st.σ o' ∧ o' ≠ ob := by
            intro o' h1 h2
            have e1 : st'.σ o' = upd st.σ ob .dead o' := upd_ne _ _ h1
            by_cases e2 : o' = ob
            · rw [e1, e2, upd_same] at h2; exact absurd rfl h2
            · exact ⟨e1.trans (upd_ne _ _ e2), e2⟩
          have hle : EnvLe β (upd β st.nx (v', sz')) := fun o' ho' => upd_ne β _ (fun e => ho' (by rw [e]; exact (hs.mem.nx st.nx (Nat.le_refl _)).2))
          have hblk' : ∀ g', blk v' = some g' → blk (β ob).1 = some g' ∨ g' = w.heap.size := by
            intro g' hg'
            rw [blk_ownBlock hv'] at hg'
            rcases r5 with r5 | r5
            · rw [r5, ← blk_ownBlock hv0] at hg'; exact .inl hg'
            · rw [r5] at hg'; exact .inr (by simpa using hg'.symm)
          have hm : Mem X M (upd β st.nx (v', sz')) st' w' := by
            refine hs.mem.change (d := st.nx) r4 (fun g' hg' => (b1.lt g' hg').1) (fun p v hp hr => ?_) (fun o' h1 h2 => ?_) ?_ ?_ hle ?_ rfl
            · -- nothing of the row is frozen
              have hb : blk (β ob).1 = some p.block := by rw [blk_ownBlock hv0]; exact hr
              obtain ⟨pb, po, ps⟩ := p
              rw [b4 pb hb po ps (by omega)] at hp; cases hp
            · obtain ⟨e1, e2⟩ := hσ2 o' h1 h2
              refine ⟨e1, upd_ne _ _ h1, fun g' hg' hr => ?_⟩
              rw [e1] at h2
              exact hs.mem.sep o' ob g' e2 h2 (by rw [hσ]; simp) hg' (by rw [blk_ownBlock hv0]; exact hr)
            · rw [hσ1, upd_same]
              refine ⟨xs ++ news, r2, rfl, fun i j hi hj => ?_, fun g' hg' off s' hoff => ?_⟩
              · unfold appF
                by_cases hin : i < n
                · rw [if_pos hin]
                  obtain ⟨v, e1, e2, e3⟩ := b3 i j hin hj
                  exact ⟨v, by rw [List.getElem?_append_left (by rw [b1.1]; exact row_lt hin hj)]; exact e1, e2, e3⟩
                · rw [if_neg hin]
                  obtain ⟨v, e1, e2, e3⟩ := r6 (i - n) j (by omega) hj
                  have hge : n * sz' ≤ i * sz' := Nat.mul_le_mul_right sz' (by omega)
                  refine ⟨v, ?_, e2, e3⟩
                  rw [List.getElem?_append_right (by rw [b1.1]; omega), b1.1, show i * sz' + j - n * sz' = (i - n) * sz' + j from by rw [Nat.sub_mul]; omega]
                  exact e1
              · rcases hblk' g' hg' with h1 | rfl
                · exact b4 g' h1 off s' hoff
                · exact hs.mem.fresh (Nat.le_refl _) off s'
            · intro o' g' h1 h2 _ hb hb'
              rw [upd_same] at hb
              obtain ⟨e1, e2⟩ := hσ2 o' h1 h2
              rw [e1] at h2
              rcases hblk' g' hb with h3 | rfl
              · exact hs.mem.sep o' ob g' e2 h2 (by rw [hσ]; simp) hb' h3
              · have := ((hs.mem.ob o').lt h2 hb').2
                omega
            · intro o' ho'
              have h1 : o' ≠ st.nx := by simp only [st', St.new, St.setOb] at ho'; omega
              have hn' := hs.mem.nx o' (by simp only [st', St.new, St.setOb] at ho'; omega)
              refine ⟨?_, by rw [upd_ne _ _ h1]; exact hn'.2⟩
              by_cases h2 : st'.σ o' = .dead
              · exact h2
              · rw [(hσ2 o' h1 h2).1]; exact hn'.1
          refine wp_value (hexec a w w' _ _ v' hsr' hx r1) (hn _ _ _ hK ⟨M, upd β st.nx (v', sz'), ?_⟩)
          refine (hs.env (st' := st') hm hle rfl rfl).put (Imm.Le.refl M) hm hd ?_
          exact ⟨by rw [upd_same], A', n + m, c'', hv'⟩
        · cases hap
      · cases hap
    · exact h.elim
  · exact h.elim

end
end Go.Proofs.YtfnfbdccmggfoaaGreatDoor.Pg
