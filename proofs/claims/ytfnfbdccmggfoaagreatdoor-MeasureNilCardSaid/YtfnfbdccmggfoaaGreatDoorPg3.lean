/-
  'vcQ_sound': a quiet operation yields what 'vcQ' says, in every world that is so.
-/
import Derived.Test.YtfnfbdccmggfoaaGreatDoorPg2
set_option linter.unusedSimpArgs false
set_option linter.unusedVariables false
namespace Go.Proofs.YtfnfbdccmggfoaaGreatDoor.Pg
open Go.RowKit

/-! ### Runs -/
section
variable {P : Program} (w : World)

theorem shapeOf_one {t : TypeId} (h : shapeOf P t = .one) : ∃ i d, P.info? t = some i ∧ P.underlying t = some d ∧ i.size = 1 ∧ isAggD d = false := by
  unfold shapeOf at h
  cases hi : P.info? t with
  | none => simp [hi] at h
  | some i =>
    cases hu : P.underlying t with
    | none => simp [hi, hu] at h
    | some d =>
      simp only [hi, hu] at h
      refine ⟨i, d, rfl, rfl, ?_⟩
      cases hd : isAggD d
      · simp only [hd, Bool.false_eq_true, if_false] at h
        split at h
        · rename_i h1; exact ⟨h1, rfl⟩
        · cases h
      · simp [hd] at h

theorem shapeOf_many {t : TypeId} {q : Nat} (h : shapeOf P t = .many q) : ∃ i d, P.info? t = some i ∧ P.underlying t = some d ∧ i.size = q ∧ isAggD d = true := by
  unfold shapeOf at h
  cases hi : P.info? t with
  | none => simp [hi] at h
  | some i =>
    cases hu : P.underlying t with
    | none => simp [hi, hu] at h
    | some d =>
      simp only [hi, hu] at h
      refine ⟨i, d, rfl, rfl, ?_⟩
      cases hd : isAggD d
      · simp only [hd, Bool.false_eq_true, if_false] at h
        split at h <;> cases h
      · simp only [hd, if_true, Sh.many.injEq] at h
        exact ⟨h, rfl⟩

theorem run_isAgg_of {t : TypeId} {d : TypeDesc} (hu : P.underlying t = some d) : (isAgg t).run P w = .ok (isAggD d) w := by
  unfold isAgg
  rw [Sem.run_bind, run_underlying hu w]
  cases d <;> rfl

theorem run_sizeOf_of {t : TypeId} {i : TypeInfo} (hi : P.info? t = some i) : (sizeOf t).run P w = .ok i.size w := by
  simp [sizeOf, typeInfo, hi]

theorem run_loadAt_one {t : TypeId} (h : shapeOf P t = .one) {ad : Addr} {v : Value} (hc : w.cell? ad = some v) : (Instr.loadAt t (.pointer (some ad))).run P w = .ok v w := by
  obtain ⟨i, d, hi, hu, _, hd⟩ := shapeOf_one h
  simp only [Instr.loadAt, Instr.sureAddr, Sem.run_bind, Sem.run_pure, Result.andThen_ok, loadVar, run_isAgg_of w hu, hd, Bool.false_eq_true, if_false]
  simp [hc]

theorem run_loadAt_many {t : TypeId} {q : Nat} (h : shapeOf P t = .many q) {ad : Addr} (g : Nat → Value) (hc : ∀ j, j < q → w.cell? (ad.add j) = some (g j)) :
    (Instr.loadAt t (.pointer (some ad))).run P w = .ok (.agg ((List.range q).map g).toArray) w := by
  obtain ⟨i, d, hi, hu, hs, hd⟩ := shapeOf_many h
  have hl := run_loadCells (P := P) w ad q g hc
  simp only [Instr.loadAt, Instr.sureAddr, Sem.run_bind, Sem.run_pure, Result.andThen_ok, loadVar, run_isAgg_of w hu, hd, if_true, run_sizeOf_of w hi, hs, hl]

theorem getD_range {α : Type} (q : Nat) (g : Nat → α) (d : α) (j : Nat) (hj : j < q) : ((List.range q).map g).toArray.getD j d = g j := by
  simp [Array.getD_eq_getD_getElem?, hj]

theorem add_none (b off n : Nat) : (⟨b, off, none⟩ : Addr).add n = ⟨b, off + n, none⟩ := by
  unfold Addr.add; split <;> simp_all

theorem add_add' (a : Addr) (i j : Nat) : (a.add i).add j = a.add (i + j) := by
  unfold Addr.add
  by_cases hi : i = 0 <;> by_cases hj : j = 0 <;> simp [hi, hj, Nat.add_assoc]

theorem cell_of_block {g off : Nat} {cs : Array Value} {t : TypeId} {fr : Nat × Nat} (h : w.heap[g]? = some (.cells cs t fr)) (hj : off < cs.size) : w.cell? ⟨g, off, none⟩ = some (cs.getD off undef) := by
  rw [cell_of_row w g off cs t fr h, Array.getD_eq_getD_getElem?, Array.getElem?_eq_getElem hj]; rfl
end

section
variable {P : Program} {X : Ctx} {M : Imm} {β : Env} {st : St} {w : World}

/-- A pointer into a box or a row: its cell. -/
theorem Mem.cellBox (h : Mem X M β st w) {o n : Nat} {t : TypeId} {c : Nat → V} (ho : st.σ o = .box t n c) {j g : Nat} (hj : j < n) (hg : blk (β o).1 = some g) :
    ∃ v, w.cell? ⟨g, j, none⟩ = some v ∧ v.oneCell' = true ∧ R M (c j) β v := by
  obtain ⟨g', cs, h1, h2, h3, h4, h5, h6⟩ := h.box o t n c ho
  rw [h1] at hg
  obtain rfl : g' = g := by simpa [blk] using hg
  exact ⟨_, cell_of_block w h3 (by omega), (h5 j hj).1, (h5 j hj).2⟩

theorem Mem.cellVec (h : Mem X M β st w) {o n fz sz : Nat} {e : TypeId} {f : Nat → Nat → V} (ho : st.σ o = .vec e sz n fz f) {i j g : Nat} (hi : i < n) (hj : j < sz) (hg : blk (β o).1 = some g) :
    ∃ v, w.cell? ⟨g, i * (β o).2 + j, none⟩ = some v ∧ v.oneCell' = true ∧ R M (f i j) β0 v := by
  obtain ⟨xs, h1, h2, h3, h4⟩ := h.vec o e sz n fz f ho
  obtain ⟨v, e1, e2, e3⟩ := h3 i j hi hj
  rcases h1.2 with ⟨hv, hn⟩ | ⟨g', cap, cur, hv, hg', hh, hc, hm, hs, ht⟩
  · omega
  · rw [hv] at hg
    obtain rfl : g' = g := by simpa [blk] using hg
    refine ⟨v, ?_, e2, e3⟩
    rw [h2]
    have hlt : i * sz + j < n * sz := by
      have : (i + 1) * sz ≤ n * sz := Nat.mul_le_mul_right sz hi
      rw [Nat.add_mul, Nat.one_mul] at this
      omega
    have hcur : cur.toList[i * sz + j]? = some v := by
      rw [← ht, List.getElem?_take] at e1
      rw [if_pos hlt] at e1
      exact e1
    rw [cell_of_row w g' _ cur e (0, 0) hh]
    simpa using hcur

theorem Mem.lenVec (h : Mem X M β st w) {o n fz sz : Nat} {e : TypeId} {f : Nat → Nat → V} (ho : st.σ o = .vec e sz n fz f) : ∃ A cap, (β o).1 = .slice A n cap ∧ n ≤ cap ∧ cap ≤ maxLen ∧ (0 < n → ∃ g, A = some ⟨g, 0, none⟩) := by
  obtain ⟨xs, h1, _⟩ := h.vec o e sz n fz f ho
  rcases h1.2 with ⟨hv, hn⟩ | ⟨g', cap, cur, hv, hg', hh, hc, hm, hs, ht⟩
  · exact ⟨none, 0, by rw [hv, hn], by omega, by simp [maxLen], fun h => by omega⟩
  · exact ⟨_, cap, hv, hc, hm, fun _ => ⟨_, rfl⟩⟩

theorem loadV_sound {t : TypeId} {p : V} {c0 : Prop} {r0 : V} (h : loadV st (shapeOf P t) p = some (c0, r0)) (hc0 : c0) :
    ∀ X M β w u, Mem X M β st w → R M p β u → ∃ v, (Instr.loadAt t u).run P w = .ok v w ∧ R M r0 β v := by
  unfold loadV at h
  split at h
  · rename_i o i j hs
    split at h
    · rename_i t' n c hσ
      simp only [Option.some.injEq, Prod.mk.injEq] at h
      obtain ⟨rfl, rfl⟩ := h
      obtain ⟨rfl, hj⟩ := hc0
      intro X M β w u hm hr
      obtain ⟨g, hg, rfl⟩ := hr
      obtain ⟨v, h1, h2, h3⟩ := hm.cellBox hσ hj hg
      exact ⟨v, run_loadAt_one w hs (by simpa using h1), h3⟩
    · rename_i e sz n fz f hσ
      simp only [Option.some.injEq, Prod.mk.injEq] at h
      obtain ⟨rfl, rfl⟩ := h
      obtain ⟨hi, hj⟩ := hc0
      intro X M β w u hm hr
      obtain ⟨g, hg, rfl⟩ := hr
      obtain ⟨v, h1, h2, h3⟩ := hm.cellVec hσ hi hj hg
      exact ⟨v, run_loadAt_one w hs h1, R.imm (EnvLe.of0 β) h3⟩
    · cases h
  · rename_i q o i j hs
    split at h
    · rename_i t' n c hσ
      simp only [Option.some.injEq, Prod.mk.injEq] at h
      obtain ⟨rfl, rfl⟩ := h
      obtain ⟨rfl, hj⟩ := hc0
      intro X M β w u hm hr
      obtain ⟨g, hg, rfl⟩ := hr
      have hall : ∀ p, p < q → ∃ v, w.cell? ((⟨g, 0 * (β o).2 + j, none⟩ : Addr).add p) = some v ∧ v.oneCell' = true ∧ R M (c (j + p)) β v := fun p hp => by
        obtain ⟨v, h1, h2, h3⟩ := hm.cellBox hσ (show j + p < n by omega) hg
        exact ⟨v, by rw [add_none]; simpa using h1, h2, h3⟩
      let gv : Nat → Value := fun p => if hp : p < q then Classical.choose (hall p hp) else undef
      have hgv : ∀ p, p < q → w.cell? ((⟨g, 0 * (β o).2 + j, none⟩ : Addr).add p) = some (gv p) ∧ (gv p).oneCell' = true ∧ R M (c (j + p)) β (gv p) := fun p hp => by
        simp only [gv, dif_pos hp]; exact Classical.choose_spec (hall p hp)
      refine ⟨_, run_loadAt_many w hs gv (fun p hp => (hgv p hp).1), _, rfl, by simp, fun p hp => ?_⟩
      rw [getD_range q gv undef p hp]
      exact (hgv p hp).2
    · rename_i e sz n fz f hσ
      simp only [Option.some.injEq, Prod.mk.injEq] at h
      obtain ⟨rfl, rfl⟩ := h
      obtain ⟨hi, hj⟩ := hc0
      intro X M β w u hm hr
      obtain ⟨g, hg, rfl⟩ := hr
      have hall : ∀ p, p < q → ∃ v, w.cell? ((⟨g, i * (β o).2 + j, none⟩ : Addr).add p) = some v ∧ v.oneCell' = true ∧ R M (f i (j + p)) β0 v := fun p hp => by
        obtain ⟨v, h1, h2, h3⟩ := hm.cellVec hσ hi (show j + p < sz by omega) hg
        exact ⟨v, by rw [add_none, Nat.add_assoc]; exact h1, h2, h3⟩
      let gv : Nat → Value := fun p => if hp : p < q then Classical.choose (hall p hp) else undef
      have hgv : ∀ p, p < q → w.cell? ((⟨g, i * (β o).2 + j, none⟩ : Addr).add p) = some (gv p) ∧ (gv p).oneCell' = true ∧ R M (f i (j + p)) β0 (gv p) := fun p hp => by
        simp only [gv, dif_pos hp]; exact Classical.choose_spec (hall p hp)
      refine ⟨_, run_loadAt_many w hs gv (fun p hp => (hgv p hp).1), _, rfl, by simp, fun p hp => ?_⟩
      rw [getD_range q gv undef p hp]
      exact ⟨(hgv p hp).2.1, R.imm (EnvLe.of0 β) (hgv p hp).2.2⟩
    · cases h
  · rename_i n c hs
    simp only [Option.some.injEq, Prod.mk.injEq] at h
    obtain ⟨rfl, rfl⟩ := h
    have hn := hc0
    intro X M β w u hm hr
    obtain ⟨ad, rfl, hc⟩ := hr
    obtain ⟨v, h1, h2⟩ := hc 0 hn
    exact ⟨v, run_loadAt_one w hs (by simpa [Addr.add] using (hm.cons _ _ h1).1), R.imm (EnvLe.of0 β) h2⟩
  · rename_i q n c hs
    simp only [Option.some.injEq, Prod.mk.injEq] at h
    obtain ⟨rfl, rfl⟩ := h
    have hn := hc0
    intro X M β w u hm hr
    obtain ⟨ad, rfl, hc⟩ := hr
    let gv : Nat → Value := fun p => if hp : p < n then Classical.choose (hc p hp) else undef
    have hgv : ∀ p, p < n → M (ad.add p) = some (gv p) ∧ R M (c p) β0 (gv p) := fun p hp => by
      simp only [gv, dif_pos hp]; exact Classical.choose_spec (hc p hp)
    refine ⟨_, run_loadAt_many w hs gv (fun p hp => (hm.cons _ _ (hgv p (by omega)).1).1), _, rfl, by simp, fun p hp => ?_⟩
    rw [getD_range q gv undef p hp]
    exact ⟨(hm.cons _ _ (hgv p (by omega)).1).2, R.imm (EnvLe.of0 β) (hgv p (by omega)).2⟩
  · cases h

theorem elemSz_spec {t : TypeId} {sz : Nat} (h : elemSz P t = some sz) : ∃ e i, P.underlying t = some (.slice e) ∧ P.info? e = some i ∧ i.size = sz := by
  unfold elemSz at h
  split at h
  · rename_i e hu
    split at h
    · rename_i i hi
      exact ⟨e, i, hu, hi, by simpa using h⟩
    · cases h
  · cases h

theorem run_indexAt_of {t e : TypeId} {i : TypeInfo} (hu : P.underlying t = some (.slice e)) (hi : P.info? e = some i) (ad : Addr) (n cap : Nat) (k : IntKind) (x : Int) (h0 : 0 ≤ x) (h1 : x < n) :
    (Instr.indexAt t (.slice (some ad) n cap) (.int k x)).run P w = .ok (.pointer (some (ad.add (x.toNat * i.size)))) w := by
  have hif : 0 ≤ x ∧ x < (n : Int) := ⟨h0, h1⟩
  simp [Instr.indexAt, asIntOf, run_underlying hu, hif, run_sizeOf_of w hi]

theorem indexV_sound {t : TypeId} {sz : Nat} {p : V} {x : Int} {c0 : Prop} {r0 : V} (hs : elemSz P t = some sz) (h : indexV st sz p x = some (c0, r0)) (hc0 : c0) :
    ∀ X M β w u k, Mem X M β st w → R M p β u → ∃ v, (Instr.indexAt t u (.int k x)).run P w = .ok v w ∧ R M r0 β v := by
  obtain ⟨e, i, hu, hi, rfl⟩ := elemSz_spec hs
  unfold indexV at h
  split at h
  · rename_i sz n f
    simp only [Option.some.injEq, Prod.mk.injEq] at h
    obtain ⟨rfl, rfl⟩ := h
    obtain ⟨rfl, h0, h1⟩ := hc0
    intro X M β w u k hm hr
    obtain ⟨A, cap, rfl, hc, hmx, hA⟩ := hr
    obtain ⟨ad, rfl, hf⟩ := hA (by omega)
    refine ⟨_, run_indexAt_of (w := w) hu hi ad n cap k x h0 h1, ad.add (x.toNat * i.size), rfl, fun j hj => ?_⟩
    rw [add_add']
    exact hf x.toNat (by omega) j hj
  · rename_i o
    split at h
    · rename_i e' sz n fz f hσ
      simp only [Option.some.injEq, Prod.mk.injEq] at h
      obtain ⟨rfl, rfl⟩ := h
      obtain ⟨rfl, h0, h1⟩ := hc0
      intro X M β w u k hm hr
      obtain ⟨rfl, _⟩ := hr
      obtain ⟨A, cap, hv, hc, hmx, hA⟩ := hm.lenVec hσ
      obtain ⟨g, rfl⟩ := hA (by omega)
      obtain ⟨_, _, h2, _⟩ := hm.vec o e' i.size n fz f hσ
      rw [hv]
      exact ⟨_, run_indexAt_of (w := w) hu hi _ n cap k x h0 h1, g, by rw [hv]; rfl, by rw [add_none, h2]; simp⟩
    · cases h
  · cases h

theorem arrOf_spec {t : TypeId} {len sz : Nat} (h : arrOf P t = some (len, sz)) : ∃ e i, P.underlying t = some (.array len e) ∧ P.info? e = some i ∧ i.size = sz := by
  unfold arrOf at h
  split at h
  · rename_i len' e hu
    split at h
    · rename_i i hi
      simp only [Option.some.injEq, Prod.mk.injEq] at h
      obtain ⟨rfl, rfl⟩ := h
      exact ⟨e, i, hu, hi, rfl⟩
    · cases h
  · cases h

theorem run_indexArr {t e : TypeId} {i : TypeInfo} {len : Nat} (hu : P.underlying t = some (.array len e)) (hi : P.info? e = some i) (ad : Addr) (k : IntKind) (x : Int) (h0 : 0 ≤ x) (h1 : x < len) :
    (Instr.indexAt t (.pointer (some ad)) (.int k x)).run P w = .ok (.pointer (some (ad.add (x.toNat * i.size)))) w := by
  have hif : 0 ≤ x ∧ x < (len : Int) := ⟨h0, h1⟩
  simp only [Instr.indexAt, asIntOf, Instr.sureAddr, Sem.run_bind, Sem.run_pure, Result.andThen_ok, run_underlying hu]
  simp [hif, run_sizeOf_of w hi, Instr.sureAddr, run_underlying hu]

theorem arrIx_sound {t : TypeId} {len sz : Nat} {p : V} {x : Int} {c0 : Prop} {r0 : V} (hs : arrOf P t = some (len, sz)) (h : arrIx len sz p x = some (c0, r0)) (hc0 : c0) :
    ∀ M β w u k, R M p β u → ∃ v, (Instr.indexAt t u (.int k x)).run P w = .ok v w ∧ R M r0 β v := by
  obtain ⟨e, i, hu, hi, rfl⟩ := arrOf_spec hs
  unfold arrIx at h
  split at h
  · rename_i o a j
    simp only [Option.some.injEq, Prod.mk.injEq] at h
    obtain ⟨rfl, rfl⟩ := h
    obtain ⟨h0, h1⟩ := hc0
    intro M β w u k hr
    obtain ⟨g, hg, rfl⟩ := hr
    exact ⟨_, run_indexArr (w := w) hu hi _ k x h0 h1, g, hg, by rw [add_none, Nat.add_assoc]⟩
  · rename_i m c
    simp only [Option.some.injEq, Prod.mk.injEq] at h
    obtain ⟨rfl, rfl⟩ := h
    obtain ⟨h0, h1⟩ := hc0
    intro M β w u k hr
    obtain ⟨ad, rfl, hc⟩ := hr
    refine ⟨_, run_indexArr (w := w) hu hi ad k x h0 h1, ad.add (x.toNat * i.size), rfl, fun q hq => ?_⟩
    rw [add_add']
    exact hc _ (by omega)
  · cases h

theorem lenV_sound {p : V} {n : Nat} (h : lenV st p = some n) : ∀ X M β w u, Mem X M β st w → R M p β u → ∃ A cap, u = .slice A n cap := by
  unfold lenV at h
  split at h
  · simp only [Option.some.injEq] at h
    subst h
    exact fun X M β w u hm ⟨A, cap, hu, _⟩ => ⟨A, cap, hu⟩
  · rename_i o
    split at h
    · rename_i e sz n fz f hσ
      simp only [Option.some.injEq] at h
      subst h
      intro X M β w u hm hr
      obtain ⟨rfl, _⟩ := hr
      obtain ⟨A, cap, hv, _⟩ := hm.lenVec hσ
      exact ⟨A, cap, hv⟩
    · cases h
  · simp only [Option.some.injEq] at h
    subst h
    exact fun X M β w u hm ⟨A, hu⟩ => ⟨A, 0, hu⟩
  · simp only [Option.some.injEq] at h
    subst h
    exact fun X M β w u hm hu => ⟨none, 0, hu⟩
  · cases h

theorem aint_sound {op : BinOp} {k : IntKind} {a b : Int} {c : Prop} {v : Value} (h : aint op k a b = some (c, v)) (hc : c) (w : World) (t : TypeId) : (binOp op t (.int k a) (.int k b)).run P w = .ok v w := by
  cases op <;> simp only [aint, Option.some.injEq, Prod.mk.injEq] at h <;> try (cases h; done)
  all_goals (obtain ⟨rfl, rfl⟩ := h)
  case add => simp [binOp_add, Op.intArith]
  case sub => simp [binOp_sub, Op.intArith]
  case mul => simp [binOp_mul, Op.intArith]
  case quo => simp [binOp_quo, Op.intDiv, hc]
  case rem => simp [binOp_rem, Op.intDiv, hc]
  case eql => simp [binOp_eql]
  case neq => simp [binOp_neq]
  case lss => simp [binOp_lss]
  case leq => simp [binOp_leq]
  case gtr => simp [binOp_gtr]
  case geq => simp [binOp_geq]
  case and => rw [binOp_and, intBits_and]; rfl
  case or => rw [binOp_or, intBits_or]; rfl
  case xor => rw [binOp_xor, intBits_xor]; rfl
  case shr =>
    show (Op.shift .shr k a k b).run P w = _
    unfold Op.shift
    rw [if_neg (by omega)]; rfl
  case shl =>
    show (Op.shift .shl k a k b).run P w = _
    unfold Op.shift
    rw [if_neg (by omega)]; rfl

theorem astr_sound {op : BinOp} {a b : ByteArray} {c : Prop} {v : Value} (h : astr op a b = some (c, v)) (w : World) (t : TypeId) : (binOp op t (.string a) (.string b)).run P w = .ok v w := by
  cases op <;> simp only [astr, Option.some.injEq, Prod.mk.injEq] at h <;> try (cases h; done)
  all_goals (obtain ⟨rfl, rfl⟩ := h; simp [binOp, Op.stringOp])

theorem abool_sound {op : BinOp} {a b : Bool} {c : Prop} {v : Value} {t : TypeId} (ht : P.underlying t = some .bool) (h : abool op a b = some (c, v)) (w : World) : (binOp op t (.bool a) (.bool b)).run P w = .ok v w := by
  cases op <;> simp only [abool, Option.some.injEq, Prod.mk.injEq] at h <;> try (cases h; done)
  all_goals (obtain ⟨rfl, rfl⟩ := h; simp [binOp, run_equal_bool w t a b ht])

theorem boolT_spec {t : TypeId} (h : boolT P t = true) : P.underlying t = some .bool := by
  unfold boolT at h
  cases hu : P.underlying t with
  | none => simp [hu] at h
  | some d => cases d <;> simp only [hu] at h <;> first | rfl | cases h

theorem ptrT_spec {t : TypeId} (h : ptrT P t = true) : P.underlying t = some (.pointer (P.pointee t)) := by
  unfold ptrT at h
  unfold Program.pointee
  cases hu : P.underlying t with
  | none => simp [hu] at h
  | some d => cases d <;> simp only [hu] at h <;> first | rfl | cases h
theorem aptr_sound {op : BinOp} {p : Option Addr} {c : Prop} {v : Value} {t : TypeId} (ht : P.underlying t = some (.pointer (P.pointee t))) (h : aptr op p.isNone = some (c, v)) (w : World) : (binOp op t (.pointer p) (.pointer none)).run P w = .ok v w := by
  cases op <;> simp only [aptr, Option.some.injEq, Prod.mk.injEq] at h <;> try (cases h; done)
  all_goals (obtain ⟨rfl, rfl⟩ := h; simp [binOp, run_equal_pointer_nil w t p ht])

theorem abin_sound {op : BinOp} {x y : Value} {c : Prop} {v : Value} {t : TypeId} (h : abin P op t x y = some (c, v)) (hc : c) (w : World) (xo yo : Operand) : (do eqGuard op t xo yo x y; binOp op t x y : Sem Value).run P w = .ok v w := by
  unfold abin at h
  split at h
  · rename_i k a k' b
    split at h
    · rename_i hk
      subst hk
      rw [eqGuard_at_int]
      simpa using aint_sound (P := P) h hc w t
    · cases h
  · rename_i a b
    rw [eqGuard_at_string]
    simpa using astr_sound (P := P) h w t
  · rename_i a b
    split at h
    · rename_i hb
      rw [eqGuard_at_bool]
      simpa using abool_sound (boolT_spec hb) h w
    · cases h
  · rename_i p
    split at h
    · rename_i hp
      rw [eqGuard_at_pointer]
      simpa using aptr_sound (ptrT_spec hp) h w
    · cases h
  · cases h

end
end Go.Proofs.YtfnfbdccmggfoaaGreatDoor.Pg
