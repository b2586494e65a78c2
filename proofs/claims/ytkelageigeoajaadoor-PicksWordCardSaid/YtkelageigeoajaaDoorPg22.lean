/-
  A package-level table of ints of one kind, read as the row lists it: its cells.
-/
import Derived.Test.YtkelageigeoajaaDoorPg18
import Derived.Test.YtkelageigeoajaaDoorPg17
import Derived.OpenShut
import Derived.LaidMore
import Derived.FnData
set_option linter.unusedSimpArgs false
set_option linter.unusedVariables false
namespace Go.Proofs.YtkelageigeoajaaDoor.Pg
open Go.RowKit

theorem laid_ints {P : Program} {H : Type} {enc : TypeId × Value → H} {w : World} {base : Nat} {spare : Nat → Bool} {held : Bool} {fuel : Nat} {t e : TypeId} {n : Nat} {k : IntKind} {cs : List Value} {ns : List Int} {p : List MemPlace}
    (hu : P.underlying t = some (.array n e)) (he : P.underlying e = some (.int k)) (hc : P.cellsOf e = 1)
    (h : DataW.trod enc P w base spare held fuel t cs = some (.agg (ns.map fun x => .lit (.int k x)), p)) : ∀ j, j < n → cs[j]? = some (.int k (ns.getD j 0)) := by
  obtain ⟨xs, m, _, hx, _, hn, hel⟩ := DataW.trod_array hu h
  simp only [Prod.mk.injEq, DataW.agg.injEq] at hx
  intro j hj
  have h1 := hel j hj
  rw [hc, Nat.mul_one, List.getElem?_eq_getElem (show j < xs.length by omega)] at h1
  obtain ⟨q, e1, e2, _⟩ := DataW.trod_int he h1
  have e3 : (xs.map (·.1))[j]? = some (.lit (.int k q)) := by
    rw [List.getElem?_map, List.getElem?_eq_getElem (show j < xs.length by omega), e2]; rfl
  rw [← hx.1, List.getElem?_map] at e3
  have e4 : ns.getD j 0 = q := by
    cases hns : ns[j]? with
    | none => rw [hns] at e3; simp at e3
    | some y =>
      rw [hns] at e3
      have : y = q := by simpa using e3
      rw [List.getD, hns, this]; rfl
  rw [e4]
  have e5 : (cs.drop j).head? = some (.int k q) := by
    have := congrArg List.head? e1
    rw [List.head?_take] at this
    simpa using this
  rw [List.head?_drop] at e5
  exact e5

/-- .. as memory that stays. -/
theorem laid_cp {W : World} {g n : Nat} {cs : Array Value} {c : Nat → V} {f : Nat → Value} (hc : ∀ off, W.cell? ⟨g, off, none⟩ = cs[off]?) (hf : ∀ j, j < n → cs[j]? = some (f j)) (h1 : ∀ j, (f j).oneCell' = true) (hr : ∀ j, j < n → R (allOf W) (c j) β0 (f j)) :
    R (allOf W) (.cp n c) β0 (.pointer (some ⟨g, 0, none⟩)) := by
  refine ⟨⟨g, 0, none⟩, rfl, fun j hj => ⟨f j, ?_, hr j hj⟩⟩
  rw [add_none, Nat.zero_add]
  exact allOf_of ((hc j).trans (hf j hj)) (h1 j)

/-- Arguments that say more than the contract asks. -/
def VLes : List V → List V → Prop
  | [], [] => True
  | a :: as, b :: bs => VLe a b ∧ VLes as bs
  | _, _ => False
theorem VLes.at : ∀ {as bs : List V}, VLes as bs → as.length = bs.length ∧ ∀ (k : Nat) (b : V), bs[k]? = some b → ∃ a : V, as[k]? = some a ∧ VLe a b
  | [], [], _ => ⟨rfl, fun k b h => by simp at h⟩
  | a :: as, b :: bs, ⟨h1, h2⟩ => by
    obtain ⟨h3, h4⟩ := VLes.at h2
    refine ⟨by simp [h3], fun k c hk => ?_⟩
    cases k with
    | zero => obtain rfl : b = c := by simpa using hk
              exact ⟨a, rfl, h1⟩
    | succ k => simpa using h4 k c (by simpa using hk)
  | [], _ :: _, h => h.elim
  | _ :: _, [], h => h.elim
theorem Con.args_le {P : Program} {G : Nat → V} {f : FuncId} {args args' : List V} {r : V} (h : Con P G f args' r) (hle : VLes args args') : Con P G f args r := by
  obtain ⟨h1, h2⟩ := hle.at
  refine ⟨h.call, fun w M cargs hM hG hs hr => h.run w M cargs hM hG (hs.trans h1) fun k b hb => ?_⟩
  obtain ⟨a, ha, hl⟩ := h2 k b hb
  exact hl M _ (hr k a ha)
theorem call_le {P : Program} {st : St} {f : FuncId} {args args' : List V} {K : V → Prop} {r : V} (hc : Con P st.G f args' r) (hle : VLes args args') (hi : args.all isImm = true) (h : K r) : callK P st (.raw (.func (.func f) #[] #[])) args K := .inl ⟨r, hc.args_le hle, hi, h⟩

end Go.Proofs.YtkelageigeoajaaDoor.Pg
