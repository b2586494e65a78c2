/-
  Short forms by which a state is written out.
-/
import Derived.Test.YtfnfbdccmggfoaaGreatDoorPg15
set_option linter.unusedSimpArgs false
set_option linter.unusedVariables false
namespace Go.Proofs.YtfnfbdccmggfoaaGreatDoor.Pg
open Go.RowKit

theorem os_nil {ρ : List (Option Nat)} {st : St} : osOK ρ st [] [] := trivial
theorem os_dead {ρ : List (Option Nat)} {st : St} {o : Nat} {r : List (Option Nat)} {obs : List Ob} (h : st.σ o ≠ .dead) (hr : osOK ρ st r obs) : osOK ρ st (some o :: r) (.dead :: obs) := ⟨⟨h, trivial⟩, hr⟩
theorem os_boxR {ρ : List (Option Nat)} {st : St} {o : Nat} {t : TypeId} {n : Nat} {c' c : Nat → V} {r : List (Option Nat)} {obs : List Ob} (h : st.σ o = .box t n c') (hc : ∀ j, j < n → renOK ρ (c' j) (c j)) (hr : osOK ρ st r obs) : osOK ρ st (some o :: r) (.box t n c :: obs) := by
  refine ⟨⟨by rw [h]; simp, ?_⟩, hr⟩
  rw [h]; exact ⟨rfl, rfl, hc⟩
theorem ren_imm1 {ρ : List (Option Nat)} {v : V} (h : isImm1 v = true) : renOK ρ v v := by
  cases v <;> simp only [isImm1] at h <;> first | exact rfl | cases h
theorem os_box {ρ : List (Option Nat)} {st : St} {o : Nat} {t : TypeId} {n : Nat} {c' c : Nat → V} {r : List (Option Nat)} {obs : List Ob} (h : st.σ o = .box t n c') (hc : ∀ j, j < n → c' j = c j) (hi : ((List.range n).all fun j => isImm1 (c j)) = true) (hr : osOK ρ st r obs) : osOK ρ st (some o :: r) (.box t n c :: obs) := by
  simp only [List.all_eq_true, List.mem_range] at hi
  exact os_boxR h (fun j hj => by rw [hc j hj]; exact ren_imm1 (hi j hj)) hr
theorem os_vec {ρ : List (Option Nat)} {st : St} {o : Nat} {t : TypeId} {sz n fz : Nat} {f' f : Nat → Nat → V} {r : List (Option Nat)} {obs : List Ob} (h : st.σ o = .vec t sz n fz f') (hf : ∀ i j, i < n → j < sz → f' i j = f i j) (hr : osOK ρ st r obs) : osOK ρ st (some o :: r) (.vec t sz n fz f :: obs) := by
  refine ⟨⟨by rw [h]; simp, ?_⟩, hr⟩
  rw [h]; exact ⟨rfl, rfl, rfl, rfl, hf⟩
theorem os_vec' {ρ : List (Option Nat)} {st : St} {o : Nat} {t : TypeId} {sz n fz : Nat} {f' f : Nat → Nat → V} {r : List (Option Nat)} {obs : List Ob} (h : st.σ o = .vec t sz n fz f') (hr : osOK ρ st r obs) (hf : ∀ i j, i < n → j < sz → f' i j = f i j) : osOK ρ st (some o :: r) (.vec t sz n fz f :: obs) := os_vec h hf hr
theorem os_none {ρ : List (Option Nat)} {st : St} {t : TypeId} {sz : Nat} {f : Nat → Nat → V} {r : List (Option Nat)} {obs : List Ob} (hr : osOK ρ st r obs) : osOK ρ st (none :: r) (.vec t sz 0 0 f :: obs) := ⟨⟨rfl, rfl⟩, hr⟩

section
variable {P : Program} {k : List It} {Q : Exit → St → Prop} {Mid : St → Prop} {st : St}
theorem out_ret (h : Q .ret st) : Out P k Q Mid .ret st := awe_ret h
theorem out_exit {id : Nat} {k' : List It} (hp : popTo id k = some k') (h : AW P k' st Q) : Out P k Q Mid (.exit id) st := awe_exit hp h
theorem out_exit_out {id : Nat} (hp : popTo id k = none) (h : Q (.exit id) st) : Out P k Q Mid (.exit id) st := awe_exit_out hp h
theorem out_nil (h : Mid st) : AW P [] st (Out P k Q Mid) := aw_nil h

/-- A piece that ends where its text ends, seen alone. -/
theorem aw_piece {c : Code} (Mid : St → Prop) (h1 : ∀ Q : Exit → St → Prop, (∀ st', Mid st' → Q .normal st') → AW P [.code c] st Q) (h2 : ∀ st', Mid st' → AW P k st' Q) : AW P (.code c :: k) st Q :=
  aw_cut Mid (h1 _ fun _ h => h) h2
end

theorem snap1_imm {st : St} {v : V} (h : isImm1 v = true) : snap1 st v = v := by
  cases v <;> simp only [isImm1] at h <;> first | rfl | cases h
/-- A struct or an array that is handed back out of its box. -/
theorem ret_cell {P : Program} {st : St} {s t o n : Nat} {c r : Nat → V} (hs : shapeOf P t = .many n) (hT : st.T s = .ptr o 0 0) (hσ : st.σ o = .box t n c) (hc : ∀ j, j < n → c j = r j) (hi : ∀ j, j < n → isImm1 (r j) = true) : Ret P [.cell s t] (.agg n r) .ret st := by
  show ResOK P [.cell s t] st (.agg n r)
  unfold ResOK
  simp only [resV, hT, hs, loadV, hσ]
  refine ⟨⟨trivial, by omega⟩, ?_⟩
  show VLe (.agg n fun j => snap1 st (c (0 + j))) (.agg n r)
  refine VLe.agg fun j hj => ?_
  rw [Nat.zero_add, hc j hj, snap1_imm (hi j hj)]
  exact VLe.refl _

theorem vle_bool {x y : Bool} (h : x = y) : VLe (.raw (.bool x)) (.raw (.bool y)) := by rw [h]; exact VLe.refl _
theorem vle_int {k : IntKind} {x y : Int} (h : x = y) : VLe (.raw (.int k x)) (.raw (.int k y)) := by rw [h]; exact VLe.refl _

end Go.Proofs.YtfnfbdccmggfoaaGreatDoor.Pg
