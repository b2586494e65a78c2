/-
  Short forms by which a state is written out.
-/
import Derived.Test.YtkmomjginjkhfaaPg15
set_option linter.unusedSimpArgs false
set_option linter.unusedVariables false
namespace Go.Proofs.Ytkmomjginjkhfaa.Pg
open Go.RowKit

theorem os_nil {st : St} : osOK st [] [] := trivial
theorem os_dead {st : St} {o : Nat} {r : List (Option Nat)} {obs : List Ob} (h : st.σ o ≠ .dead) (hr : osOK st r obs) : osOK st (some o :: r) (.dead :: obs) := ⟨⟨h, trivial⟩, hr⟩
theorem os_box {st : St} {o : Nat} {t : TypeId} {n : Nat} {c' c : Nat → V} {r : List (Option Nat)} {obs : List Ob} (h : st.σ o = .box t n c') (hc : ∀ j, j < n → c' j = c j) (hi : ((List.range n).all fun j => isImm1 (c j)) = true) (hr : osOK st r obs) : osOK st (some o :: r) (.box t n c :: obs) := by
  refine ⟨⟨by rw [h]; simp, ?_⟩, hr⟩
  rw [h]; exact ⟨rfl, rfl, hc, hi⟩
theorem os_vec {st : St} {o : Nat} {t : TypeId} {sz n fz : Nat} {f' f : Nat → Nat → V} {r : List (Option Nat)} {obs : List Ob} (h : st.σ o = .vec t sz n fz f') (hf : ∀ i j, i < n → j < sz → f' i j = f i j) (hr : osOK st r obs) : osOK st (some o :: r) (.vec t sz n fz f :: obs) := by
  refine ⟨⟨by rw [h]; simp, ?_⟩, hr⟩
  rw [h]; exact ⟨rfl, rfl, rfl, rfl, hf⟩
theorem os_vec' {st : St} {o : Nat} {t : TypeId} {sz n fz : Nat} {f' f : Nat → Nat → V} {r : List (Option Nat)} {obs : List Ob} (h : st.σ o = .vec t sz n fz f') (hr : osOK st r obs) (hf : ∀ i j, i < n → j < sz → f' i j = f i j) : osOK st (some o :: r) (.vec t sz n fz f :: obs) := os_vec h hf hr
theorem os_none {st : St} {t : TypeId} {sz : Nat} {f : Nat → Nat → V} {r : List (Option Nat)} {obs : List Ob} (hr : osOK st r obs) : osOK st (none :: r) (.vec t sz 0 0 f :: obs) := ⟨⟨rfl, rfl⟩, hr⟩

section
variable {P : Program} {k : List It} {Q : Exit → St → Prop} {Mid : St → Prop} {st : St}
theorem out_ret (h : Q .ret st) : Out P k Q Mid .ret st := awe_ret h
theorem out_exit {id : Nat} {k' : List It} (hp : popTo id k = some k') (h : AW P k' st Q) : Out P k Q Mid (.exit id) st := awe_exit hp h
theorem out_exit_out {id : Nat} (hp : popTo id k = none) (h : Q (.exit id) st) : Out P k Q Mid (.exit id) st := awe_exit_out hp h
theorem out_nil (h : Mid st) : AW P [] st (Out P k Q Mid) := aw_nil h

/-- A piece that ends where its text ends, seen alone. -/
theorem aw_piece {c : Code} (Mid : St → Prop) (h1 : ∀ Q : Exit → St → Prop, (∀ st', Mid st' → Q .normal st') → AW P [.code c] st Q) (h2 : ∀ st', Mid st' → AW P k st' Q) : AW P (.code c :: k) st Q :=
  aw_cut Mid (h1 _ fun _ h => h) h2
end

end Go.Proofs.Ytkmomjginjkhfaa.Pg
