/-
  The rewrite rules by which a region is reckoned: 'pg'.
-/
import Derived.Test.YtfnfbdccmggfoaaGreatDoorPg14
set_option linter.unusedSimpArgs false
set_option linter.unusedVariables false
namespace Go.Proofs.YtfnfbdccmggfoaaGreatDoor.Pg
open Go.RowKit

section
variable (st : St) (d t o : Nat) (v : V) (ob : Ob)

theorem T_put : (st.put (some d) v).T t = if t = d then v else st.T t := rfl
theorem T_put_none : (st.put none v).T t = st.T t := rfl
theorem T_new : (st.new ob).T t = st.T t := rfl
theorem T_setOb : (st.setOb o ob).T t = st.T t := rfl
theorem σ_put (d : Option Tmp) : (st.put d v).σ o = st.σ o := by rw [put_σ]
theorem σ_new : (st.new ob).σ o = if o = st.nx then ob else st.σ o := rfl
theorem σ_setOb (p : Nat) : (st.setOb p ob).σ o = if o = p then ob else st.σ o := rfl
theorem nx_put (d : Option Tmp) : (st.put d v).nx = st.nx := put_nx _ _ _
theorem nx_new : (st.new ob).nx = st.nx + 1 := rfl
theorem nx_setOb : (st.setOb o ob).nx = st.nx := rfl
theorem N_put (d : Option Tmp) : (st.put d v).N = st.N := put_N _ _ _
theorem N_new : (st.new ob).N = st.N := rfl
theorem N_setOb : (st.setOb o ob).N = st.N := rfl
theorem G_put (d : Option Tmp) : (st.put d v).G = st.G := put_G _ _ _
theorem G_new : (st.new ob).G = st.G := rfl
theorem G_setOb : (st.setOb o ob).G = st.G := rfl
theorem fits_some : st.fits (some d) = (d < st.N) := rfl
theorem fits_none : st.fits none = True := rfl
theorem ev_tmp : ev st (.tmp t) = st.T t := rfl
theorem ev_const (x : Value) : ev st (.const x) = .raw x := rfl
theorem ev_global : ev st (.global t) = st.G t := rfl
theorem ev_func (f : FuncId) : ev st (.func f) = .raw (.func (.func f) #[] #[]) := rfl
end

section
variable (N : Nat) (G : Nat → V) (args : List V) (ts : List (Nat × V)) (os : List Ob) (t o k : Nat) (v : V)
theorem T_enter : (St.enter N G args).T t = (args[t]?).getD .any := rfl
theorem σ_enter : (St.enter N G args).σ o = .dead := rfl
theorem nx_enter : (St.enter N G args).nx = 0 := rfl
theorem N_enter : (St.enter N G args).N = N := rfl
theorem G_enter : (St.enter N G args).G = G := rfl
theorem T_mk : (St.mk' N G ts os).T t = lk ts t := rfl
theorem σ_mk : (St.mk' N G ts os).σ o = (os[o]?).getD .dead := rfl
theorem nx_mk : (St.mk' N G ts os).nx = os.length := rfl
theorem N_mk : (St.mk' N G ts os).N = N := rfl
theorem G_mk : (St.mk' N G ts os).G = G := rfl
theorem lk_cons : lk ((k, v) :: ts) t = if t = k then v else lk ts t := rfl
theorem lk_nil : lk [] t = .any := rfl
end

section
variable (v : V) (r : List V) (j : Nat)
theorem cl_zero : cl (v :: r) 0 = v := rfl
theorem cl_succ : cl (v :: r) (j + 1) = cl r j := rfl
end

theorem wrap64_id {x : Int} (h1 : -9223372036854775808 ≤ x) (h2 : x ≤ 9223372036854775807) : IntKind.i64.wrap x = x := by
  rw [IntKind.wrap_i64]; omega

end Go.Proofs.YtfnfbdccmggfoaaGreatDoor.Pg
