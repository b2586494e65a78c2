/-
  For every input 'PicksWord' returns true, and each argument reads behind the call as it read before (any text, any place). The row lists one variable, the table of props.
-/
import Derived.Test.YtkelageigeoajaaDoorRows
import Derived.Test.YtkelageigeoajaaDoorWLaw
import Derived.Test.YtkelageigeoajaaDoorPg18
import Derived.Test.YtkelageigeoajaaDoorPg19
import Derived.Test.YtkelageigeoajaaDoorPg22
import Derived.ProofKit
import Derived.LaidMore
import Derived.OpenShut
import Derived.Stop.Joined
set_option linter.unusedSimpArgs false
set_option linter.unusedVariables false
namespace Go.Proofs.YtkelageigeoajaaDoor
open Go.Proofs.YtkelageigeoajaaDoor.Pg Go.ChangeShapes Go.WideShapes Go.ChangeAt Go.RowKit

theorem own_3 : ownKnob Tryd.prog.godebug = none := by kernel_rfl
theorem laidOut_3 : laidOutB Tryd.prog = true := by kernel_rfl
theorem gLasts_named : Tryd.prog.globalNamed (Rows.picksWordRow.named.headD "") = some 0 := by kernel_rfl
theorem readable_3 : ∀ t ∈ Tryd.f3.params.toList, Tryd.prog.readableRec t = true ∧ t < Tryd.prog.types.size := by
  intro t ht
  rw [Tryd.params3] at ht
  simp only [List.mem_cons, List.not_mem_nil, or_false] at ht
  rcases ht with rfl | rfl
  · exact ⟨by kernel_rfl, of_decide_eq_true (by kernel_rfl)⟩
  · exact ⟨by kernel_rfl, of_decide_eq_true (by kernel_rfl)⟩

/-- The door's own heap meets the condition: three closed facts. -/
theorem door_met (os : Os) (args : Array Value) : laidMetH Tryd.prog Rows.picksWordRow.laid ((World.doorLaid Tryd.prog 400 os).forCall (fun _ _ => 0) ⟨#[], args, []⟩).memory :=
  laidMetH_of_parts3 (fuel := 8) (laidMet_of_run' 8 (by kernel_rfl) (by kernel_rfl)) (by kernel_rfl) (by kernel_rfl)

def lastNs : List Int := [42, 96, 180, 1023, 1563, 1644, 1749, 3654, 8232, 8383, 12298, 64335, 917999]
/-- What the condition gives the walks: the table. -/
theorem of_laid {W : World} (h : laidMetH Tryd.prog Rows.picksWordRow.laid W) : R (allOf W) gLasts β0 (.pointer (some ⟨0, 0, none⟩)) := by
  rw [MakeChecks.laidMetH_plain _ _ _ (by kernel_rfl)] at h
  obtain ⟨ps, ⟨g0, t0, cs0, f0, p0, q0, hg0, ht0, hv0, hd0, _, _⟩, _, _⟩ := h
  obtain rfl := Option.some.inj (gLasts_named.symm.trans hg0)
  obtain rfl := Option.some.inj ((show (Tryd.prog.globals[0]?).map (·.type) = some 63 by kernel_rfl).symm.trans ht0)
  have hd : DataW.trod _ Tryd.prog W 0 _ false f0 63 cs0.toList = some (.agg (lastNs.map fun x => .lit (.int .i32 x)), p0) := hd0
  have hcs := laid_ints Tryd.underlying63 Tryd.underlying21 (by kernel_rfl) hd
  refine laid_cp (f := fun j => .int .i32 (lastNs.getD j 0)) (fun off => World.var?_cell hg0 hv0 off) (fun j hj => by have := hcs j hj; simpa using this) (fun j => rfl) (fun j hj => ?_)
  have : lastAt j = lastNs.getD j 0 := rfl
  show R _ (eR (lastAt j)) _ _
  rw [this]
  exact rfl

theorem picksWord_contract (H : Type) (enc : TypeId × Value → H) (W : World) (base : Nat) (args : Array Value) (ds gs : List (DataW H)) (before : List MemPlace)
    (hval : ∀ (j : Nat) t v, Tryd.f3.params[j]? = some t → args[j]? = some v → Value.okWide Tryd.prog W .any base t v)
    (hW : DataW.Whole enc Tryd.prog Tryd.f3.params.toList Rows.picksWordSpec.vars false W args.toList ds gs before)
    (hsz : (DataW.weightsEach Tryd.prog (Tryd.f3.params.toList ++ Rows.picksWordSpec.plain.varTypes Tryd.prog) (ds ++ gs)).all (· ≤ reachBytes) = true)
    (hL : laidMetH Tryd.prog Rows.picksWordRow.laid W) :
    Calls Tryd.prog 3 args W fun e W' => ∃ v, e = .returned v ∧ Rows.picksWordSpec.post enc Tryd.prog Tryd.f3 false true false false W args v W' := by
  have hW' := hW
  obtain ⟨p, q, hA0, hV, rfl, hfz, hnd⟩ := hW
  have hA : DataW.TrodAll enc Tryd.prog W 0 (fun _ => true) true Tryd.f3.params.toList args.toList ds p := hA0
  rw [Tryd.params3] at hA hval hsz
  have hz : ∀ (j : Nat) (t : TypeId) (d : DataW H), (Tryd.f3.params.toList)[j]? = some t → ds[j]? = some d → ∀ n ∈ d.weights Tryd.prog t, n ≤ reachBytes := by
    intro j t d ht hd n hn
    rw [Tryd.params3] at ht
    have := List.all_eq_true.1 hsz n (DataW.weights_mem_each (by rw [List.getElem?_append_left (List.getElem?_eq_some_iff.1 ht).1]; exact ht) (by rw [List.getElem?_append_left (List.getElem?_eq_some_iff.1 hd).1]; exact hd) n hn)
    simpa using this
  rw [Tryd.params3] at hz
  obtain ⟨v0, vs0, d0, ds0, p0, q0, hargs, rfl, rfl, h0, r0⟩ := trodAll_cons hA
  obtain ⟨v1, vs1, d1, ds1, p1, q1, rfl, rfl, rfl, h1, r1⟩ := trodAll_cons r0
  obtain ⟨rfl, rfl, rfl⟩ := trodAll_nil r1
  obtain rfl : args = #[v0, v1] := by cases args; simp_all
  obtain ⟨rfl, rfl⟩ := trodVars_none hV
  obtain ⟨a0, k0, g0⟩ := arg_slice (c := eRs) Tryd.underlying22 (reads_slice (bytes := 4) 0 Tryd.underlying22 (by kernel_rfl) (by kernel_rfl) (reads_int Tryd.underlying21)) (hval 0 22 v0 rfl rfl) h0 (hz 0 22 d0 rfl rfl)
  obtain ⟨a1, k1, g1⟩ := arg_int Tryd.underlying3 (hval 1 3 v1 rfl rfl) h1 (hz 1 3 d1 rfl rfl)
  refine ((picksWord_con (fun g => if g = 0 then gLasts else .any) rfl a0 a1).run W (allOf W) _ (allOf_cons W) (fun g => ?_) rfl ?_).mono fun e W' ⟨u, M', he, hb, _, _, _, hr⟩ => ?_
  · by_cases hg : g = 0
    · subst hg; exact of_laid hL
    · rw [if_neg hg]; trivial
  · intro k v hk
    rcases k with _ | _ | k
    · have e : _ = v := Option.some.inj hk
      rw [← e]; exact g0
    · have e : _ = v := Option.some.inj hk
      rw [← e]; exact g1
    · simp at hk
  · have hu : u = .bool true := hr
    subst he hu
    refine ⟨_, rfl, ?_⟩
    exact post_of_below (pa := (p0 ++ (p1 ++ []))) (pv := []) hW' (fun _ _ _ => trodAll_cons_mk (shut_bool Tryd.underlying4 _) trodAll_mk0)
      (fun sp hsp => again_all laidOut_3 hb readable_3 hA0 (fun x hx => hW'.lt x (by simpa using hx)) sp (fun x hx => hsp x (by simpa using hx)))
      (fun _ _ => rfl) (by simp) hb (ok_one (by kernel_rfl) rfl (okWide_bool_mk Tryd.underlying4 _))

set_option maxRecDepth 100000 in
theorem picksWord_lifted (os : Os) (started : os.Started) (H : Type) (enc : TypeId × Value → H) :
    ReturnsInHanded {} Tryd.checked os 3 .any (fun w args => (Rows.picksWordSpec.pre enc Tryd.prog Tryd.f3 [] false w args ∧ laidMetH Tryd.prog Rows.picksWordRow.laid w) ∧ sizedMet enc Tryd.prog Tryd.f3 (OpenSpec.ofChange Rows.picksWordSpec) false w args)
      (Rows.picksWordSpec.post enc Tryd.prog Tryd.f3 false true false false) := by
  refine returnsInHanded_of_change_and (C := Tryd.checked) (X := fun w _ => laidMetH Tryd.prog Rows.picksWordRow.laid w) (fun _ _ _ hh h => h.of_heap hh) own_3 started (by kernel_rfl) Tryd.func3
    (ChangeSpec.witness_shaped (enc := enc) (C := Tryd.checked) (os := os) (X := fun w _ => laidMetH Tryd.prog Rows.picksWordRow.laid w) false (World.doorLaid Tryd.prog 400 os) #[.slice none 0 0, .int .i64 0] 8 rfl (World.shaped_of_RefB (by kernel_rfl) (by kernel_rfl)) (by kernel_rfl) (by kernel_rfl) (by kernel_rfl) (door_met os _)) ?_
  intro W base args ds gs before hval hW _ hsz hL _
  exact picksWord_contract H enc W base args ds gs before hval hW hsz hL

theorem picksWord_holds : Rows.PicksWordSaid :=
  OpenClaim.holds_of_wide 3 Tryd.f3 rfl rfl rfl rfl rfl rfl rfl ⟨rfl, rfl, rfl, rfl, rfl⟩ rfl rfl rfl rfl rfl (by kernel_rfl) Tryd.func3 (by kernel_rfl)
    (of_decide_eq_true (by kernel_rfl)) (by unfold Func.isWrapper; first | (rw [if_pos (by decide +kernel)]; kernel_rfl) | (rw [if_neg (by decide +kernel)]; exact ⟨rfl, rfl⟩))
    (fun os started H enc _ => picksWord_lifted os started H enc)

end Go.Proofs.YtkelageigeoajaaDoor
