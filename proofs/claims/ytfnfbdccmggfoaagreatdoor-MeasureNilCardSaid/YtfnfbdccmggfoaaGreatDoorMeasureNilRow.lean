/-
  For every input 'MeasureNil' returns true, and each argument reads behind the call as it read before (A nil ruler returns zero values). The row lists four variables; the walk needs none of them.
-/
import Derived.Test.YtfnfbdccmggfoaaGreatDoorRows
import Derived.Test.YtfnfbdccmggfoaaGreatDoorNMea
import Derived.Test.YtfnfbdccmggfoaaGreatDoorPg18
import Derived.Test.YtfnfbdccmggfoaaGreatDoorPg19
import Derived.Test.YtfnfbdccmggfoaaGreatDoorMeasureNilFacts
import Derived.ProofKit
import Derived.LaidMore
import Derived.OpenShut
import Derived.Stop.Joined
set_option linter.unusedSimpArgs false
set_option linter.unusedVariables false
namespace Go.Proofs.YtfnfbdccmggfoaaGreatDoor
open Go.Proofs.YtfnfbdccmggfoaaGreatDoor.Pg Go.ChangeShapes Go.WideShapes Go.ChangeAt Go.RowKit

theorem own_4 : ownKnob Tryz.prog.godebug = none := by kernel_rfl
theorem laidOut_4 : laidOutB Tryz.prog = true := by kernel_rfl
theorem readable_4 : ∀ t ∈ Tryz.f4.params.toList, Tryz.prog.readableRec t = true ∧ t < Tryz.prog.types.size := by
  intro t ht
  rw [Tryz.params4] at ht
  simp only [List.mem_cons, List.not_mem_nil, or_false] at ht
  rcases ht with rfl | rfl
  · exact ⟨by kernel_rfl, of_decide_eq_true (by kernel_rfl)⟩
  · exact ⟨by kernel_rfl, of_decide_eq_true (by kernel_rfl)⟩

/-- The door's own heap meets the condition: three closed facts. -/
theorem door_4 (os : Os) (args : Array Value) : laidMetH Tryz.prog Rows.measureNilRow.laid ((World.doorLaid Tryz.prog 400 os).forCall (fun _ _ => 0) ⟨#[], args, []⟩).memory :=
  laidMetH_of_parts3 (fuel := 8) (laidMet_of_run' 8 (by kernel_rfl) (by kernel_rfl)) (by kernel_rfl) (by kernel_rfl)

set_option maxRecDepth 100000 in
theorem measureNil_contract (H : Type) (enc : TypeId × Value → H) (W : World) (base : Nat) (args : Array Value) (ds gs : List (DataW H)) (before : List MemPlace)
    (hval : ∀ (j : Nat) t v, Tryz.f4.params[j]? = some t → args[j]? = some v → Value.okWide Tryz.prog W .any base t v)
    (hW : DataW.Whole enc Tryz.prog Tryz.f4.params.toList Rows.measureNilSpec.vars false W args.toList ds gs before)
    (hsz : (DataW.weightsEach Tryz.prog (Tryz.f4.params.toList ++ Rows.measureNilSpec.plain.varTypes Tryz.prog) (ds ++ gs)).all (· ≤ reachBytes) = true) :
    Calls Tryz.prog 4 args W fun e W' => ∃ v, e = .returned v ∧ Rows.measureNilSpec.post enc Tryz.prog Tryz.f4 false true false false W args v W' := by
  have hW' := hW
  obtain ⟨p, q, hA0, hV, rfl, hfz, hnd⟩ := hW
  have hA : DataW.TrodAll enc Tryz.prog W 0 (fun _ => true) true Tryz.f4.params.toList args.toList ds p := hA0
  rw [Tryz.params4] at hA hval hsz
  have hz : ∀ (j : Nat) (t : TypeId) (d : DataW H), (Tryz.f4.params.toList)[j]? = some t → ds[j]? = some d → ∀ n ∈ d.weights Tryz.prog t, n ≤ reachBytes := by
    intro j t d ht hd n hn
    rw [Tryz.params4] at ht
    have := List.all_eq_true.1 hsz n (DataW.weights_mem_each (by rw [List.getElem?_append_left (List.getElem?_eq_some_iff.1 ht).1]; exact ht) (by rw [List.getElem?_append_left (List.getElem?_eq_some_iff.1 hd).1]; exact hd) n hn)
    simpa using this
  rw [Tryz.params4] at hz
  obtain ⟨v0, vs0, d0, ds0, p0, q0, hargs, rfl, rfl, h0, r0⟩ := trodAll_cons hA
  obtain ⟨v1, vs1, d1, ds1, p1, q1, rfl, rfl, rfl, h1, r1⟩ := trodAll_cons r0
  obtain ⟨rfl, rfl, rfl⟩ := trodAll_nil r1
  obtain rfl : args = #[v0, v1] := by cases args; simp_all
  obtain ⟨rfl, rfl⟩ := trodVars_none hV
  obtain ⟨a0, k0, g0⟩ := arg_int Tryz.underlying3 (hval 0 3 v0 rfl rfl) h0 (hz 0 3 d0 rfl rfl)
  obtain ⟨a1, k1, g1⟩ := arg_int Tryz.underlying3 (hval 1 3 v1 rfl rfl) h1 (hz 1 3 d1 rfl rfl)
  refine ((measureNil_con (fun _ => .any) a0 a1).run W (allOf W) _ (allOf_cons W) (fun g => trivial) rfl ?_).mono fun e W' ⟨u, M', he, hb, _, _, _, hr⟩ => ?_
  · intro k v hk
    rcases k with _ | _ | k
    · have e : _ = v := Option.some.inj hk
      rw [← e]; exact g0
    · have e : _ = v := Option.some.inj hk
      rw [← e]; exact g1
    · simp at hk
  · have hu : u = .bool true := hr
    subst he hu
    refine ⟨_, rfl, ?_⟩
    exact post_of_below (pa := (p0 ++ (p1 ++ []))) (pv := []) hW' (fun _ _ _ => trodAll_cons_mk (shut_bool Tryz.underlying4 _) trodAll_mk0)
      (fun sp hsp => again_all laidOut_4 hb readable_4 hA0 (fun x hx => hW'.lt x (by simpa using hx)) sp (fun x hx => hsp x (by simpa using hx)))
      (fun _ _ => rfl) (by simp) hb (ok_one (by kernel_rfl) rfl (okWide_bool_mk Tryz.underlying4 _))

set_option maxRecDepth 100000 in
theorem measureNil_lifted (os : Os) (started : os.Started) (H : Type) (enc : TypeId × Value → H) :
    ReturnsInHanded {} Tryz.checked os 4 .any (fun w args => (Rows.measureNilSpec.pre enc Tryz.prog Tryz.f4 [] false w args ∧ laidMetH Tryz.prog Rows.measureNilRow.laid w) ∧ sizedMet enc Tryz.prog Tryz.f4 (OpenSpec.ofChange Rows.measureNilSpec) false w args)
      (Rows.measureNilSpec.post enc Tryz.prog Tryz.f4 false true false false) := by
  refine returnsInHanded_of_change_and (C := Tryz.checked) (X := fun w _ => laidMetH Tryz.prog Rows.measureNilRow.laid w) (fun _ _ _ hh h => h.of_heap hh) own_4 started (by kernel_rfl) Tryz.func4
    (ChangeSpec.witness_shaped (enc := enc) (C := Tryz.checked) (os := os) (X := fun w _ => laidMetH Tryz.prog Rows.measureNilRow.laid w) false (World.doorLaid Tryz.prog 400 os) #[.int .i64 0, .int .i64 0] 8 rfl (World.shaped_of_RefB (by kernel_rfl) (by kernel_rfl)) (by kernel_rfl) (by kernel_rfl) (by kernel_rfl) (door_4 os _)) ?_
  intro W base args ds gs before hval hW _ hsz hL _
  exact measureNil_contract H enc W base args ds gs before hval hW hsz

set_option maxRecDepth 100000 in
theorem measureNil_holds : Rows.MeasureNilSaid :=
  OpenClaim.holds_of_wide 4 Tryz.f4 rfl rfl rfl rfl rfl rfl rfl ⟨rfl, rfl, rfl, rfl, rfl⟩ rfl rfl rfl rfl rfl (by kernel_rfl) Tryz.func4 measureNil_closed
    (of_decide_eq_true (by kernel_rfl)) (by unfold Func.isWrapper; first | (rw [if_pos (by decide +kernel)]; kernel_rfl) | (rw [if_neg (by decide +kernel)]; exact ⟨rfl, rfl⟩))
    (fun os started H enc _ => measureNil_lifted os started H enc)

end Go.Proofs.YtfnfbdccmggfoaaGreatDoor
