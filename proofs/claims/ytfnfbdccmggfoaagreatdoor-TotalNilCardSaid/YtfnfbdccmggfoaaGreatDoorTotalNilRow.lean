/-
  For every input 'TotalNil' returns true, and each argument reads behind the call as it read before (A nil ruler has no ends). The row lists four variables; the walk needs none of them.
-/
import Derived.Test.YtfnfbdccmggfoaaGreatDoorRows
import Derived.Test.YtfnfbdccmggfoaaGreatDoorNTot
import Derived.Test.YtfnfbdccmggfoaaGreatDoorPg18
import Derived.Test.YtfnfbdccmggfoaaGreatDoorPg19
import Derived.Test.YtfnfbdccmggfoaaGreatDoorTotalNilFacts
import Derived.ProofKit
import Derived.LaidMore
import Derived.OpenShut
import Derived.Stop.Joined
set_option linter.unusedSimpArgs false
set_option linter.unusedVariables false
namespace Go.Proofs.YtfnfbdccmggfoaaGreatDoor
open Go.Proofs.YtfnfbdccmggfoaaGreatDoor.Pg Go.ChangeShapes Go.WideShapes Go.ChangeAt Go.RowKit

theorem own_3 : ownKnob Tryz.prog.godebug = none := by kernel_rfl
theorem laidOut_3 : laidOutB Tryz.prog = true := by kernel_rfl
theorem readable_3 : ∀ t ∈ Tryz.f3.params.toList, Tryz.prog.readableRec t = true ∧ t < Tryz.prog.types.size := by
  intro t ht
  rw [Tryz.params3] at ht
  simp only [List.mem_cons, List.not_mem_nil, or_false] at ht
  rcases ht with rfl | rfl
  · exact ⟨by kernel_rfl, of_decide_eq_true (by kernel_rfl)⟩
  · exact ⟨by kernel_rfl, of_decide_eq_true (by kernel_rfl)⟩

/-- The door's own heap meets the condition: three closed facts. -/
theorem door_3 (os : Os) (args : Array Value) : laidMetH Tryz.prog Rows.totalNilRow.laid ((World.doorLaid Tryz.prog 400 os).forCall (fun _ _ => 0) ⟨#[], args, []⟩).memory :=
  laidMetH_of_parts3 (fuel := 8) (laidMet_of_run' 8 (by kernel_rfl) (by kernel_rfl)) (by kernel_rfl) (by kernel_rfl)

theorem reads_ln : Reads LnL Tryz.prog 24 3 cLn (fun _ => True) := by
  intro H enc w base spare held fuel cs x h hz
  obtain ⟨a0, k0, h0⟩ := reads_field Tryz.underlying24 h hz (sz := 3) (by kernel_rfl) 0 (by omega) 0 _ rfl rfl (by kernel_rfl) (reads_int Tryz.underlying3)
  obtain ⟨a1, k1, h1⟩ := reads_field Tryz.underlying24 h hz (sz := 3) (by kernel_rfl) 1 (by omega) 1 _ rfl rfl (by kernel_rfl) (reads_int Tryz.underlying3)
  obtain ⟨a2, k2, h2⟩ := reads_field Tryz.underlying24 h hz (sz := 3) (by kernel_rfl) 2 (by omega) 2 _ rfl rfl (by kernel_rfl) (reads_bool Tryz.underlying4)
  refine ⟨⟨a0, a1, a2⟩, trivial, (reads_len Tryz.underlying24 h).trans (by kernel_rfl), fun j hj => ?_⟩
  rcases j with _ | _ | _ | j
  · exact h0
  · exact h1
  · exact h2
  · omega

set_option maxRecDepth 100000 in
theorem totalNil_contract (H : Type) (enc : TypeId × Value → H) (W : World) (base : Nat) (args : Array Value) (ds gs : List (DataW H)) (before : List MemPlace)
    (hval : ∀ (j : Nat) t v, Tryz.f3.params[j]? = some t → args[j]? = some v → Value.okWide Tryz.prog W .any base t v)
    (hW : DataW.Whole enc Tryz.prog Tryz.f3.params.toList Rows.totalNilSpec.vars false W args.toList ds gs before)
    (hsz : (DataW.weightsEach Tryz.prog (Tryz.f3.params.toList ++ Rows.totalNilSpec.plain.varTypes Tryz.prog) (ds ++ gs)).all (· ≤ reachBytes) = true) :
    Calls Tryz.prog 3 args W fun e W' => ∃ v, e = .returned v ∧ Rows.totalNilSpec.post enc Tryz.prog Tryz.f3 false true false false W args v W' := by
  have hW' := hW
  obtain ⟨p, q, hA0, hV, rfl, hfz, hnd⟩ := hW
  have hA : DataW.TrodAll enc Tryz.prog W 0 (fun _ => true) true Tryz.f3.params.toList args.toList ds p := hA0
  rw [Tryz.params3] at hA hval hsz
  have hz : ∀ (j : Nat) (t : TypeId) (d : DataW H), (Tryz.f3.params.toList)[j]? = some t → ds[j]? = some d → ∀ n ∈ d.weights Tryz.prog t, n ≤ reachBytes := by
    intro j t d ht hd n hn
    rw [Tryz.params3] at ht
    have := List.all_eq_true.1 hsz n (DataW.weights_mem_each (by rw [List.getElem?_append_left (List.getElem?_eq_some_iff.1 ht).1]; exact ht) (by rw [List.getElem?_append_left (List.getElem?_eq_some_iff.1 hd).1]; exact hd) n hn)
    simpa using this
  rw [Tryz.params3] at hz
  obtain ⟨v0, vs0, d0, ds0, p0, q0, hargs, rfl, rfl, h0, r0⟩ := trodAll_cons hA
  obtain ⟨v1, vs1, d1, ds1, p1, q1, rfl, rfl, rfl, h1, r1⟩ := trodAll_cons r0
  obtain ⟨rfl, rfl, rfl⟩ := trodAll_nil r1
  obtain rfl : args = #[v0, v1] := by cases args; simp_all
  obtain ⟨rfl, rfl⟩ := trodVars_none hV
  obtain ⟨a0, k0, g0⟩ := arg_slice (c := eNums) Tryz.underlying22 (reads_slice (bytes := 8) 0 Tryz.underlying22 (by kernel_rfl) (by kernel_rfl) (reads_int Tryz.underlying3)) (hval 0 22 v0 rfl rfl) h0 (hz 0 22 d0 rfl rfl)
  obtain ⟨a1, k1, g1⟩ := arg_struct Tryz.underlying24 reads_ln (by kernel_rfl) (hval 1 24 v1 rfl rfl) h1 (hz 1 24 d1 rfl rfl)
  refine ((totalNil_con (fun _ => .any) a0 a1).run W (allOf W) _ (allOf_cons W) (fun g => trivial) rfl ?_).mono fun e W' ⟨u, M', he, hb, _, _, _, hr⟩ => ?_
  · intro k v hk
    rcases k with _ | _ | k
    · have e : _ = v := Option.some.inj hk
      rw [← e]; exact g0
    · have e : _ = v := Option.some.inj hk
      rw [← e]; exact g1
    · simp at hk
  · have hu : u = .bool true := hr
    subst he hu
    refine ⟨_, rfl, ?_⟩
    exact post_of_below (pa := (p0 ++ (p1 ++ []))) (pv := []) hW' (fun _ _ _ => trodAll_cons_mk (shut_bool Tryz.underlying4 _) trodAll_mk0)
      (fun sp hsp => again_all laidOut_3 hb readable_3 hA0 (fun x hx => hW'.lt x (by simpa using hx)) sp (fun x hx => hsp x (by simpa using hx)))
      (fun _ _ => rfl) (by simp) hb (ok_one (by kernel_rfl) rfl (okWide_bool_mk Tryz.underlying4 _))

set_option maxRecDepth 100000 in
theorem totalNil_lifted (os : Os) (started : os.Started) (H : Type) (enc : TypeId × Value → H) :
    ReturnsInHanded {} Tryz.checked os 3 .any (fun w args => (Rows.totalNilSpec.pre enc Tryz.prog Tryz.f3 [] false w args ∧ laidMetH Tryz.prog Rows.totalNilRow.laid w) ∧ sizedMet enc Tryz.prog Tryz.f3 (OpenSpec.ofChange Rows.totalNilSpec) false w args)
      (Rows.totalNilSpec.post enc Tryz.prog Tryz.f3 false true false false) := by
  refine returnsInHanded_of_change_and (C := Tryz.checked) (X := fun w _ => laidMetH Tryz.prog Rows.totalNilRow.laid w) (fun _ _ _ hh h => h.of_heap hh) own_3 started (by kernel_rfl) Tryz.func3
    (ChangeSpec.witness_shaped (enc := enc) (C := Tryz.checked) (os := os) (X := fun w _ => laidMetH Tryz.prog Rows.totalNilRow.laid w) false (World.doorLaid Tryz.prog 400 os) #[.slice none 0 0, .agg #[.int .i64 0, .int .i64 0, .bool false]] 8 rfl (World.shaped_of_RefB (by kernel_rfl) (by kernel_rfl)) (by kernel_rfl) (by kernel_rfl) (by kernel_rfl) (door_3 os _)) ?_
  intro W base args ds gs before hval hW _ hsz hL _
  exact totalNil_contract H enc W base args ds gs before hval hW hsz

set_option maxRecDepth 100000 in
theorem totalNil_holds : Rows.TotalNilSaid :=
  OpenClaim.holds_of_wide 3 Tryz.f3 rfl rfl rfl rfl rfl rfl rfl ⟨rfl, rfl, rfl, rfl, rfl⟩ rfl rfl rfl rfl rfl (by kernel_rfl) Tryz.func3 totalNil_closed
    (of_decide_eq_true (by kernel_rfl)) (by unfold Func.isWrapper; first | (rw [if_pos (by decide +kernel)]; kernel_rfl) | (rw [if_neg (by decide +kernel)]; exact ⟨rfl, rfl⟩))
    (fun os started H enc _ => totalNil_lifted os started H enc)

end Go.Proofs.YtfnfbdccmggfoaaGreatDoor
