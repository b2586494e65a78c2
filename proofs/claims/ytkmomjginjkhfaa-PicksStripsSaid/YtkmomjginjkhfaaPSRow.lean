/-
  For every input 'PicksStrips' returns true, and each argument reads behind the call as it read before (any layout and stretch). No conditions.
-/
import Derived.Test.YtkmomjginjkhfaaRows
import Derived.Test.YtkmomjginjkhfaaReads
import Derived.Test.YtkmomjginjkhfaaSame
import Derived.Test.YtkmomjginjkhfaaPg19
set_option linter.unusedSimpArgs false
set_option linter.unusedVariables false
namespace Go.Proofs.Ytkmomjginjkhfaa
open Go.Proofs.Ytkmomjginjkhfaa.Pg Go.ChangeShapes Go.WideShapes Go.ChangeAt Go.RowKit

theorem own_5 : ownKnob Try.prog.godebug = none := by kernel_rfl
theorem laidOut_5 : laidOutB Try.prog = true := by kernel_rfl

theorem readable_5 : ∀ t ∈ Try.f5.params.toList, Try.prog.readableRec t = true ∧ t < Try.prog.types.size := by
  intro t ht
  rw [Try.params5] at ht
  simp only [List.mem_cons, List.not_mem_nil, or_false] at ht
  rcases ht with rfl | rfl | rfl
  · exact ⟨by kernel_rfl, of_decide_eq_true (by kernel_rfl)⟩
  · exact ⟨by kernel_rfl, of_decide_eq_true (by kernel_rfl)⟩
  · exact ⟨by kernel_rfl, of_decide_eq_true (by kernel_rfl)⟩

theorem picksStrips_contract (H : Type) (enc : TypeId × Value → H) (W : World) (base : Nat) (args : Array Value) (ds gs : List (DataW H)) (before : List MemPlace)
    (hval : ∀ (j : Nat) t v, Try.f5.params[j]? = some t → args[j]? = some v → Value.okWide Try.prog W .any base t v)
    (hW : DataW.Whole enc Try.prog Try.f5.params.toList Rows.picksStripsSpec.vars false W args.toList ds gs before) :
    Calls Try.prog 5 args W fun e W' => ∃ v, e = .returned v ∧ Rows.picksStripsSpec.post enc Try.prog Try.f5 false true false false W args v W' := by
  have hW' := hW
  obtain ⟨p, q, hA0, hV, rfl, hfz, hnd⟩ := hW
  have hA : DataW.TrodAll enc Try.prog W 0 (fun _ => true) true Try.f5.params.toList args.toList ds p := hA0
  rw [Try.params5] at hA hval
  obtain ⟨v0, vs0, d0, ds0, p0, q0, hargs, rfl, rfl, h0, r0⟩ := trodAll_cons hA
  obtain ⟨v1, vs1, d1, ds1, p1, q1, rfl, rfl, rfl, h1, r1⟩ := trodAll_cons r0
  obtain ⟨v2, vs2, d2, ds2, p2, q2, rfl, rfl, rfl, h2, r2⟩ := trodAll_cons r1
  obtain ⟨rfl, rfl, rfl⟩ := trodAll_nil r2
  obtain rfl : args = #[v0, v1, v2] := by cases args; simp_all
  obtain ⟨rfl, rfl⟩ := trodVars_none hV
  obtain ⟨a0, g0⟩ := arg_struct Try.underlying24 reads_lay (by kernel_rfl) (hval 0 24 v0 rfl rfl) h0
  obtain ⟨a1, g1⟩ := arg_int Try.underlying3 (hval 1 3 v1 rfl rfl) h1
  obtain ⟨a2, g2⟩ := arg_int Try.underlying3 (hval 2 3 v2 rfl rfl) h2
  refine ((picksStrips_con (fun _ => .any) a0 a1 a2).run W (allOf W) _ (allOf_cons W) (fun _ => trivial) rfl ?_).mono fun e W' ⟨u, M', he, hb, _, _, _, hr⟩ => ?_
  · intro k v hk
    rcases k with _ | _ | _ | k
    · have e : _ = v := Option.some.inj hk
      rw [← e]; exact g0
    · have e : _ = v := Option.some.inj hk
      rw [← e]; exact g1
    · have e : _ = v := Option.some.inj hk
      rw [← e]; exact g2
    · simp at hk
  · have hu : u = .bool true := hr
    subst he hu
    refine ⟨_, rfl, ?_⟩
    exact post_of_below (pa := (p0 ++ (p1 ++ (p2 ++ [])))) (pv := []) hW' (fun _ _ _ => trodAll_cons_mk (shut_bool Try.underlying4 _) trodAll_mk0)
      (fun sp hsp => again_all laidOut_5 hb readable_5 hA0 (fun x hx => hW'.lt x (by simpa using hx)) sp (fun x hx => hsp x (by simpa using hx)))
      (fun _ _ => rfl) (by simp) hb (ok_one (by kernel_rfl) rfl (okWide_bool_mk Try.underlying4 _))

set_option maxRecDepth 100000 in
theorem picksStrips_lifted (os : Os) (started : os.Started) (H : Type) (enc : TypeId × Value → H) :
    ReturnsInHanded {} Try.checked os 5 .any (Rows.picksStripsSpec.pre6 enc Try.prog Try.f5 Rows.picksStripsRow.domain false) (Rows.picksStripsSpec.post enc Try.prog Try.f5 false true false false) := by
  refine returnsInHanded_of_change (C := Try.checked) own_5 started (by kernel_rfl) Try.func5
    (ChangeSpec.witness6 (enc := enc) (C := Try.checked) false ⟨#[], #[.agg #[.int .i64 0, .slice none 0 0], .int .i64 0, .int .i64 0], []⟩ 8 (by kernel_rfl) (by kernel_rfl) (by kernel_rfl) (by kernel_rfl)) ?_
  intro W base args ds gs before hval hW _ _
  exact picksStrips_contract H enc W base args ds gs before hval hW

theorem picksStrips_proved : Rows.PicksStripsSaid :=
  OpenClaim.holds_of_wide 5 Try.f5 rfl rfl rfl rfl rfl rfl rfl ⟨rfl, rfl, rfl, rfl, rfl⟩ rfl rfl rfl rfl rfl (by kernel_rfl) Try.func5 (by kernel_rfl)
    (of_decide_eq_true (by kernel_rfl)) (by unfold Func.isWrapper; first | (rw [if_pos (by decide +kernel)]; kernel_rfl) | (rw [if_neg (by decide +kernel)]; exact ⟨rfl, rfl⟩))
    (fun os started H enc _ => picksStrips_lifted os started H enc)
#print axioms picksStrips_proved

end Go.Proofs.Ytkmomjginjkhfaa
