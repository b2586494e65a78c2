/-
  The statement of 'PicksWide', out of its walk.
-/
import Derived.Test.YtkmomjginjkhfaaRows
import Derived.Test.YtkmomjginjkhfaaPWide
import Derived.Test.YtkmomjginjkhfaaPg19
set_option linter.unusedSimpArgs false
set_option linter.unusedVariables false
namespace Go.Proofs.Ytkmomjginjkhfaa
open Go.Proofs.Ytkmomjginjkhfaa.Pg Go.ChangeShapes Go.WideShapes Go.ChangeAt Go.RowKit

theorem own : ownKnob Try.prog.godebug = none := by kernel_rfl
theorem laidOut : laidOutB Try.prog = true := by kernel_rfl

theorem readable4 : ∀ t ∈ Try.f4.params.toList, Try.prog.readableRec t = true ∧ t < Try.prog.types.size := by
  intro t ht
  rw [Try.params4] at ht
  simp only [List.mem_cons, List.not_mem_nil, or_false] at ht
  rcases ht with rfl | rfl | rfl
  · exact ⟨by kernel_rfl, of_decide_eq_true (by kernel_rfl)⟩
  · exact ⟨by kernel_rfl, of_decide_eq_true (by kernel_rfl)⟩
  · exact ⟨by kernel_rfl, of_decide_eq_true (by kernel_rfl)⟩

theorem reads_strip : Reads StripL Try.prog 33 3 cStrip := by
  intro H enc w base spare held fuel cs x h
  obtain ⟨a0, h0⟩ := reads_field Try.underlying33 h (sz := 3) (by kernel_rfl) 0 (by omega) _ rfl rfl (by kernel_rfl) (reads_int Try.underlying3)
  obtain ⟨a1, h1⟩ := reads_field Try.underlying33 h (sz := 3) (by kernel_rfl) 1 (by omega) _ rfl rfl (by kernel_rfl) (reads_int Try.underlying3)
  obtain ⟨a2, h2⟩ := reads_field Try.underlying33 h (sz := 3) (by kernel_rfl) 2 (by omega) _ rfl rfl (by kernel_rfl) (reads_int Try.underlying3)
  refine ⟨⟨a0, a1, a2⟩, (reads_len Try.underlying33 h).trans (by kernel_rfl), fun j hj => ?_⟩
  rcases j with _ | _ | _ | j
  · exact h0
  · exact h1
  · exact h2
  · omega

theorem reads_strips : Reads (List StripL) Try.prog 30 1 (fun l => cl [eStrips l]) := reads_slice StripL.d Try.underlying30 (by kernel_rfl) reads_strip

theorem picksWide_contract (H : Type) (enc : TypeId × Value → H) (W : World) (base : Nat) (args : Array Value) (ds gs : List (DataW H)) (before : List MemPlace)
    (hval : ∀ (j : Nat) t v, Try.f4.params[j]? = some t → args[j]? = some v → Value.okWide Try.prog W .any base t v)
    (hW : DataW.Whole enc Try.prog Try.f4.params.toList Rows.picksWideSpec.vars false W args.toList ds gs before) :
    Calls Try.prog 4 args W fun e W' => ∃ v, e = .returned v ∧ Rows.picksWideSpec.post enc Try.prog Try.f4 false true false false W args v W' := by
  have hW' := hW
  obtain ⟨p, q, hA0, hV, rfl, hfz, hnd⟩ := hW
  have hA : DataW.TrodAll enc Try.prog W 0 (fun _ => true) true Try.f4.params.toList args.toList ds p := hA0
  rw [Try.params4] at hA hval
  obtain ⟨v0, vs0, d0, ds0, p0, q0, hargs, rfl, rfl, h0, r0⟩ := trodAll_cons hA
  obtain ⟨v1, vs1, d1, ds1, p1, q1, rfl, rfl, rfl, h1, r1⟩ := trodAll_cons r0
  obtain ⟨v2, vs2, d2, ds2, p2, q2, rfl, rfl, rfl, h2, r2⟩ := trodAll_cons r1
  obtain ⟨rfl, rfl, rfl⟩ := trodAll_nil r2
  obtain rfl : args = #[v0, v1, v2] := by cases args; simp_all
  obtain ⟨rfl, rfl⟩ := trodVars_none hV
  obtain ⟨a, rfl, rfl, rfl, w1⟩ := open_int Try.underlying3 (hval 1 3 v1 rfl rfl) h1
  obtain ⟨b, rfl, rfl, rfl, w2⟩ := open_int Try.underlying3 (hval 2 3 v2 rfl rfl) h2
  obtain ⟨A0, len, cap, rfl⟩ := okWide_slice Try.underlying30 (hval 0 30 v0 rfl rfl)
  obtain ⟨fuel, hf⟩ := id h0
  obtain ⟨l, hl⟩ := reads_strips H enc W 0 _ _ fuel _ _ hf
  have hr0 : R (allOf W) (eStrips l) β0 (.slice A0 len cap) := (hl.2 0 (by omega)).2
  refine ((picksWide_con (fun _ => .any) l a b).run W (allOf W) _ (allOf_cons W) (fun _ => trivial) rfl ?_).mono fun e W' ⟨u, M', he, hb, _, _, _, hr⟩ => ?_
  · intro k v hk
    rcases k with _ | _ | _ | k
    · obtain rfl : eStrips l = v := by simpa using hk
      exact hr0
    · obtain rfl : eI a = v := by simpa using hk
      rfl
    · obtain rfl : eI b = v := by simpa using hk
      rfl
    · simp at hk
  · have hu : u = .bool true := hr
    subst he hu
    refine ⟨_, rfl, ?_⟩
    exact post_of_below (pa := p0 ++ ([] ++ ([] ++ []))) (pv := []) hW' (fun _ _ _ => trodAll_cons_mk (shut_bool Try.underlying4 _) trodAll_mk0)
      (fun sp hsp => again_all laidOut hb readable4 hA0 (fun x hx => hW'.lt x (by simpa using hx)) sp (fun x hx => hsp x (by simpa using hx)))
      (fun _ _ => rfl) rfl hb (ok_one (by kernel_rfl) rfl (okWide_bool_mk Try.underlying4 _))

set_option maxRecDepth 100000 in
theorem picksWide_lifted (os : Os) (started : os.Started) (H : Type) (enc : TypeId × Value → H) :
    ReturnsInHanded {} Try.checked os 4 .any (Rows.picksWideSpec.pre6 enc Try.prog Try.f4 Rows.picksWideRow.domain false) (Rows.picksWideSpec.post enc Try.prog Try.f4 false true false false) := by
  refine returnsInHanded_of_change (C := Try.checked) own started (by kernel_rfl) Try.func4
    (ChangeSpec.witness6 (enc := enc) (C := Try.checked) false ⟨#[], #[.slice none 0 0, .int .i64 0, .int .i64 0], []⟩ 8 (by kernel_rfl) (by kernel_rfl) (by kernel_rfl) (by kernel_rfl)) ?_
  intro W base args ds gs before hval hW _ _
  exact picksWide_contract H enc W base args ds gs before hval hW

theorem picksWide_proved : Rows.PicksWideSaid :=
  OpenClaim.holds_of_wide 4 Try.f4 rfl rfl rfl rfl rfl rfl rfl ⟨rfl, rfl, rfl, rfl, rfl⟩ rfl rfl rfl rfl rfl (by kernel_rfl) Try.func4 (by kernel_rfl)
    (of_decide_eq_true (by kernel_rfl)) (by unfold Func.isWrapper; first | (rw [if_pos (by decide +kernel)]; kernel_rfl) | (rw [if_neg (by decide +kernel)]; exact ⟨rfl, rfl⟩))
    (fun os started H enc _ => picksWide_lifted os started H enc)
#print axioms picksWide_proved

end Go.Proofs.Ytkmomjginjkhfaa
