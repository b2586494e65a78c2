/-
  For every input 'AuditUnlike' returns true, and each argument reads behind the call as it read before (any two layouts, and anything done to the first). No conditions.
-/
import Derived.Test.YtkmomjginjkhfaaRows
import Derived.Test.YtkmomjginjkhfaaReads
import Derived.Test.YtkmomjginjkhfaaAuLaw
import Derived.Test.YtkmomjginjkhfaaPg19
set_option linter.unusedSimpArgs false
set_option linter.unusedVariables false
namespace Go.Proofs.Ytkmomjginjkhfaa
open Go.Proofs.Ytkmomjginjkhfaa.Pg Go.ChangeShapes Go.WideShapes Go.ChangeAt Go.RowKit

theorem reads_spoil : Reads SpoilL Try.prog 44 4 cSpoil noMore := by
  intro H enc w base spare held fuel cs x h hz
  obtain ⟨a0, k0, h0⟩ := reads_field Try.underlying44 h hz (sz := 4) (by kernel_rfl) 0 (by omega) 0 _ rfl rfl (by kernel_rfl) (reads_int Try.underlying3)
  obtain ⟨a1, k1, h1⟩ := reads_field Try.underlying44 h hz (sz := 4) (by kernel_rfl) 1 (by omega) 1 _ rfl rfl (by kernel_rfl) (reads_int Try.underlying3)
  obtain ⟨a2, k2, h2⟩ := reads_field Try.underlying44 h hz (sz := 4) (by kernel_rfl) 2 (by omega) 2 _ rfl rfl (by kernel_rfl) (reads_int Try.underlying3)
  obtain ⟨a3, k3, h3⟩ := reads_field Try.underlying44 h hz (sz := 4) (by kernel_rfl) 3 (by omega) 3 _ rfl rfl (by kernel_rfl) (reads_int Try.underlying3)
  refine ⟨⟨a0, a1, a2, a3⟩, by first | trivial | exact k3, (reads_len Try.underlying44 h).trans (by kernel_rfl), fun j hj => ?_⟩
  rcases j with _ | _ | _ | _ | j
  · exact h0
  · exact h1
  · exact h2
  · exact h3
  · omega

theorem own_6 : ownKnob Try.prog.godebug = none := by kernel_rfl
theorem laidOut_6 : laidOutB Try.prog = true := by kernel_rfl

theorem readable_6 : ∀ t ∈ Try.f6.params.toList, Try.prog.readableRec t = true ∧ t < Try.prog.types.size := by
  intro t ht
  rw [Try.params6] at ht
  simp only [List.mem_cons, List.not_mem_nil, or_false] at ht
  rcases ht with rfl | rfl | rfl
  · exact ⟨by kernel_rfl, of_decide_eq_true (by kernel_rfl)⟩
  · exact ⟨by kernel_rfl, of_decide_eq_true (by kernel_rfl)⟩
  · exact ⟨by kernel_rfl, of_decide_eq_true (by kernel_rfl)⟩

theorem auditUnlike_contract (H : Type) (enc : TypeId × Value → H) (W : World) (base : Nat) (args : Array Value) (ds gs : List (DataW H)) (before : List MemPlace)
    (hval : ∀ (j : Nat) t v, Try.f6.params[j]? = some t → args[j]? = some v → Value.okWide Try.prog W .any base t v)
    (hW : DataW.Whole enc Try.prog Try.f6.params.toList Rows.auditUnlikeSpec.vars false W args.toList ds gs before)
    (hsz : (DataW.weightsEach Try.prog (Try.f6.params.toList ++ Rows.auditUnlikeSpec.plain.varTypes Try.prog) (ds ++ gs)).all (· ≤ reachBytes) = true) :
    Calls Try.prog 6 args W fun e W' => ∃ v, e = .returned v ∧ Rows.auditUnlikeSpec.post enc Try.prog Try.f6 false true false false W args v W' := by
  have hW' := hW
  obtain ⟨p, q, hA0, hV, rfl, hfz, hnd⟩ := hW
  have hA : DataW.TrodAll enc Try.prog W 0 (fun _ => true) true Try.f6.params.toList args.toList ds p := hA0
  rw [Try.params6] at hA hval hsz
  have hz : ∀ (j : Nat) (t : TypeId) (d : DataW H), (Try.f6.params.toList)[j]? = some t → ds[j]? = some d → ∀ n ∈ d.weights Try.prog t, n ≤ reachBytes := by
    intro j t d ht hd n hn
    rw [Try.params6] at ht
    have := List.all_eq_true.1 hsz n (DataW.weights_mem_each (by rw [List.getElem?_append_left (List.getElem?_eq_some_iff.1 ht).1]; exact ht) (by rw [List.getElem?_append_left (List.getElem?_eq_some_iff.1 hd).1]; exact hd) n hn)
    simpa using this
  rw [Try.params6] at hz
  obtain ⟨v0, vs0, d0, ds0, p0, q0, hargs, rfl, rfl, h0, r0⟩ := trodAll_cons hA
  obtain ⟨v1, vs1, d1, ds1, p1, q1, rfl, rfl, rfl, h1, r1⟩ := trodAll_cons r0
  obtain ⟨v2, vs2, d2, ds2, p2, q2, rfl, rfl, rfl, h2, r2⟩ := trodAll_cons r1
  obtain ⟨rfl, rfl, rfl⟩ := trodAll_nil r2
  obtain rfl : args = #[v0, v1, v2] := by cases args; simp_all
  obtain ⟨rfl, rfl⟩ := trodVars_none hV
  obtain ⟨a0, k0, g0⟩ := arg_struct Try.underlying24 reads_lay (by kernel_rfl) (hval 0 24 v0 rfl rfl) h0 (hz 0 24 d0 rfl rfl)
  obtain ⟨a1, k1, g1⟩ := arg_struct Try.underlying24 reads_lay (by kernel_rfl) (hval 1 24 v1 rfl rfl) h1 (hz 1 24 d1 rfl rfl)
  obtain ⟨a2, k2, g2⟩ := arg_struct Try.underlying44 reads_spoil (by kernel_rfl) (hval 2 44 v2 rfl rfl) h2 (hz 2 44 d2 rfl rfl)
  refine ((auditUnlike_con (fun _ => .any) a0 a1 a2 k0).run W (allOf W) _ (allOf_cons W) (fun _ => trivial) rfl ?_).mono fun e W' ⟨u, M', he, hb, _, _, _, hr⟩ => ?_
  · intro k v hk
    rcases k with _ | _ | _ | k
    · have e : _ = v := Option.some.inj hk
      rw [← e]; exact g0
    · have e : _ = v := Option.some.inj hk
      rw [← e]; exact g1
    · have e : _ = v := Option.some.inj hk
      rw [← e]; exact g2
    · simp at hk
  · have hu : u = .bool true := hr
    subst he hu
    refine ⟨_, rfl, ?_⟩
    exact post_of_below (pa := (p0 ++ (p1 ++ (p2 ++ [])))) (pv := []) hW' (fun _ _ _ => trodAll_cons_mk (shut_bool Try.underlying4 _) trodAll_mk0)
      (fun sp hsp => again_all laidOut_6 hb readable_6 hA0 (fun x hx => hW'.lt x (by simpa using hx)) sp (fun x hx => hsp x (by simpa using hx)))
      (fun _ _ => rfl) (by simp) hb (ok_one (by kernel_rfl) rfl (okWide_bool_mk Try.underlying4 _))

set_option maxRecDepth 100000 in
theorem auditUnlike_lifted (os : Os) (started : os.Started) (H : Type) (enc : TypeId × Value → H) :
    ReturnsInHanded {} Try.checked os 6 .any (Rows.auditUnlikeSpec.pre6 enc Try.prog Try.f6 Rows.auditUnlikeRow.domain false) (Rows.auditUnlikeSpec.post enc Try.prog Try.f6 false true false false) := by
  refine returnsInHanded_of_change_sized (C := Try.checked) own_6 started (by kernel_rfl) Try.func6
    (ChangeSpec.witness6 (enc := enc) (C := Try.checked) false ⟨#[], #[.agg #[.int .i64 0, .slice none 0 0], .agg #[.int .i64 0, .slice none 0 0], .agg #[.int .i64 0, .int .i64 0, .int .i64 0, .int .i64 0]], []⟩ 8 (by kernel_rfl) (by kernel_rfl) (by kernel_rfl) (by kernel_rfl)) ?_
  intro W base args ds gs before hval hW _ hsz _
  exact auditUnlike_contract H enc W base args ds gs before hval hW hsz

theorem auditUnlike_proved : Rows.AuditUnlikeSaid :=
  OpenClaim.holds_of_wide 6 Try.f6 rfl rfl rfl rfl rfl rfl rfl ⟨rfl, rfl, rfl, rfl, rfl⟩ rfl rfl rfl rfl rfl (by kernel_rfl) Try.func6 (by kernel_rfl)
    (of_decide_eq_true (by kernel_rfl)) (by unfold Func.isWrapper; first | (rw [if_pos (by decide +kernel)]; kernel_rfl) | (rw [if_neg (by decide +kernel)]; exact ⟨rfl, rfl⟩))
    (fun os started H enc _ => auditUnlike_lifted os started H enc)
#print axioms auditUnlike_proved

end Go.Proofs.Ytkmomjginjkhfaa
