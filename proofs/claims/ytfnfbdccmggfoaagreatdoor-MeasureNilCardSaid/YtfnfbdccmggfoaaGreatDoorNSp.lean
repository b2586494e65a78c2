/-
  The walk of the statement 'MeasureNil', three: a nil ruler's spaces: a range over an iterator that yields nothing.
-/
import Derived.Test.YtfnfbdccmggfoaaGreatDoorNTot
import Derived.RangeFuncNested
import Derived.RangeFuncBound
import Derived.RangeFuncCalls
import Derived.RangeFuncLeaves
import Derived.RangeFuncBox
import Derived.Shelf.Abstract
import Derived.WalkKit
import Derived.OwnWalkIn
import Derived.TacticsInMore
import Derived.LoopNIn
import Derived.LoopIn
set_option linter.unusedSimpArgs false
set_option linter.unusedVariables false
namespace Go.Proofs.YtfnfbdccmggfoaaGreatDoor
open Go Go.RowKit Go.Shelf Go.Proofs.YtfnfbdccmggfoaaGreatDoor.Pg
attribute [local go_sem] Oper.semAt_some

set_option maxRecDepth 100000 in
set_option maxHeartbeats 1000000 in
theorem there_in (n : Nat) (w : World) : CallsIn Fence.wide n Tryz.prog 33 #[.pointer none] w fun e w' => e = .returned (.bool false) ∧ w' = w := by
  refine callsIn_of_wp Tryz.func33 rfl trivial ?_ rfl
  simp only [Tryz.ntmps33, List.size_toArray, List.length_cons, List.length_nil, Nat.reduceAdd, Nat.reduceSub, Array.replicate_succ, Array.replicate_zero, List.push_toArray, List.append_toArray, List.nil_append, List.cons_append]
  gi_wp2
  go_ret
  exact ⟨rfl, rfl⟩

set_option maxRecDepth 100000 in
set_option maxHeartbeats 1000000 in
theorem span_in (n : Nat) (h1 : 1 ≤ n) (a b : Int) (w : World) : CallsIn Fence.wide n Tryz.prog 37 #[.pointer none, .int .i64 a, .int .i64 b] w fun e w' => e = .returned (.bool false) ∧ w' = w := by
  have h33 : Fence.wide.fn 33 := trivial
  refine callsIn_of_wp Tryz.func37 rfl trivial ?_ rfl
  simp only [Tryz.ntmps37, List.size_toArray, List.length_cons, List.length_nil, Nat.reduceAdd, Nat.reduceSub, Array.replicate_succ, Array.replicate_zero, List.push_toArray, List.append_toArray, List.nil_append, List.cons_append]
  gi_wp2_with (gi_at_call 33; refine (there_in (n - 1) _).mono ?_; rintro e w' ⟨rfl, rfl⟩)
  go_ret
  exact ⟨rfl, rfl⟩

set_option maxRecDepth 100000 in
set_option maxHeartbeats 1000000 in
theorem line_in (n : Nat) (h2 : 2 ≤ n) (a b : Int) (w : World) : CallsIn Fence.wide n Tryz.prog 13 #[.pointer none, .int .i64 a, .int .i64 b] w fun e w' => e = .returned (.slice none 0 0) ∧ w' = w := by
  have h1 : 1 ≤ n := by omega
  have h37 : Fence.wide.fn 37 := trivial
  refine callsIn_of_wp Tryz.func13 rfl trivial ?_ rfl
  simp only [Tryz.ntmps13, List.size_toArray, List.length_cons, List.length_nil, Nat.reduceAdd, Nat.reduceSub, Array.replicate_succ, Array.replicate_zero, List.push_toArray, List.append_toArray, List.nil_append, List.cons_append]
  gi_wp2_with (gi_at_call 37; refine (span_in (n - 1) (by omega) _ _ _).mono ?_; rintro e w' ⟨rfl, rfl⟩)
  go_ret
  exact ⟨rfl, rfl⟩

set_option maxRecDepth 100000 in
set_option maxHeartbeats 1000000 in
/-- slices.Backward(s): the slice value is boxed; the function value captures the box. -/
theorem backward_in (n : Nat) (w : World) : CallsIn Fence.wide n Tryz.prog 44 #[.slice none 0 0] w fun e w' => e = .returned (.func (.func 78) #[] #[.pointer (some ⟨w.heap.size, 0, none⟩)]) ∧ w' = w.alloc (.cells #[.slice none 0 0] 44) := by
  refine callsIn_of_wp Tryz.func44 rfl trivial ?_ rfl
  simp only [Tryz.ntmps44, List.size_toArray, List.length_cons, List.length_nil, Nat.reduceAdd, Nat.reduceSub, Array.replicate_succ, Array.replicate_zero, List.push_toArray, List.append_toArray, List.nil_append, List.cons_append]
  gi_wp2
  go_ret
  exact ⟨rfl, rfl⟩

set_option maxRecDepth 100000 in
set_option maxHeartbeats 1000000 in
/-- The closure of it, at a nil slice: no round. -/
theorem backward1_in (n l Bs : Nat) (J : List Empty → World → Prop) (W : World) (hBs : W.cell? ⟨Bs, 0, none⟩ = some (.slice none 0 0)) (h0 : J [] W) :
    CallsIn Fence.wide n Tryz.prog 78 #[.func (.yield l) #[] #[], .pointer (some ⟨Bs, 0, none⟩)] W fun e W' => (∃ v, e = .returned v) ∧ J [] W' := by
  refine callsIn_of_wp Tryz.func78 rfl trivial ?_ rfl
  simp only [Tryz.ntmps78, List.size_toArray, List.length_cons, List.length_nil, Nat.reduceAdd, Nat.reduceSub, Array.replicate_succ, Array.replicate_zero, List.push_toArray, List.append_toArray, List.nil_append, List.cons_append]
  gi_wp2
  gi_loopw [3] (fun i wr => i = .int .i64 (-1) ∧ J [] wr) (fun _ _ => 0)
  case atStart => exact ⟨rfl, h0⟩
  case round =>
    obtain ⟨rfl, hJs⟩ := hrel
    gi_wp2
    go_end0
    exact ⟨⟨_, rfl⟩, hJs⟩

theorem backward_stops (n Bs : Nat) (w : World) (hBs : Bs < w.heap.size) (hc : w.cell? ⟨Bs, 0, none⟩ = some (.slice none 0 0)) :
    SeqStopsK Fence.wide n Tryz.prog 78 #[.pointer (some ⟨Bs, 0, none⟩)] (fun _ : Empty => #[undef, undef]) (Below w.heap.size) (fun ys => ys = []) (fun _ => False) 0 w := fun l J Jx W hW _ _ hY h0 => by
  have hc' := (hW.cell (p := ⟨Bs, 0, none⟩) hBs).trans hc
  exact (backward1_in n l Bs J W hc' h0).mono fun e W' ⟨he, hj⟩ => ⟨he, .inl ⟨_, rfl, hj⟩⟩

set_option maxRecDepth 100000 in
set_option maxHeartbeats 2000000 in
theorem spaces_in (n : Nat) (hn : 4 ≤ n) (a b : Int) (w : World) : CallsIn Fence.wide n Tryz.prog 15 #[.pointer none, .int .i64 a, .int .i64 b] w fun e W' => e = .returned (.int .i64 0) ∧ Below w.heap.size w W' := by
  have h1 : 1 ≤ n := by omega
  have h13 : Fence.wide.fn 13 := trivial
  have h44 : Fence.wide.fn 44 := trivial
  refine callsIn_of_wp_marks Tryz.func15 rfl trivial ?_ rfl
  simp only [Tryz.ntmps15, List.size_toArray, List.length_cons, List.length_nil, Nat.reduceAdd, Nat.reduceSub, Array.replicate_succ, Array.replicate_zero, List.push_toArray, List.append_toArray, List.nil_append, List.cons_append]
  gi_wp2_with (gi_at_call 13; refine (line_in (n - 1) (by omega) _ _ _).mono ?_; rintro e w' ⟨rfl, rfl⟩)
  gi_wp2_with (gi_at_call 44; refine (backward_in (n - 1) _).mono ?_; rintro e w' ⟨rfl, rfl⟩)
  have bR := Boxed.new (w.alloc (.cells #[.pointer none] 30)) 3 (.int .i64 0)
  have bN := Boxed.new ((w.alloc (.cells #[.pointer none] 30)).alloc (.cells #[.int .i64 0] 3)) 3 (.int .i64 0)
  have bS := Boxed.new (((w.alloc (.cells #[.pointer none] 30)).alloc (.cells #[.int .i64 0] 3)).alloc (.cells #[.int .i64 0] 3)) 44 (.slice none 0 0)
  simp only [World.size_alloc] at bR bN bS
  have bR3 := (bR.alloc (.cells #[.int .i64 0] 3)).alloc (.cells #[.slice none 0 0] 44)
  have bN3 := bN.alloc (.cells #[.slice none 0 0] 44)
  have hB0 : Below w.heap.size w ((((w.alloc (.cells #[.pointer none] 30)).alloc (.cells #[.int .i64 0] 3)).alloc (.cells #[.int .i64 0] 3)).alloc (.cells #[.slice none 0 0] 44)) :=
    ((((Below.refl _ w).alloc (Nat.le_refl _) _).alloc (by simp) _).alloc (by simp; omega) _).alloc (by simp; omega) _
  obtain ⟨W0, hW0⟩ : ∃ W0, (((w.alloc (.cells #[.pointer none] 30)).alloc (.cells #[.int .i64 0] 3)).alloc (.cells #[.int .i64 0] 3)).alloc (.cells #[.slice none 0 0] 44) = W0 := ⟨_, rfl⟩
  have hsz : W0.heap.size = w.heap.size + 4 := by rw [← hW0]; simp
  rw [hW0] at bR3 bN3 bS hB0 ⊢
  refine wpIn_rangeFunc_ownF (α := Empty) rfl h1 (gf := 78) (lb := #[.pointer (some ⟨w.heap.size + 1 + 1 + 1, 0, none⟩)]) rfl trivial (enters_of Tryz.func78 (by kernel_rfl) rfl)
    (backward_stops (n - 1) (w.heap.size + 1 + 1 + 1) W0 (by omega) bS.cell) belowK_t (belowK_b (Nat.le_refl _)) (Below.refl _ _) (fun x => x.elim)
    (fun pre W => (W.cell? ⟨w.heap.size + 1, 0, none⟩ = some (.int .i64 0) ∧ W.frozen? ⟨w.heap.size + 1, 0, none⟩ = false ∧ W.cell? ⟨w.heap.size + 1 + 1, 0, none⟩ = some (.int .i64 0)) ∧ Below w.heap.size w W)
    (fun _ _ _ => False)
    (OwnFrom.and (Own.from (fun s A B row hs hg hr => ⟨cell_kept hs.1 hg hr, (frozen_kept hs.1 hg hr).trans hs.2.1, cell_kept hs.2.2 hg hr⟩) _) (ownFrom_below (Nat.le_refl _) (by omega)))
    (fun _ _ _ _ _ hs _ _ => hs)
    ⟨⟨bR3.cell, bR3.frozen, bN3.cell⟩, hB0⟩
    (fun x => x.elim) ?assign ?body ?done ?stop
  case assign =>
    intro l x
    exact x.elim
  case body =>
    intro l pre x
    exact x.elim
  case done =>
    rintro D ys W hD rfl ⟨⟨hc, hf, hc2⟩, hB⟩ hK
    gi_wp2
    have hK' := (KeepsOthers.setCell W ⟨w.heap.size + 1, 0, none⟩ (.int .i64 0)).same D _ hK rfl
    refine ⟨by simp, .inl ⟨_, _, rfl, run_takeDeferred hK', ?_⟩⟩
    have hc5 := cell_kept (World.cell?_setCell_same' W ⟨w.heap.size + 1, 0, none⟩ (.int .i64 0) (by rw [hc]; rfl)) (grownBy_putObj' _ D (.deferred none)) (fun r e => by cases e; exact ⟨_, hK', rfl⟩)
    have hB1 := hB.setCell (p := ⟨w.heap.size + 1, 0, none⟩) (by simp) (.int .i64 0)
    refine ⟨.int .i64 0, ?_, rfl, hB1.trans (belowK_b (w := w) (Nat.le_refl _) _ D _ _ (by omega) hK' rfl rfl)⟩
    simp [results, Tryz.f15, go_sem, hc5]
  case stop =>
    rintro D c pre W _ h _ _
    exact h.elim

theorem spaces_nil (G : Nat → V) (a b : Int) : Con Tryz.prog G 15 [eN, eI a, eI b] (eI 0) := by
  refine ⟨by kernel_rfl, fun w M cargs hM hG hs hr => ?_⟩
  have h0 : cargs.getD 0 undef = .pointer none := hr 0 _ rfl
  have h1 : cargs.getD 1 undef = .int .i64 a := hr 1 _ rfl
  have h2 : cargs.getD 2 undef = .int .i64 b := hr 2 _ rfl
  have hs' : cargs.size = 3 := hs
  obtain rfl : cargs = #[.pointer none, .int .i64 a, .int .i64 b] := by
    apply Array.ext
    · simp [hs']
    · intro i hi hj
      rw [Array.getD_eq_getD_getElem?] at h0 h1 h2
      rcases i with _ | _ | _ | i
      · rw [Array.getElem?_eq_getElem (by omega)] at h0; simpa using h0
      · rw [Array.getElem?_eq_getElem (by omega)] at h1; simpa using h1
      · rw [Array.getElem?_eq_getElem (by omega)] at h2; simpa using h2
      · simp at hj; omega
  refine (callsIn_wide.1 (spaces_in 8 (by omega) a b w)).mono fun e W' ⟨he, hb⟩ => ?_
  have hlt : ∀ p v, M p = some v → p.block < w.heap.size := fun p v h => by
    have h3 := (hM p v h).1
    unfold World.cell? at h3
    rcases Nat.lt_or_ge p.block w.heap.size with h4 | h4
    · exact h4
    · rw [Array.getElem?_eq_none h4] at h3; cases h3
  exact ⟨_, M, he, hb, Imm.Le.refl M, fun _ _ => rfl, fun p v h => ⟨(hb.cell (hlt p v h)).trans (hM p v h).1, (hM p v h).2⟩, rfl⟩

end Go.Proofs.YtfnfbdccmggfoaaGreatDoor
