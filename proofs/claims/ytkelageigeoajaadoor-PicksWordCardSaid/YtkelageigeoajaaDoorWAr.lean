/-
  The walk of the reference's Around.
-/
import Derived.Test.YtkelageigeoajaaDoorWRb
set_option linter.unusedSimpArgs false
set_option linter.unusedVariables false
namespace Go.Proofs.YtkelageigeoajaaDoor
open Go.Proofs.YtkelageigeoajaaDoor.Pg

def eCut (p : Int × Int) : V := .agg 2 (cl [eI p.1, eI p.2])
theorem around_hit {t : List Int} {i : Int} {k : Nat} (hk : k < (wrds t).length - 1) (hno : ∀ j, j < k → hitW t i j = false) (h : hitW t i k = true) : around t i = (((wrds t).getD k 0 : Int), ((wrds t).getD (k + 1) 0 : Int)) := by
  have := find_at (p := hitW t i) (d := 0) (l := List.range ((wrds t).length - 1)) (k := k) (by simpa using hk) (fun j hj => by rw [range_getD _ _ (by omega)]; exact hno j hj) (by rw [range_getD _ _ (by omega)]; exact h)
  rw [range_getD _ _ (by omega)] at this
  unfold around
  rw [this]
theorem around_miss {t : List Int} {i : Int} (hno : ∀ j, j < (wrds t).length - 1 → hitW t i j = false) : around t i = (0, 0) := by
  have : (List.range ((wrds t).length - 1)).find? (hitW t i) = none := by
    rw [List.find?_eq_none]
    intro k hk
    rw [List.mem_range] at hk
    rw [hno k hk]
    simp
  unfold around
  rw [this]

set_option maxHeartbeats 4000000 in
theorem aroundR_con (G : Nat → V) (t : List Int) (i : Int) (hl : t.length ≤ 40) : Con Tryd.prog G 5 [eRs t, eI i] (eCut (around t i)) := by
  have hcon := wordsR_con G t hl (wboundsR_con G t hl)
  have hbl := wrds_small t
  have hhit := fun k => @around_hit t i k
  have hmiss := @around_miss t i
  have hdef : ∀ k, hitW t i k = ((decide (((wrds t).getD k 0 : Int) ≤ i) && decide (i < (wrds t).getD (k + 1) 0)) || (decide (k + 1 = (wrds t).length - 1) && decide (i = (wrds t).getD (k + 1) 0))) := fun k => rfl
  generalize wrds t = w at hcon hbl hhit hmiss hdef
  generalize around t i = ar at hhit hmiss ⊢
  refine Con.of_body Tryd.func5 rfl (by kernel_rfl) (by rw [Tryd.ntmps5]; simp) ?_
  rw [Tryd.ntmps5, Tryd.results5]
  (repeat (first | apply aw_seq | apply aw_block | apply aw_skip | apply aw_blk)); refine aq_region ?_; generalize hK : KA _ _ _ = K; simp only [pqs.down, tabs.down, ↓reduceIte, Nat.reduceEqDiff, Nat.reduceLT, Nat.reduceLeDiff, Nat.reduceAdd, Nat.reduceSub, eI, eB, eR]; subst hK; unfold KA
  (repeat (first | apply aw_seq | apply aw_block | apply aw_skip | apply aw_blk)); refine aq_region ?_; generalize hK : KA _ _ _ = K; simp only [pqs.down, tabs.down, ↓reduceIte, Nat.reduceEqDiff, Nat.reduceLT, Nat.reduceLeDiff, Nat.reduceAdd, Nat.reduceSub, eI, eB, eR]
  refine call_imm hcon (by rfl) ?_
  simp only [pqs.down, tabs.down, ↓reduceIte, Nat.reduceEqDiff, Nat.reduceLT, Nat.reduceLeDiff, Nat.reduceAdd, Nat.reduceSub, eI, eB, eR]
  subst hK; unfold KA
  (repeat (first | apply aw_seq | apply aw_block | apply aw_skip | apply aw_blk)); refine aq_region ?_; generalize hK : KA _ _ _ = K; simp only [pqs.down, tabs.down, ↓reduceIte, Nat.reduceEqDiff, Nat.reduceLT, Nat.reduceLeDiff, Nat.reduceAdd, Nat.reduceSub, eI, eB, eR]; subst hK; unfold KA
  (repeat (first | apply aw_seq | apply aw_block | apply aw_skip | apply aw_blk))
  refine aw_loop (fun k : Nat => St.mk' 52 G [(1, eI i), (4, .ptr 0 0 0), (5, eCuts w), (6, eI k)] [.box 24 2 (cl [eI 0, eI 0])]) (fun k => k ≤ w.length - 1 ∧ ∀ j, j < k → hitW t i j = false) (fun k => w.length - k) 0 ⟨Nat.zero_le _, fun j hj => by omega⟩ ?_ ?_
  · refine Le.to [some 0] rfl rfl (by decide) (by simp only [pqs.down, tabs.down, ↓reduceIte, Nat.reduceEqDiff, Nat.reduceLT, Nat.reduceLeDiff, Nat.reduceAdd, Nat.reduceSub, eI, eB, eR, eCuts]; first | done | rfl | ((repeat' apply And.intro) <;> first | rfl | trivial | (simp; done) | (simp; omega))) ?_; (repeat first | exact os_nil | refine os_box (by simp only [pqs.down, tabs.down, ↓reduceIte, Nat.reduceEqDiff, Nat.reduceLT, Nat.reduceLeDiff, Nat.reduceAdd, Nat.reduceSub, eI, eB, eR, eCuts]; first | done | rfl) (by first | (exact fun _ _ => rfl) | (intro j hj; (rcases j with _ | _ | _ | _ | _ | _ | _ | _ | _ | _ | _ | j) <;> first | (simp only [pqs.down, tabs.down, ↓reduceIte, Nat.reduceEqDiff, Nat.reduceLT, Nat.reduceLeDiff, Nat.reduceAdd, Nat.reduceSub, eI, eB, eR, eCuts]; first | done | rfl) | omega)) (by rfl) ?_ | refine os_boxR (by simp only [pqs.down, tabs.down, ↓reduceIte, Nat.reduceEqDiff, Nat.reduceLT, Nat.reduceLeDiff, Nat.reduceAdd, Nat.reduceSub, eI, eB, eR, eCuts]; first | done | rfl) (by intro j hj; (rcases j with _ | _ | _ | _ | _ | _ | _ | _ | _ | _ | _ | j) <;> first | (simp only [pqs.down, tabs.down, ↓reduceIte, Nat.reduceEqDiff, Nat.reduceLT, Nat.reduceLeDiff, Nat.reduceAdd, Nat.reduceSub, eI, eB, eR, eCuts]; first | done | rfl) | omega) ?_ | refine os_none ?_ | refine os_vec' (by simp only [pqs.down, tabs.down, ↓reduceIte, Nat.reduceEqDiff, Nat.reduceLT, Nat.reduceLeDiff, Nat.reduceAdd, Nat.reduceSub, eI, eB, eR, eCuts]; first | done | rfl) ?_ (fun _ _ _ _ => rfl) | refine os_vec' (by simp only [pqs.down, tabs.down, ↓reduceIte, Nat.reduceEqDiff, Nat.reduceLT, Nat.reduceLeDiff, Nat.reduceAdd, Nat.reduceSub, eI, eB, eR, eCuts]; first | done | rfl) ?_ ?_)
  · intro k ⟨hk, hno⟩
    (repeat (first | apply aw_seq | apply aw_block | apply aw_skip | apply aw_blk)); refine aq_region ?_; generalize hK : KA _ _ _ = K; simp only [pqs.down, tabs.down, ↓reduceIte, Nat.reduceEqDiff, Nat.reduceLT, Nat.reduceLeDiff, Nat.reduceAdd, Nat.reduceSub, eI, eB, eR, eCuts]; subst hK; unfold KA
    (repeat (first | apply aw_seq | apply aw_block | apply aw_skip | apply aw_blk)); refine aw_cond (t := decide ((k : Int) < ((w.length - 1 : Nat) : Int))) (by simp only [pqs.down, tabs.down, ↓reduceIte, Nat.reduceEqDiff, Nat.reduceLT, Nat.reduceLeDiff, Nat.reduceAdd, Nat.reduceSub, eI, eB, eR]) (fun hc => ?_) (fun hc => ?_)
    · have hlt : k < w.length - 1 := by have := of_decide_eq_true hc; omega
      have hw : IntKind.i64.wrap ((k : Int) + 1) = ((k + 1 : Nat) : Int) := by rw [wrap64_id (by omega) (by omega)]; omega
      have hw1 : IntKind.i64.wrap (((w.length - 1 : Nat) : Int) - 1) = ((w.length - 2 : Nat) : Int) := by rw [wrap64_id (by omega) (by omega)]; omega
      have hC : decide (k + 1 = w.length - 1) = ((k : Int) == ((w.length - 2 : Nat) : Int)) := by rw [Bool.eq_iff_iff, decide_eq_true_eq, beq_iff_eq]; omega
      have hD : decide (i = ((w.getD (k + 1) 0 : Nat) : Int)) = (i == ((w.getD (k + 1) 0 : Nat) : Int)) := by rw [Bool.eq_iff_iff, decide_eq_true_eq, beq_iff_eq]
      have hd := hdef k
      rw [hC, hD] at hd
      (repeat (first | apply aw_seq | apply aw_block | apply aw_skip | apply aw_blk))
      refine aw_piece (fun st' => Le st' (St.mk' 52 G [(1, eI i), (4, .ptr 0 0 0), (5, eCuts w), (6, eI k), (46, eB (hitW t i k))] [.box 24 2 (cl [eI 0, eI 0])])) (fun Q hQ => ?_) (fun st' hle => aw_le hle ?_)
      · rw [hd] at hQ
        cases hA : decide (((w.getD k 0 : Nat) : Int) ≤ i) <;> cases hB : decide (i < ((w.getD (k + 1) 0 : Nat) : Int)) <;> cases hC' : ((k : Int) == ((w.length - 2 : Nat) : Int)) <;> cases hD' : (i == ((w.getD (k + 1) 0 : Nat) : Int))
        all_goals
          rw [hA, hB, hC', hD'] at hQ
          (repeat (first | apply aw_seq | apply aw_block | apply aw_skip | apply aw_blk)); refine aq_region ?_; generalize hK : KA _ _ _ = K; simp only [pqs.down, tabs.down, ↓reduceIte, Nat.reduceEqDiff, Nat.reduceLT, Nat.reduceLeDiff, Nat.reduceAdd, Nat.reduceSub, eI, eB, eR, eCuts, hw1, hA, hB, hC', hD']; subst hK; unfold KA
          (repeat refine ⟨by first | omega | rfl, ?_⟩)
          refine aw_nil (hQ _ ?_)
          refine Le.to [some 0] rfl rfl (by decide) (by simp only [pqs.down, tabs.down, ↓reduceIte, Nat.reduceEqDiff, Nat.reduceLT, Nat.reduceLeDiff, Nat.reduceAdd, Nat.reduceSub, eI, eB, eR, eCuts]; first | done | rfl | ((repeat' apply And.intro) <;> first | rfl | trivial | (simp; done) | (simp; omega))) ?_; (repeat first | exact os_nil | refine os_box (by simp only [pqs.down, tabs.down, ↓reduceIte, Nat.reduceEqDiff, Nat.reduceLT, Nat.reduceLeDiff, Nat.reduceAdd, Nat.reduceSub, eI, eB, eR, eCuts]; first | done | rfl) (by first | (exact fun _ _ => rfl) | (intro j hj; (rcases j with _ | _ | _ | _ | _ | _ | _ | _ | _ | _ | _ | j) <;> first | (simp only [pqs.down, tabs.down, ↓reduceIte, Nat.reduceEqDiff, Nat.reduceLT, Nat.reduceLeDiff, Nat.reduceAdd, Nat.reduceSub, eI, eB, eR, eCuts]; first | done | rfl) | omega)) (by rfl) ?_ | refine os_boxR (by simp only [pqs.down, tabs.down, ↓reduceIte, Nat.reduceEqDiff, Nat.reduceLT, Nat.reduceLeDiff, Nat.reduceAdd, Nat.reduceSub, eI, eB, eR, eCuts]; first | done | rfl) (by intro j hj; (rcases j with _ | _ | _ | _ | _ | _ | _ | _ | _ | _ | _ | j) <;> first | (simp only [pqs.down, tabs.down, ↓reduceIte, Nat.reduceEqDiff, Nat.reduceLT, Nat.reduceLeDiff, Nat.reduceAdd, Nat.reduceSub, eI, eB, eR, eCuts]; first | done | rfl) | omega) ?_ | refine os_none ?_ | refine os_vec' (by simp only [pqs.down, tabs.down, ↓reduceIte, Nat.reduceEqDiff, Nat.reduceLT, Nat.reduceLeDiff, Nat.reduceAdd, Nat.reduceSub, eI, eB, eR, eCuts]; first | done | rfl) ?_ (fun _ _ _ _ => rfl) | refine os_vec' (by simp only [pqs.down, tabs.down, ↓reduceIte, Nat.reduceEqDiff, Nat.reduceLT, Nat.reduceLeDiff, Nat.reduceAdd, Nat.reduceSub, eI, eB, eR, eCuts]; first | done | rfl) ?_ ?_)
      · (repeat (first | apply aw_seq | apply aw_block | apply aw_skip | apply aw_blk)); refine aw_cond (t := hitW t i k) (by simp only [pqs.down, tabs.down, ↓reduceIte, Nat.reduceEqDiff, Nat.reduceLT, Nat.reduceLeDiff, Nat.reduceAdd, Nat.reduceSub, eI, eB, eR]) (fun h1 => ?_) (fun h1 => ?_)
        · rw [hhit k hlt hno h1]
          (repeat (first | apply aw_seq | apply aw_block | apply aw_skip | apply aw_blk)); refine aq_region ?_; generalize hK : KA _ _ _ = K; simp only [pqs.down, tabs.down, ↓reduceIte, Nat.reduceEqDiff, Nat.reduceLT, Nat.reduceLeDiff, Nat.reduceAdd, Nat.reduceSub, eI, eB, eR, eCuts]; subst hK; unfold KA
          (repeat refine ⟨by first | omega | rfl, ?_⟩)
          refine aw_le (st' := St.mk' 52 G [(4, .ptr 0 0 0)] [.box 24 2 (cl [eI ((w.getD k 0 : Nat) : Int), eI ((w.getD (k + 1) 0 : Nat) : Int)])]) ?_ ?_
          · refine Le.to [some 0] rfl rfl (by decide) (by simp only [pqs.down, tabs.down, ↓reduceIte, Nat.reduceEqDiff, Nat.reduceLT, Nat.reduceLeDiff, Nat.reduceAdd, Nat.reduceSub, eI, eB, eR, eCuts]; first | done | rfl | ((repeat' apply And.intro) <;> first | rfl | trivial | (simp; done) | (simp; omega))) ?_; (repeat first | exact os_nil | refine os_box (by simp only [pqs.down, tabs.down, ↓reduceIte, Nat.reduceEqDiff, Nat.reduceLT, Nat.reduceLeDiff, Nat.reduceAdd, Nat.reduceSub, eI, eB, eR, eCuts]; first | done | rfl) (by first | (exact fun _ _ => rfl) | (intro j hj; (rcases j with _ | _ | _ | _ | _ | _ | _ | _ | _ | _ | _ | j) <;> first | (simp only [pqs.down, tabs.down, ↓reduceIte, Nat.reduceEqDiff, Nat.reduceLT, Nat.reduceLeDiff, Nat.reduceAdd, Nat.reduceSub, eI, eB, eR, eCuts]; first | done | rfl) | omega)) (by rfl) ?_ | refine os_boxR (by simp only [pqs.down, tabs.down, ↓reduceIte, Nat.reduceEqDiff, Nat.reduceLT, Nat.reduceLeDiff, Nat.reduceAdd, Nat.reduceSub, eI, eB, eR, eCuts]; first | done | rfl) (by intro j hj; (rcases j with _ | _ | _ | _ | _ | _ | _ | _ | _ | _ | _ | j) <;> first | (simp only [pqs.down, tabs.down, ↓reduceIte, Nat.reduceEqDiff, Nat.reduceLT, Nat.reduceLeDiff, Nat.reduceAdd, Nat.reduceSub, eI, eB, eR, eCuts]; first | done | rfl) | omega) ?_ | refine os_none ?_ | refine os_vec' (by simp only [pqs.down, tabs.down, ↓reduceIte, Nat.reduceEqDiff, Nat.reduceLT, Nat.reduceLeDiff, Nat.reduceAdd, Nat.reduceSub, eI, eB, eR, eCuts]; first | done | rfl) ?_ (fun _ _ _ _ => rfl) | refine os_vec' (by simp only [pqs.down, tabs.down, ↓reduceIte, Nat.reduceEqDiff, Nat.reduceLT, Nat.reduceLeDiff, Nat.reduceAdd, Nat.reduceSub, eI, eB, eR, eCuts]; first | done | rfl) ?_ ?_)
          refine aw_ret ?_; (repeat refine out_ret ?_)
          exact ret_cell (by kernel_rfl) rfl rfl (fun _ _ => rfl) (fun j hj => by rcases j with _ | _ | j <;> first | rfl | omega)
        · (repeat (first | apply aw_seq | apply aw_block | apply aw_skip | apply aw_blk)); refine aq_region ?_; generalize hK : KA _ _ _ = K; simp only [pqs.down, tabs.down, ↓reduceIte, Nat.reduceEqDiff, Nat.reduceLT, Nat.reduceLeDiff, Nat.reduceAdd, Nat.reduceSub, eI, eB, eR, hw]; subst hK; unfold KA
          (repeat (first | apply aw_seq | apply aw_block | apply aw_skip | apply aw_blk)); refine out_nil ?_
          refine ⟨k + 1, ⟨by omega, fun j hj => ?_⟩, by omega, ?_⟩
          · rcases Nat.lt_succ_iff_lt_or_eq.mp hj with h | h
            · exact hno j h
            · rw [h]; exact h1
          · refine Le.to [some 0] rfl rfl (by decide) (by simp only [pqs.down, tabs.down, ↓reduceIte, Nat.reduceEqDiff, Nat.reduceLT, Nat.reduceLeDiff, Nat.reduceAdd, Nat.reduceSub, eI, eB, eR, eCuts]; first | done | rfl | ((repeat' apply And.intro) <;> first | rfl | trivial | (simp; done) | (simp; omega))) ?_; (repeat first | exact os_nil | refine os_box (by simp only [pqs.down, tabs.down, ↓reduceIte, Nat.reduceEqDiff, Nat.reduceLT, Nat.reduceLeDiff, Nat.reduceAdd, Nat.reduceSub, eI, eB, eR, eCuts]; first | done | rfl) (by first | (exact fun _ _ => rfl) | (intro j hj; (rcases j with _ | _ | _ | _ | _ | _ | _ | _ | _ | _ | _ | j) <;> first | (simp only [pqs.down, tabs.down, ↓reduceIte, Nat.reduceEqDiff, Nat.reduceLT, Nat.reduceLeDiff, Nat.reduceAdd, Nat.reduceSub, eI, eB, eR, eCuts]; first | done | rfl) | omega)) (by rfl) ?_ | refine os_boxR (by simp only [pqs.down, tabs.down, ↓reduceIte, Nat.reduceEqDiff, Nat.reduceLT, Nat.reduceLeDiff, Nat.reduceAdd, Nat.reduceSub, eI, eB, eR, eCuts]; first | done | rfl) (by intro j hj; (rcases j with _ | _ | _ | _ | _ | _ | _ | _ | _ | _ | _ | j) <;> first | (simp only [pqs.down, tabs.down, ↓reduceIte, Nat.reduceEqDiff, Nat.reduceLT, Nat.reduceLeDiff, Nat.reduceAdd, Nat.reduceSub, eI, eB, eR, eCuts]; first | done | rfl) | omega) ?_ | refine os_none ?_ | refine os_vec' (by simp only [pqs.down, tabs.down, ↓reduceIte, Nat.reduceEqDiff, Nat.reduceLT, Nat.reduceLeDiff, Nat.reduceAdd, Nat.reduceSub, eI, eB, eR, eCuts]; first | done | rfl) ?_ (fun _ _ _ _ => rfl) | refine os_vec' (by simp only [pqs.down, tabs.down, ↓reduceIte, Nat.reduceEqDiff, Nat.reduceLT, Nat.reduceLeDiff, Nat.reduceAdd, Nat.reduceSub, eI, eB, eR, eCuts]; first | done | rfl) ?_ ?_)
    · refine aw_exit_out (by rfl) ?_; (repeat refine out_exit_out (by rfl) ?_); try (refine out_exit (by rfl) ?_)
      have hkk : k = w.length - 1 := by have := of_decide_eq_false hc; omega
      subst hkk
      rw [hmiss hno]
      (repeat (first | apply aw_seq | apply aw_block | apply aw_skip | apply aw_blk)); refine aq_region ?_; generalize hK : KA _ _ _ = K; simp only [pqs.down, tabs.down, ↓reduceIte, Nat.reduceEqDiff, Nat.reduceLT, Nat.reduceLeDiff, Nat.reduceAdd, Nat.reduceSub, eI, eB, eR]; subst hK; unfold KA
      refine aw_le (st' := St.mk' 52 G [(4, .ptr 0 0 0)] [.box 24 2 (cl [eI 0, eI 0])]) ?_ ?_
      · refine Le.to [some 0] rfl rfl (by decide) (by simp only [pqs.down, tabs.down, ↓reduceIte, Nat.reduceEqDiff, Nat.reduceLT, Nat.reduceLeDiff, Nat.reduceAdd, Nat.reduceSub, eI, eB, eR]; first | done | rfl | ((repeat' apply And.intro) <;> first | rfl | trivial | (simp; done) | (simp; omega))) ?_; (repeat first | exact os_nil | refine os_box (by simp only [pqs.down, tabs.down, ↓reduceIte, Nat.reduceEqDiff, Nat.reduceLT, Nat.reduceLeDiff, Nat.reduceAdd, Nat.reduceSub, eI, eB, eR]; first | done | rfl) (by first | (exact fun _ _ => rfl) | (intro j hj; (rcases j with _ | _ | _ | _ | _ | _ | _ | _ | _ | _ | _ | j) <;> first | (simp only [pqs.down, tabs.down, ↓reduceIte, Nat.reduceEqDiff, Nat.reduceLT, Nat.reduceLeDiff, Nat.reduceAdd, Nat.reduceSub, eI, eB, eR]; first | done | rfl) | omega)) (by rfl) ?_ | refine os_boxR (by simp only [pqs.down, tabs.down, ↓reduceIte, Nat.reduceEqDiff, Nat.reduceLT, Nat.reduceLeDiff, Nat.reduceAdd, Nat.reduceSub, eI, eB, eR]; first | done | rfl) (by intro j hj; (rcases j with _ | _ | _ | _ | _ | _ | _ | _ | _ | _ | _ | j) <;> first | (simp only [pqs.down, tabs.down, ↓reduceIte, Nat.reduceEqDiff, Nat.reduceLT, Nat.reduceLeDiff, Nat.reduceAdd, Nat.reduceSub, eI, eB, eR]; first | done | rfl) | omega) ?_ | refine os_none ?_ | refine os_vec' (by simp only [pqs.down, tabs.down, ↓reduceIte, Nat.reduceEqDiff, Nat.reduceLT, Nat.reduceLeDiff, Nat.reduceAdd, Nat.reduceSub, eI, eB, eR]; first | done | rfl) ?_ (fun _ _ _ _ => rfl) | refine os_vec' (by simp only [pqs.down, tabs.down, ↓reduceIte, Nat.reduceEqDiff, Nat.reduceLT, Nat.reduceLeDiff, Nat.reduceAdd, Nat.reduceSub, eI, eB, eR]; first | done | rfl) ?_ ?_)
      refine aw_ret ?_; (repeat refine out_ret ?_)
      exact ret_cell (by kernel_rfl) rfl rfl (fun _ _ => rfl) (fun j hj => by rcases j with _ | _ | j <;> first | rfl | omega)

end Go.Proofs.YtkelageigeoajaaDoor
