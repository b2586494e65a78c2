/-
  The walks on clusters, the package's and the reference's: whether signs hang together.
-/
import Derived.Test.YtkelageigeoajaaDoorWFind
set_option linter.unusedSimpArgs false
set_option linter.unusedVariables false
namespace Go.Proofs.YtkelageigeoajaaDoor
open Go.Proofs.YtkelageigeoajaaDoor.Pg

def eRs (t : List Int) : V := .sl 1 t.length fun i => cl [eR (t.getD i 0)]
theorem classP_con (G : Nat → V) (hG : G 0 = gLasts) (r : Int) : Con Tryd.prog G 60 [eR r] (eI (propOf r).cl) := by
  refine Con.of_body Tryd.func60 rfl (by kernel_rfl) (by rw [Tryd.ntmps60]; simp) ?_
  rw [Tryd.ntmps60, Tryd.results60]
  repeat' (first | apply aw_seq | apply aw_block | apply aw_skip | apply aw_blk | (refine aw_exit (by rfl) ?_) | (refine aq_region ?_; generalize hK : KA _ _ _ = K; simp only [pqs.down, tabs.down, ↓reduceIte, Nat.reduceEqDiff, Nat.reduceLT, Nat.reduceLeDiff, Nat.reduceAdd, Nat.reduceSub, eI, eB, eR, cProp]) | (refine aq_drawA (by kernel_rfl) (by decide +kernel) ?_; generalize hK : KA _ _ _ = K; simp only [pqs.down, tabs.down, ↓reduceIte, Nat.reduceEqDiff, Nat.reduceLT, Nat.reduceLeDiff, Nat.reduceAdd, Nat.reduceSub, eI, eB, eR, cProp]) | (refine guardT (fun hg => ?_) (fun hg => ?_) <;> simp only [pqs.down, tabs.down, ↓reduceIte, Nat.reduceEqDiff, Nat.reduceLT, Nat.reduceLeDiff, Nat.reduceAdd, Nat.reduceSub, eI, eB, eR, hg, cProp]) | (refine guardF (fun hg => ?_) (fun hg => ?_) <;> simp only [pqs.down, tabs.down, ↓reduceIte, Nat.reduceEqDiff, Nat.reduceLT, Nat.reduceLeDiff, Nat.reduceAdd, Nat.reduceSub, eI, eB, eR, hg, cProp]) | (refine call_imm (ofP_con G hG r) (by rfl) ?_; simp only [pqs.down, tabs.down, ↓reduceIte, Nat.reduceEqDiff, Nat.reduceLT, Nat.reduceLeDiff, Nat.reduceAdd, Nat.reduceSub, eI, eB, eR, cProp]) | (with_reducible refine And.intro ?_ ?_; · first | omega | rfl) | (subst hK; refine of_KA ?_) | (refine aw_cond (by simp only [pqs.down, tabs.down, ↓reduceIte, Nat.reduceEqDiff, Nat.reduceLT, Nat.reduceLeDiff, Nat.reduceAdd, Nat.reduceSub, eI, eB, eR, cProp]; exact rfl) (fun hc => ?_) (fun hc => ?_) <;> (try (first | (cases hc; done) | (exact absurd hc (by decide))))) | (refine aw_ret ?_))
  simp only [pqs.down, tabs.down, ↓reduceIte, Nat.reduceEqDiff, Nat.reduceLT, Nat.reduceLeDiff, Nat.reduceAdd, Nat.reduceSub, eI, eB, eR]
  exact VLe.refl _
theorem classR_con (G : Nat → V) (r : Int) : Con Tryd.prog G 37 [eR r] (eI (propOf r).cl) := by
  refine Con.of_body Tryd.func37 rfl (by kernel_rfl) (by rw [Tryd.ntmps37]; simp) ?_
  rw [Tryd.ntmps37, Tryd.results37]
  repeat' (first | apply aw_seq | apply aw_block | apply aw_skip | apply aw_blk | (refine aw_exit (by rfl) ?_) | (refine aq_region ?_; generalize hK : KA _ _ _ = K; simp only [pqs.down, tabs.down, ↓reduceIte, Nat.reduceEqDiff, Nat.reduceLT, Nat.reduceLeDiff, Nat.reduceAdd, Nat.reduceSub, eI, eB, eR, cProp]) | (refine aq_drawA (by kernel_rfl) (by decide +kernel) ?_; generalize hK : KA _ _ _ = K; simp only [pqs.down, tabs.down, ↓reduceIte, Nat.reduceEqDiff, Nat.reduceLT, Nat.reduceLeDiff, Nat.reduceAdd, Nat.reduceSub, eI, eB, eR, cProp]) | (refine guardT (fun hg => ?_) (fun hg => ?_) <;> simp only [pqs.down, tabs.down, ↓reduceIte, Nat.reduceEqDiff, Nat.reduceLT, Nat.reduceLeDiff, Nat.reduceAdd, Nat.reduceSub, eI, eB, eR, hg, cProp]) | (refine guardF (fun hg => ?_) (fun hg => ?_) <;> simp only [pqs.down, tabs.down, ↓reduceIte, Nat.reduceEqDiff, Nat.reduceLT, Nat.reduceLeDiff, Nat.reduceAdd, Nat.reduceSub, eI, eB, eR, hg, cProp]) | (refine call_imm (ofR_con G r) (by rfl) ?_; simp only [pqs.down, tabs.down, ↓reduceIte, Nat.reduceEqDiff, Nat.reduceLT, Nat.reduceLeDiff, Nat.reduceAdd, Nat.reduceSub, eI, eB, eR, cProp]) | (with_reducible refine And.intro ?_ ?_; · first | omega | rfl) | (subst hK; refine of_KA ?_) | (refine aw_cond (by simp only [pqs.down, tabs.down, ↓reduceIte, Nat.reduceEqDiff, Nat.reduceLT, Nat.reduceLeDiff, Nat.reduceAdd, Nat.reduceSub, eI, eB, eR, cProp]; exact rfl) (fun hc => ?_) (fun hc => ?_) <;> (try (first | (cases hc; done) | (exact absurd hc (by decide))))) | (refine aw_ret ?_))
  simp only [pqs.down, tabs.down, ↓reduceIte, Nat.reduceEqDiff, Nat.reduceLT, Nat.reduceLeDiff, Nat.reduceAdd, Nat.reduceSub, eI, eB, eR]
  exact VLe.refl _
theorem pred_nat {i : Nat} (h : 1 ≤ i) (hi : i ≤ 100) : IntKind.i64.wrap ((i : Int) - 1) = ((i - 1 : Nat) : Int) := by
  rw [wrap64_id (by omega) (by omega)]; omega
theorem succ_nat {i : Nat} (hi : i ≤ 100) : IntKind.i64.wrap ((i : Int) + 1) = ((i + 1 : Nat) : Int) := by
  rw [wrap64_id (by omega) (by omega)]; omega
theorem tmod_nat (n : Nat) : (n : Int).tmod 2 = ((n % 2 : Nat) : Int) := by
  rw [Int.tmod_eq_emod_of_nonneg (by omega)]; omega
theorem beq_one (n : Nat) : (((n : Nat) : Int) == 1) = decide (n = 1) := by
  rw [Bool.eq_iff_iff, beq_iff_eq, decide_eq_true_eq]; omega

set_option maxHeartbeats 2000000 in
theorem oddP_con (G : Nat → V) (hG : G 0 = gLasts) (t : List Int) (i : Nat) (hi : i ≤ t.length) (hl : t.length ≤ 40) : Con Tryd.prog G 64 [eRs t, eI i] (eB (decide (regs t i % 2 = 1))) := by
  refine Con.of_body Tryd.func64 rfl (by kernel_rfl) (by rw [Tryd.ntmps64]; simp) ?_
  rw [Tryd.ntmps64, Tryd.results64]
  (repeat (first | apply aw_seq | apply aw_block | apply aw_skip | apply aw_blk)); refine aq_region ?_; generalize hK : KA _ _ _ = K; simp only [pqs.down, tabs.down, ↓reduceIte, Nat.reduceEqDiff, Nat.reduceLT, Nat.reduceLeDiff, Nat.reduceAdd, Nat.reduceSub, eI, eB, eR]; subst hK; unfold KA
  (repeat (first | apply aw_seq | apply aw_block | apply aw_skip | apply aw_blk)); refine aq_region ?_; generalize hK : KA _ _ _ = K; simp only [pqs.down, tabs.down, ↓reduceIte, Nat.reduceEqDiff, Nat.reduceLT, Nat.reduceLeDiff, Nat.reduceAdd, Nat.reduceSub, eI, eB, eR]; subst hK; unfold KA
  (repeat (first | apply aw_seq | apply aw_block | apply aw_skip | apply aw_blk))
  refine aw_loop (fun n : Nat => St.mk' 25 G [(0, eRs t), (1, eI i), (5, eI n)] []) (fun n => n ≤ i ∧ regs t i = n + regs t (i - n)) (fun n => i - n) 0 ⟨Nat.zero_le _, by simp⟩ ?_ ?_
  · refine Le.to [] rfl rfl (by decide) (by simp only [pqs.down, tabs.down, ↓reduceIte, Nat.reduceEqDiff, Nat.reduceLT, Nat.reduceLeDiff, Nat.reduceAdd, Nat.reduceSub, eI, eB, eR, eRs]; first | done | rfl | ((repeat' apply And.intro) <;> first | rfl | trivial | (simp; done) | (simp; omega))) ?_; (repeat first | exact os_nil | refine os_box (by simp only [pqs.down, tabs.down, ↓reduceIte, Nat.reduceEqDiff, Nat.reduceLT, Nat.reduceLeDiff, Nat.reduceAdd, Nat.reduceSub, eI, eB, eR, eRs]; first | done | rfl) (by first | (exact fun _ _ => rfl) | (intro j hj; (rcases j with _ | _ | _ | _ | _ | _ | _ | _ | _ | _ | _ | j) <;> first | (simp only [pqs.down, tabs.down, ↓reduceIte, Nat.reduceEqDiff, Nat.reduceLT, Nat.reduceLeDiff, Nat.reduceAdd, Nat.reduceSub, eI, eB, eR, eRs]; first | done | rfl) | omega)) (by rfl) ?_ | refine os_boxR (by simp only [pqs.down, tabs.down, ↓reduceIte, Nat.reduceEqDiff, Nat.reduceLT, Nat.reduceLeDiff, Nat.reduceAdd, Nat.reduceSub, eI, eB, eR, eRs]; first | done | rfl) (by intro j hj; (rcases j with _ | _ | _ | _ | _ | _ | _ | _ | _ | _ | _ | j) <;> first | (simp only [pqs.down, tabs.down, ↓reduceIte, Nat.reduceEqDiff, Nat.reduceLT, Nat.reduceLeDiff, Nat.reduceAdd, Nat.reduceSub, eI, eB, eR, eRs]; first | done | rfl) | omega) ?_ | refine os_none ?_ | refine os_vec' (by simp only [pqs.down, tabs.down, ↓reduceIte, Nat.reduceEqDiff, Nat.reduceLT, Nat.reduceLeDiff, Nat.reduceAdd, Nat.reduceSub, eI, eB, eR, eRs]; first | done | rfl) ?_ (fun _ _ _ _ => rfl) | refine os_vec' (by simp only [pqs.down, tabs.down, ↓reduceIte, Nat.reduceEqDiff, Nat.reduceLT, Nat.reduceLeDiff, Nat.reduceAdd, Nat.reduceSub, eI, eB, eR, eRs]; first | done | rfl) ?_ ?_)
  · intro n ⟨hn, hr⟩
    by_cases hlt : n < i
    · have d1 : decide ((n : Int) < i) = true := decide_eq_true (by omega)
      have e1 := pred_nat (i := i) (by omega) (by omega)
      have e2 : IntKind.i64.wrap (((i - 1 : Nat) : Int) - n) = ((i - 1 - n : Nat) : Int) := by rw [wrap64_id (by omega) (by omega)]; omega
      have e3 := succ_nat (i := n) (by omega)
      have hrr : regs t (i - n) = if cls t (i - 1 - n) == 6 then regs t (i - 1 - n) + 1 else 0 := by
        rw [show i - n = (i - 1 - n) + 1 by omega]; rfl
      have hc : (propOf (t.getD (i - 1 - n) 0)).cl = cls t (i - 1 - n) := rfl
      (repeat (first | apply aw_seq | apply aw_block | apply aw_skip | apply aw_blk)); refine aq_region ?_; generalize hK : KA _ _ _ = K; simp only [pqs.down, tabs.down, ↓reduceIte, Nat.reduceEqDiff, Nat.reduceLT, Nat.reduceLeDiff, Nat.reduceAdd, Nat.reduceSub, eI, eB, eR, eRs, d1, e1, e2]
      refine ⟨by omega, ?_⟩
      refine call_imm (classP_con G hG _) (by rfl) ?_
      simp only [pqs.down, tabs.down, ↓reduceIte, Nat.reduceEqDiff, Nat.reduceLT, Nat.reduceLeDiff, Nat.reduceAdd, Nat.reduceSub, eI, eB, eR, hc]
      subst hK; unfold KA
      (repeat (first | apply aw_seq | apply aw_block | apply aw_skip | apply aw_blk)); refine aw_cond (t := (cls t (i - 1 - n) == 6)) (by simp only [pqs.down, tabs.down, ↓reduceIte, Nat.reduceEqDiff, Nat.reduceLT, Nat.reduceLeDiff, Nat.reduceAdd, Nat.reduceSub, eI, eB, eR]) (fun hc2 => ?_) (fun hc2 => ?_)
      · (repeat (first | apply aw_seq | apply aw_block | apply aw_skip | apply aw_blk)); refine aq_region ?_; generalize hK : KA _ _ _ = K; simp only [pqs.down, tabs.down, ↓reduceIte, Nat.reduceEqDiff, Nat.reduceLT, Nat.reduceLeDiff, Nat.reduceAdd, Nat.reduceSub, eI, eB, eR, e3]; subst hK; unfold KA
        (repeat (first | apply aw_seq | apply aw_block | apply aw_skip | apply aw_blk)); refine out_nil ?_
        refine ⟨n + 1, ⟨by omega, ?_⟩, by omega, ?_⟩
        · rw [hr, hrr, if_pos hc2, show i - (n + 1) = i - 1 - n by omega]; omega
        · refine Le.to [] rfl rfl (by decide) (by simp only [pqs.down, tabs.down, ↓reduceIte, Nat.reduceEqDiff, Nat.reduceLT, Nat.reduceLeDiff, Nat.reduceAdd, Nat.reduceSub, eI, eB, eR, eRs]; first | done | rfl | ((repeat' apply And.intro) <;> first | rfl | trivial | (simp; done) | (simp; omega))) ?_; (repeat first | exact os_nil | refine os_box (by simp only [pqs.down, tabs.down, ↓reduceIte, Nat.reduceEqDiff, Nat.reduceLT, Nat.reduceLeDiff, Nat.reduceAdd, Nat.reduceSub, eI, eB, eR, eRs]; first | done | rfl) (by first | (exact fun _ _ => rfl) | (intro j hj; (rcases j with _ | _ | _ | _ | _ | _ | _ | _ | _ | _ | _ | j) <;> first | (simp only [pqs.down, tabs.down, ↓reduceIte, Nat.reduceEqDiff, Nat.reduceLT, Nat.reduceLeDiff, Nat.reduceAdd, Nat.reduceSub, eI, eB, eR, eRs]; first | done | rfl) | omega)) (by rfl) ?_ | refine os_boxR (by simp only [pqs.down, tabs.down, ↓reduceIte, Nat.reduceEqDiff, Nat.reduceLT, Nat.reduceLeDiff, Nat.reduceAdd, Nat.reduceSub, eI, eB, eR, eRs]; first | done | rfl) (by intro j hj; (rcases j with _ | _ | _ | _ | _ | _ | _ | _ | _ | _ | _ | j) <;> first | (simp only [pqs.down, tabs.down, ↓reduceIte, Nat.reduceEqDiff, Nat.reduceLT, Nat.reduceLeDiff, Nat.reduceAdd, Nat.reduceSub, eI, eB, eR, eRs]; first | done | rfl) | omega) ?_ | refine os_none ?_ | refine os_vec' (by simp only [pqs.down, tabs.down, ↓reduceIte, Nat.reduceEqDiff, Nat.reduceLT, Nat.reduceLeDiff, Nat.reduceAdd, Nat.reduceSub, eI, eB, eR, eRs]; first | done | rfl) ?_ (fun _ _ _ _ => rfl) | refine os_vec' (by simp only [pqs.down, tabs.down, ↓reduceIte, Nat.reduceEqDiff, Nat.reduceLT, Nat.reduceLeDiff, Nat.reduceAdd, Nat.reduceSub, eI, eB, eR, eRs]; first | done | rfl) ?_ ?_)
      · refine aw_exit_out (by rfl) ?_; (repeat refine out_exit_out (by rfl) ?_); try (refine out_exit (by rfl) ?_)
        rw [hrr, if_neg (by rw [hc2]; simp)] at hr
        have e4 := tmod_nat n
        have e5 := beq_one (n % 2)
        (repeat (first | apply aw_seq | apply aw_block | apply aw_skip | apply aw_blk)); refine aq_region ?_; generalize hK : KA _ _ _ = K; simp only [pqs.down, tabs.down, ↓reduceIte, Nat.reduceEqDiff, Nat.reduceLT, Nat.reduceLeDiff, Nat.reduceAdd, Nat.reduceSub, eI, eB, eR, e4, e5]; subst hK; unfold KA
        (repeat refine ⟨by first | omega | rfl, ?_⟩)
        refine aw_ret ?_; (repeat refine out_ret ?_)
        simp only [pqs.down, tabs.down, ↓reduceIte, Nat.reduceEqDiff, Nat.reduceLT, Nat.reduceLeDiff, Nat.reduceAdd, Nat.reduceSub, eI, eB, eR]
        rw [hr]
        exact VLe.refl _
    · have d1 : decide ((n : Int) < i) = false := decide_eq_false (by omega)
      have hni : i - n = 0 := by omega
      rw [hni] at hr
      (repeat (first | apply aw_seq | apply aw_block | apply aw_skip | apply aw_blk)); refine aq_region ?_; generalize hK : KA _ _ _ = K; simp only [pqs.down, tabs.down, ↓reduceIte, Nat.reduceEqDiff, Nat.reduceLT, Nat.reduceLeDiff, Nat.reduceAdd, Nat.reduceSub, eI, eB, eR, d1]; subst hK; unfold KA
      (repeat (first | apply aw_seq | apply aw_block | apply aw_skip | apply aw_blk)); refine aw_cond (t := false) (by simp only [pqs.down, tabs.down, ↓reduceIte, Nat.reduceEqDiff, Nat.reduceLT, Nat.reduceLeDiff, Nat.reduceAdd, Nat.reduceSub, eI, eB, eR]) (fun hc2 => by cases hc2) (fun hc2 => ?_)
      refine aw_exit_out (by rfl) ?_; (repeat refine out_exit_out (by rfl) ?_); try (refine out_exit (by rfl) ?_)
      have e4 := tmod_nat n
      have e5 := beq_one (n % 2)
      (repeat (first | apply aw_seq | apply aw_block | apply aw_skip | apply aw_blk)); refine aq_region ?_; generalize hK : KA _ _ _ = K; simp only [pqs.down, tabs.down, ↓reduceIte, Nat.reduceEqDiff, Nat.reduceLT, Nat.reduceLeDiff, Nat.reduceAdd, Nat.reduceSub, eI, eB, eR, e4, e5]; subst hK; unfold KA
      (repeat refine ⟨by first | omega | rfl, ?_⟩)
      refine aw_ret ?_; (repeat refine out_ret ?_)
      simp only [pqs.down, tabs.down, ↓reduceIte, Nat.reduceEqDiff, Nat.reduceLT, Nat.reduceLeDiff, Nat.reduceAdd, Nat.reduceSub, eI, eB, eR]
      rw [hr]
      exact VLe.refl _

set_option maxHeartbeats 2000000 in
theorem regsR_con (G : Nat → V) (t : List Int) (i : Nat) (hi : i ≤ t.length) (hl : t.length ≤ 40) : Con Tryd.prog G 41 [eRs t, eI i] (eI (regs t i)) := by
  refine Con.of_body Tryd.func41 rfl (by kernel_rfl) (by rw [Tryd.ntmps41]; simp) ?_
  rw [Tryd.ntmps41, Tryd.results41]
  (repeat (first | apply aw_seq | apply aw_block | apply aw_skip | apply aw_blk)); refine aq_region ?_; generalize hK : KA _ _ _ = K; simp only [pqs.down, tabs.down, ↓reduceIte, Nat.reduceEqDiff, Nat.reduceLT, Nat.reduceLeDiff, Nat.reduceAdd, Nat.reduceSub, eI, eB, eR]; subst hK; unfold KA
  (repeat (first | apply aw_seq | apply aw_block | apply aw_skip | apply aw_blk)); refine aq_region ?_; generalize hK : KA _ _ _ = K; simp only [pqs.down, tabs.down, ↓reduceIte, Nat.reduceEqDiff, Nat.reduceLT, Nat.reduceLeDiff, Nat.reduceAdd, Nat.reduceSub, eI, eB, eR]; subst hK; unfold KA
  (repeat (first | apply aw_seq | apply aw_block | apply aw_skip | apply aw_blk))
  refine aw_loop (fun n : Nat => St.mk' 24 G [(0, eRs t), (1, eI i), (5, eI n)] []) (fun n => n ≤ i ∧ regs t i = n + regs t (i - n)) (fun n => i - n) 0 ⟨Nat.zero_le _, by simp⟩ ?_ ?_
  · refine Le.to [] rfl rfl (by decide) (by simp only [pqs.down, tabs.down, ↓reduceIte, Nat.reduceEqDiff, Nat.reduceLT, Nat.reduceLeDiff, Nat.reduceAdd, Nat.reduceSub, eI, eB, eR, eRs]; first | done | rfl | ((repeat' apply And.intro) <;> first | rfl | trivial | (simp; done) | (simp; omega))) ?_; (repeat first | exact os_nil | refine os_box (by simp only [pqs.down, tabs.down, ↓reduceIte, Nat.reduceEqDiff, Nat.reduceLT, Nat.reduceLeDiff, Nat.reduceAdd, Nat.reduceSub, eI, eB, eR, eRs]; first | done | rfl) (by first | (exact fun _ _ => rfl) | (intro j hj; (rcases j with _ | _ | _ | _ | _ | _ | _ | _ | _ | _ | _ | j) <;> first | (simp only [pqs.down, tabs.down, ↓reduceIte, Nat.reduceEqDiff, Nat.reduceLT, Nat.reduceLeDiff, Nat.reduceAdd, Nat.reduceSub, eI, eB, eR, eRs]; first | done | rfl) | omega)) (by rfl) ?_ | refine os_boxR (by simp only [pqs.down, tabs.down, ↓reduceIte, Nat.reduceEqDiff, Nat.reduceLT, Nat.reduceLeDiff, Nat.reduceAdd, Nat.reduceSub, eI, eB, eR, eRs]; first | done | rfl) (by intro j hj; (rcases j with _ | _ | _ | _ | _ | _ | _ | _ | _ | _ | _ | j) <;> first | (simp only [pqs.down, tabs.down, ↓reduceIte, Nat.reduceEqDiff, Nat.reduceLT, Nat.reduceLeDiff, Nat.reduceAdd, Nat.reduceSub, eI, eB, eR, eRs]; first | done | rfl) | omega) ?_ | refine os_none ?_ | refine os_vec' (by simp only [pqs.down, tabs.down, ↓reduceIte, Nat.reduceEqDiff, Nat.reduceLT, Nat.reduceLeDiff, Nat.reduceAdd, Nat.reduceSub, eI, eB, eR, eRs]; first | done | rfl) ?_ (fun _ _ _ _ => rfl) | refine os_vec' (by simp only [pqs.down, tabs.down, ↓reduceIte, Nat.reduceEqDiff, Nat.reduceLT, Nat.reduceLeDiff, Nat.reduceAdd, Nat.reduceSub, eI, eB, eR, eRs]; first | done | rfl) ?_ ?_)
  · intro n ⟨hn, hr⟩
    have e0 : IntKind.i64.wrap ((i : Int) - n) = ((i - n : Nat) : Int) := by rw [wrap64_id (by omega) (by omega)]; omega
    by_cases hlt : n < i
    · have d1 : decide (((i - n : Nat) : Int) > 0) = true := decide_eq_true (by omega)
      have e2 : IntKind.i64.wrap (((i - n : Nat) : Int) - 1) = ((i - 1 - n : Nat) : Int) := by rw [wrap64_id (by omega) (by omega)]; omega
      have e3 := succ_nat (i := n) (by omega)
      have hrr : regs t (i - n) = if cls t (i - 1 - n) == 6 then regs t (i - 1 - n) + 1 else 0 := by
        rw [show i - n = (i - 1 - n) + 1 by omega]; rfl
      have hc : (propOf (t.getD (i - 1 - n) 0)).cl = cls t (i - 1 - n) := rfl
      (repeat (first | apply aw_seq | apply aw_block | apply aw_skip | apply aw_blk)); refine aq_region ?_; generalize hK : KA _ _ _ = K; simp only [pqs.down, tabs.down, ↓reduceIte, Nat.reduceEqDiff, Nat.reduceLT, Nat.reduceLeDiff, Nat.reduceAdd, Nat.reduceSub, eI, eB, eR, eRs, d1, e0, e2]
      refine ⟨by omega, ?_⟩
      refine call_imm (classR_con G _) (by rfl) ?_
      simp only [pqs.down, tabs.down, ↓reduceIte, Nat.reduceEqDiff, Nat.reduceLT, Nat.reduceLeDiff, Nat.reduceAdd, Nat.reduceSub, eI, eB, eR, hc]
      subst hK; unfold KA
      (repeat (first | apply aw_seq | apply aw_block | apply aw_skip | apply aw_blk)); refine aw_cond (t := (cls t (i - 1 - n) == 6)) (by simp only [pqs.down, tabs.down, ↓reduceIte, Nat.reduceEqDiff, Nat.reduceLT, Nat.reduceLeDiff, Nat.reduceAdd, Nat.reduceSub, eI, eB, eR]) (fun hc2 => ?_) (fun hc2 => ?_)
      · (repeat (first | apply aw_seq | apply aw_block | apply aw_skip | apply aw_blk)); refine aq_region ?_; generalize hK : KA _ _ _ = K; simp only [pqs.down, tabs.down, ↓reduceIte, Nat.reduceEqDiff, Nat.reduceLT, Nat.reduceLeDiff, Nat.reduceAdd, Nat.reduceSub, eI, eB, eR, e3]; subst hK; unfold KA
        (repeat (first | apply aw_seq | apply aw_block | apply aw_skip | apply aw_blk)); refine out_nil ?_
        refine ⟨n + 1, ⟨by omega, ?_⟩, by omega, ?_⟩
        · rw [hr, hrr, if_pos hc2, show i - (n + 1) = i - 1 - n by omega]; omega
        · refine Le.to [] rfl rfl (by decide) (by simp only [pqs.down, tabs.down, ↓reduceIte, Nat.reduceEqDiff, Nat.reduceLT, Nat.reduceLeDiff, Nat.reduceAdd, Nat.reduceSub, eI, eB, eR, eRs]; first | done | rfl | ((repeat' apply And.intro) <;> first | rfl | trivial | (simp; done) | (simp; omega))) ?_; (repeat first | exact os_nil | refine os_box (by simp only [pqs.down, tabs.down, ↓reduceIte, Nat.reduceEqDiff, Nat.reduceLT, Nat.reduceLeDiff, Nat.reduceAdd, Nat.reduceSub, eI, eB, eR, eRs]; first | done | rfl) (by first | (exact fun _ _ => rfl) | (intro j hj; (rcases j with _ | _ | _ | _ | _ | _ | _ | _ | _ | _ | _ | j) <;> first | (simp only [pqs.down, tabs.down, ↓reduceIte, Nat.reduceEqDiff, Nat.reduceLT, Nat.reduceLeDiff, Nat.reduceAdd, Nat.reduceSub, eI, eB, eR, eRs]; first | done | rfl) | omega)) (by rfl) ?_ | refine os_boxR (by simp only [pqs.down, tabs.down, ↓reduceIte, Nat.reduceEqDiff, Nat.reduceLT, Nat.reduceLeDiff, Nat.reduceAdd, Nat.reduceSub, eI, eB, eR, eRs]; first | done | rfl) (by intro j hj; (rcases j with _ | _ | _ | _ | _ | _ | _ | _ | _ | _ | _ | j) <;> first | (simp only [pqs.down, tabs.down, ↓reduceIte, Nat.reduceEqDiff, Nat.reduceLT, Nat.reduceLeDiff, Nat.reduceAdd, Nat.reduceSub, eI, eB, eR, eRs]; first | done | rfl) | omega) ?_ | refine os_none ?_ | refine os_vec' (by simp only [pqs.down, tabs.down, ↓reduceIte, Nat.reduceEqDiff, Nat.reduceLT, Nat.reduceLeDiff, Nat.reduceAdd, Nat.reduceSub, eI, eB, eR, eRs]; first | done | rfl) ?_ (fun _ _ _ _ => rfl) | refine os_vec' (by simp only [pqs.down, tabs.down, ↓reduceIte, Nat.reduceEqDiff, Nat.reduceLT, Nat.reduceLeDiff, Nat.reduceAdd, Nat.reduceSub, eI, eB, eR, eRs]; first | done | rfl) ?_ ?_)
      · refine aw_exit_out (by rfl) ?_; (repeat refine out_exit_out (by rfl) ?_); try (refine out_exit (by rfl) ?_)
        rw [hrr, if_neg (by rw [hc2]; simp)] at hr
        (repeat (first | apply aw_seq | apply aw_block | apply aw_skip | apply aw_blk)); refine aq_region ?_; generalize hK : KA _ _ _ = K; simp only [pqs.down, tabs.down, ↓reduceIte, Nat.reduceEqDiff, Nat.reduceLT, Nat.reduceLeDiff, Nat.reduceAdd, Nat.reduceSub, eI, eB, eR]; subst hK; unfold KA
        refine aw_ret ?_; (repeat refine out_ret ?_)
        simp only [pqs.down, tabs.down, ↓reduceIte, Nat.reduceEqDiff, Nat.reduceLT, Nat.reduceLeDiff, Nat.reduceAdd, Nat.reduceSub, eI, eB, eR]
        rw [hr]
        exact VLe.refl _
    · have d1 : decide (((i - n : Nat) : Int) > 0) = false := decide_eq_false (by omega)
      have hni : i - n = 0 := by omega
      rw [hni] at hr
      (repeat (first | apply aw_seq | apply aw_block | apply aw_skip | apply aw_blk)); refine aq_region ?_; generalize hK : KA _ _ _ = K; simp only [pqs.down, tabs.down, ↓reduceIte, Nat.reduceEqDiff, Nat.reduceLT, Nat.reduceLeDiff, Nat.reduceAdd, Nat.reduceSub, eI, eB, eR, e0, d1]; subst hK; unfold KA
      (repeat (first | apply aw_seq | apply aw_block | apply aw_skip | apply aw_blk)); refine aw_cond (t := false) (by simp only [pqs.down, tabs.down, ↓reduceIte, Nat.reduceEqDiff, Nat.reduceLT, Nat.reduceLeDiff, Nat.reduceAdd, Nat.reduceSub, eI, eB, eR]) (fun hc2 => by cases hc2) (fun hc2 => ?_)
      refine aw_exit_out (by rfl) ?_; (repeat refine out_exit_out (by rfl) ?_); try (refine out_exit (by rfl) ?_)
      (repeat (first | apply aw_seq | apply aw_block | apply aw_skip | apply aw_blk)); refine aq_region ?_; generalize hK : KA _ _ _ = K; simp only [pqs.down, tabs.down, ↓reduceIte, Nat.reduceEqDiff, Nat.reduceLT, Nat.reduceLeDiff, Nat.reduceAdd, Nat.reduceSub, eI, eB, eR]; subst hK; unfold KA
      refine aw_ret ?_; (repeat refine out_ret ?_)
      simp only [pqs.down, tabs.down, ↓reduceIte, Nat.reduceEqDiff, Nat.reduceLT, Nat.reduceLeDiff, Nat.reduceAdd, Nat.reduceSub, eI, eB, eR]
      rw [hr]
      exact VLe.refl _

theorem pic_succ (t : List Int) (m : Nat) : pic t (m + 1) = if cls t m == 4 then pic t m else cls t m == 14 := rfl

set_option maxHeartbeats 2000000 in
theorem picR_con (G : Nat → V) (t : List Int) (i : Nat) (hi : i ≤ t.length) (hl : t.length ≤ 40) : Con Tryd.prog G 40 [eRs t, eI i] (eB (pic t i)) := by
  refine Con.of_body Tryd.func40 rfl (by kernel_rfl) (by rw [Tryd.ntmps40]; simp) ?_
  rw [Tryd.ntmps40, Tryd.results40]
  have e1 : IntKind.i64.wrap ((i : Int) - 1) = (i : Int) - 1 := wrap64_id (by omega) (by omega)
  (repeat (first | apply aw_seq | apply aw_block | apply aw_skip | apply aw_blk)); refine aq_region ?_; generalize hK : KA _ _ _ = K; simp only [pqs.down, tabs.down, ↓reduceIte, Nat.reduceEqDiff, Nat.reduceLT, Nat.reduceLeDiff, Nat.reduceAdd, Nat.reduceSub, eI, eB, eR]; subst hK; unfold KA
  (repeat (first | apply aw_seq | apply aw_block | apply aw_skip | apply aw_blk)); refine aq_region ?_; generalize hK : KA _ _ _ = K; simp only [pqs.down, tabs.down, ↓reduceIte, Nat.reduceEqDiff, Nat.reduceLT, Nat.reduceLeDiff, Nat.reduceAdd, Nat.reduceSub, eI, eB, eR, e1]; subst hK; unfold KA
  (repeat (first | apply aw_seq | apply aw_block | apply aw_skip | apply aw_blk))
  refine aw_loop (fun m : Nat => St.mk' 29 G [(0, eRs t), (1, eI ((m : Int) - 1))] []) (fun m => m ≤ i ∧ pic t i = pic t m) (fun m => m) i ⟨Nat.le_refl _, rfl⟩ ?_ ?_
  · refine Le.to [] rfl rfl (by decide) (by simp only [pqs.down, tabs.down, ↓reduceIte, Nat.reduceEqDiff, Nat.reduceLT, Nat.reduceLeDiff, Nat.reduceAdd, Nat.reduceSub, eI, eB, eR, eRs]; first | done | rfl | ((repeat' apply And.intro) <;> first | rfl | trivial | (simp; done) | (simp; omega))) ?_; (repeat first | exact os_nil | refine os_box (by simp only [pqs.down, tabs.down, ↓reduceIte, Nat.reduceEqDiff, Nat.reduceLT, Nat.reduceLeDiff, Nat.reduceAdd, Nat.reduceSub, eI, eB, eR, eRs]; first | done | rfl) (by first | (exact fun _ _ => rfl) | (intro j hj; (rcases j with _ | _ | _ | _ | _ | _ | _ | _ | _ | _ | _ | j) <;> first | (simp only [pqs.down, tabs.down, ↓reduceIte, Nat.reduceEqDiff, Nat.reduceLT, Nat.reduceLeDiff, Nat.reduceAdd, Nat.reduceSub, eI, eB, eR, eRs]; first | done | rfl) | omega)) (by rfl) ?_ | refine os_boxR (by simp only [pqs.down, tabs.down, ↓reduceIte, Nat.reduceEqDiff, Nat.reduceLT, Nat.reduceLeDiff, Nat.reduceAdd, Nat.reduceSub, eI, eB, eR, eRs]; first | done | rfl) (by intro j hj; (rcases j with _ | _ | _ | _ | _ | _ | _ | _ | _ | _ | _ | j) <;> first | (simp only [pqs.down, tabs.down, ↓reduceIte, Nat.reduceEqDiff, Nat.reduceLT, Nat.reduceLeDiff, Nat.reduceAdd, Nat.reduceSub, eI, eB, eR, eRs]; first | done | rfl) | omega) ?_ | refine os_none ?_ | refine os_vec' (by simp only [pqs.down, tabs.down, ↓reduceIte, Nat.reduceEqDiff, Nat.reduceLT, Nat.reduceLeDiff, Nat.reduceAdd, Nat.reduceSub, eI, eB, eR, eRs]; first | done | rfl) ?_ (fun _ _ _ _ => rfl) | refine os_vec' (by simp only [pqs.down, tabs.down, ↓reduceIte, Nat.reduceEqDiff, Nat.reduceLT, Nat.reduceLeDiff, Nat.reduceAdd, Nat.reduceSub, eI, eB, eR, eRs]; first | done | rfl) ?_ ?_)
  · intro m ⟨hm, hp⟩
    rw [hp]
    cases m with
    | zero =>
      have d1 : decide (((0 : Nat) : Int) - 1 ≥ 0) = false := by decide
      (repeat (first | apply aw_seq | apply aw_block | apply aw_skip | apply aw_blk)); refine aq_region ?_; generalize hK : KA _ _ _ = K; simp only [pqs.down, tabs.down, ↓reduceIte, Nat.reduceEqDiff, Nat.reduceLT, Nat.reduceLeDiff, Nat.reduceAdd, Nat.reduceSub, eI, eB, eR, d1]; subst hK; unfold KA
      (repeat (first | apply aw_seq | apply aw_block | apply aw_skip | apply aw_blk)); refine aw_cond (t := false) (by simp only [pqs.down, tabs.down, ↓reduceIte, Nat.reduceEqDiff, Nat.reduceLT, Nat.reduceLeDiff, Nat.reduceAdd, Nat.reduceSub, eI, eB, eR]) (fun hc2 => by cases hc2) (fun hc2 => ?_)
      refine aw_exit_out (by rfl) ?_; (repeat refine out_exit_out (by rfl) ?_); try (refine out_exit (by rfl) ?_)
      (repeat (first | apply aw_seq | apply aw_block | apply aw_skip | apply aw_blk)); refine aq_region ?_; generalize hK : KA _ _ _ = K; simp only [pqs.down, tabs.down, ↓reduceIte, Nat.reduceEqDiff, Nat.reduceLT, Nat.reduceLeDiff, Nat.reduceAdd, Nat.reduceSub, eI, eB, eR, d1]; subst hK; unfold KA
      refine aw_ret ?_; (repeat refine out_ret ?_)
      simp only [pqs.down, tabs.down, ↓reduceIte, Nat.reduceEqDiff, Nat.reduceLT, Nat.reduceLeDiff, Nat.reduceAdd, Nat.reduceSub, eI, eB, eR]
      exact VLe.refl _
    | succ m =>
      have e2 : (((m + 1 : Nat) : Int)) - 1 = (m : Int) := by omega
      have d1 : decide ((m : Int) ≥ 0) = true := decide_eq_true (by omega)
      have e3 : IntKind.i64.wrap ((m : Int) - 1) = (m : Int) - 1 := wrap64_id (by omega) (by omega)
      have hc : (propOf (t.getD m 0)).cl = cls t m := rfl
      rw [e2]
      (repeat (first | apply aw_seq | apply aw_block | apply aw_skip | apply aw_blk)); refine aq_region ?_; generalize hK : KA _ _ _ = K; simp only [pqs.down, tabs.down, ↓reduceIte, Nat.reduceEqDiff, Nat.reduceLT, Nat.reduceLeDiff, Nat.reduceAdd, Nat.reduceSub, eI, eB, eR, eRs, d1]
      refine ⟨by omega, ?_⟩
      refine call_imm (classR_con G _) (by rfl) ?_
      simp only [pqs.down, tabs.down, ↓reduceIte, Nat.reduceEqDiff, Nat.reduceLT, Nat.reduceLeDiff, Nat.reduceAdd, Nat.reduceSub, eI, eB, eR, hc]
      subst hK; unfold KA
      rw [pic_succ]
      (repeat (first | apply aw_seq | apply aw_block | apply aw_skip | apply aw_blk)); refine aw_cond (t := (cls t m == 4)) (by simp only [pqs.down, tabs.down, ↓reduceIte, Nat.reduceEqDiff, Nat.reduceLT, Nat.reduceLeDiff, Nat.reduceAdd, Nat.reduceSub, eI, eB, eR]) (fun hc2 => ?_) (fun hc2 => ?_)
      · (repeat (first | apply aw_seq | apply aw_block | apply aw_skip | apply aw_blk)); refine aq_region ?_; generalize hK : KA _ _ _ = K; simp only [pqs.down, tabs.down, ↓reduceIte, Nat.reduceEqDiff, Nat.reduceLT, Nat.reduceLeDiff, Nat.reduceAdd, Nat.reduceSub, eI, eB, eR, e3]; subst hK; unfold KA
        (repeat (first | apply aw_seq | apply aw_block | apply aw_skip | apply aw_blk)); refine out_nil ?_
        refine ⟨m, ⟨by omega, ?_⟩, by omega, ?_⟩
        · rw [if_pos hc2]
        · refine Le.to [] rfl rfl (by decide) (by simp only [pqs.down, tabs.down, ↓reduceIte, Nat.reduceEqDiff, Nat.reduceLT, Nat.reduceLeDiff, Nat.reduceAdd, Nat.reduceSub, eI, eB, eR, eRs]; first | done | rfl | ((repeat' apply And.intro) <;> first | rfl | trivial | (simp; done) | (simp; omega))) ?_; (repeat first | exact os_nil | refine os_box (by simp only [pqs.down, tabs.down, ↓reduceIte, Nat.reduceEqDiff, Nat.reduceLT, Nat.reduceLeDiff, Nat.reduceAdd, Nat.reduceSub, eI, eB, eR, eRs]; first | done | rfl) (by first | (exact fun _ _ => rfl) | (intro j hj; (rcases j with _ | _ | _ | _ | _ | _ | _ | _ | _ | _ | _ | j) <;> first | (simp only [pqs.down, tabs.down, ↓reduceIte, Nat.reduceEqDiff, Nat.reduceLT, Nat.reduceLeDiff, Nat.reduceAdd, Nat.reduceSub, eI, eB, eR, eRs]; first | done | rfl) | omega)) (by rfl) ?_ | refine os_boxR (by simp only [pqs.down, tabs.down, ↓reduceIte, Nat.reduceEqDiff, Nat.reduceLT, Nat.reduceLeDiff, Nat.reduceAdd, Nat.reduceSub, eI, eB, eR, eRs]; first | done | rfl) (by intro j hj; (rcases j with _ | _ | _ | _ | _ | _ | _ | _ | _ | _ | _ | j) <;> first | (simp only [pqs.down, tabs.down, ↓reduceIte, Nat.reduceEqDiff, Nat.reduceLT, Nat.reduceLeDiff, Nat.reduceAdd, Nat.reduceSub, eI, eB, eR, eRs]; first | done | rfl) | omega) ?_ | refine os_none ?_ | refine os_vec' (by simp only [pqs.down, tabs.down, ↓reduceIte, Nat.reduceEqDiff, Nat.reduceLT, Nat.reduceLeDiff, Nat.reduceAdd, Nat.reduceSub, eI, eB, eR, eRs]; first | done | rfl) ?_ (fun _ _ _ _ => rfl) | refine os_vec' (by simp only [pqs.down, tabs.down, ↓reduceIte, Nat.reduceEqDiff, Nat.reduceLT, Nat.reduceLeDiff, Nat.reduceAdd, Nat.reduceSub, eI, eB, eR, eRs]; first | done | rfl) ?_ ?_)
      · rw [if_neg (by rw [hc2]; simp)]
        refine aw_exit_out (by rfl) ?_; (repeat refine out_exit_out (by rfl) ?_); try (refine out_exit (by rfl) ?_)
        (repeat (first | apply aw_seq | apply aw_block | apply aw_skip | apply aw_blk)); refine aq_region ?_; generalize hK : KA _ _ _ = K; simp only [pqs.down, tabs.down, ↓reduceIte, Nat.reduceEqDiff, Nat.reduceLT, Nat.reduceLeDiff, Nat.reduceAdd, Nat.reduceSub, eI, eB, eR, eRs, d1]
        refine ⟨by omega, ?_⟩
        refine call_imm (classR_con G _) (by rfl) ?_
        simp only [pqs.down, tabs.down, ↓reduceIte, Nat.reduceEqDiff, Nat.reduceLT, Nat.reduceLeDiff, Nat.reduceAdd, Nat.reduceSub, eI, eB, eR, hc]
        subst hK; unfold KA
        refine aw_ret ?_; (repeat refine out_ret ?_)
        simp only [pqs.down, tabs.down, ↓reduceIte, Nat.reduceEqDiff, Nat.reduceLT, Nat.reduceLeDiff, Nat.reduceAdd, Nat.reduceSub, eI, eB, eR]
        exact VLe.refl _

end Go.Proofs.YtkelageigeoajaaDoor
