/-
  The walk of the binary search.
-/
import Derived.Test.YtkelageigeoajaaDoorWBn
set_option linter.unusedSimpArgs false
set_option linter.unusedVariables false
namespace Go.Proofs.YtkelageigeoajaaDoor
open Go.Proofs.YtkelageigeoajaaDoor.Pg

theorem nanC_con (G : Nat → V) (a : Int) : Con Tryd.prog G 23 [eI a] (eB false) := by
  refine Con.of_body Tryd.func23 rfl (by kernel_rfl) (by rw [Tryd.ntmps23]; simp) ?_
  rw [Tryd.ntmps23, Tryd.results23]
  repeat' (first | apply aw_seq | apply aw_block | apply aw_skip | apply aw_blk | (refine aw_exit (by rfl) ?_) | (refine aq_region ?_; generalize hK : KA _ _ _ = K; simp only [pqs.down, tabs.down, ↓reduceIte, Nat.reduceEqDiff, Nat.reduceLT, Nat.reduceLeDiff, Nat.reduceAdd, Nat.reduceSub, eI, eB, eR]) | (refine aq_drawA (by kernel_rfl) (by decide +kernel) ?_; generalize hK : KA _ _ _ = K; simp only [pqs.down, tabs.down, ↓reduceIte, Nat.reduceEqDiff, Nat.reduceLT, Nat.reduceLeDiff, Nat.reduceAdd, Nat.reduceSub, eI, eB, eR]) | (refine guardT (fun hg => ?_) (fun hg => ?_) <;> simp only [pqs.down, tabs.down, ↓reduceIte, Nat.reduceEqDiff, Nat.reduceLT, Nat.reduceLeDiff, Nat.reduceAdd, Nat.reduceSub, eI, eB, eR, hg]) | (refine guardF (fun hg => ?_) (fun hg => ?_) <;> simp only [pqs.down, tabs.down, ↓reduceIte, Nat.reduceEqDiff, Nat.reduceLT, Nat.reduceLeDiff, Nat.reduceAdd, Nat.reduceSub, eI, eB, eR, hg]) | (with_reducible refine And.intro ?_ ?_; · first | omega | rfl) | (subst hK; refine of_KA ?_) | (refine aw_cond (by simp only [pqs.down, tabs.down, ↓reduceIte, Nat.reduceEqDiff, Nat.reduceLT, Nat.reduceLeDiff, Nat.reduceAdd, Nat.reduceSub, eI, eB, eR]; exact rfl) (fun hc => ?_) (fun hc => ?_) <;> (try (first | (cases hc; done) | (exact absurd hc (by decide))))) | (refine aw_ret ?_))
  all_goals
    simp only [pqs.down, tabs.down, ↓reduceIte, Nat.reduceEqDiff, Nat.reduceLT, Nat.reduceLeDiff, Nat.reduceAdd, Nat.reduceSub, eI, eB, eR]
    refine vle_bool ?_
    simp
theorem nanS_con (G : Nat → V) (a : Int) : Con Tryd.prog G 14 [eI a] (eB false) := by
  refine Con.of_body Tryd.func14 rfl (by kernel_rfl) (by rw [Tryd.ntmps14]; simp) ?_
  rw [Tryd.ntmps14, Tryd.results14]
  repeat' (first | apply aw_seq | apply aw_block | apply aw_skip | apply aw_blk | (refine aw_exit (by rfl) ?_) | (refine aq_region ?_; generalize hK : KA _ _ _ = K; simp only [pqs.down, tabs.down, ↓reduceIte, Nat.reduceEqDiff, Nat.reduceLT, Nat.reduceLeDiff, Nat.reduceAdd, Nat.reduceSub, eI, eB, eR]) | (refine aq_drawA (by kernel_rfl) (by decide +kernel) ?_; generalize hK : KA _ _ _ = K; simp only [pqs.down, tabs.down, ↓reduceIte, Nat.reduceEqDiff, Nat.reduceLT, Nat.reduceLeDiff, Nat.reduceAdd, Nat.reduceSub, eI, eB, eR]) | (refine guardT (fun hg => ?_) (fun hg => ?_) <;> simp only [pqs.down, tabs.down, ↓reduceIte, Nat.reduceEqDiff, Nat.reduceLT, Nat.reduceLeDiff, Nat.reduceAdd, Nat.reduceSub, eI, eB, eR, hg]) | (refine guardF (fun hg => ?_) (fun hg => ?_) <;> simp only [pqs.down, tabs.down, ↓reduceIte, Nat.reduceEqDiff, Nat.reduceLT, Nat.reduceLeDiff, Nat.reduceAdd, Nat.reduceSub, eI, eB, eR, hg]) | (with_reducible refine And.intro ?_ ?_; · first | omega | rfl) | (subst hK; refine of_KA ?_) | (refine aw_cond (by simp only [pqs.down, tabs.down, ↓reduceIte, Nat.reduceEqDiff, Nat.reduceLT, Nat.reduceLeDiff, Nat.reduceAdd, Nat.reduceSub, eI, eB, eR]; exact rfl) (fun hc => ?_) (fun hc => ?_) <;> (try (first | (cases hc; done) | (exact absurd hc (by decide))))) | (refine aw_ret ?_))
  all_goals
    simp only [pqs.down, tabs.down, ↓reduceIte, Nat.reduceEqDiff, Nat.reduceLT, Nat.reduceLeDiff, Nat.reduceAdd, Nat.reduceSub, eI, eB, eR]
    refine vle_bool ?_
    simp
theorem less_con (G : Nat → V) (a b : Int) : Con Tryd.prog G 13 [eI a, eI b] (eB (decide (a < b))) := by
  refine Con.of_body Tryd.func13 rfl (by kernel_rfl) (by rw [Tryd.ntmps13]; simp) ?_
  rw [Tryd.ntmps13, Tryd.results13]
  repeat' (first | apply aw_seq | apply aw_block | apply aw_skip | apply aw_blk | (refine aw_exit (by rfl) ?_) | (refine aq_region ?_; generalize hK : KA _ _ _ = K; simp only [pqs.down, tabs.down, ↓reduceIte, Nat.reduceEqDiff, Nat.reduceLT, Nat.reduceLeDiff, Nat.reduceAdd, Nat.reduceSub, eI, eB, eR]) | (refine aq_drawA (by kernel_rfl) (by decide +kernel) ?_; generalize hK : KA _ _ _ = K; simp only [pqs.down, tabs.down, ↓reduceIte, Nat.reduceEqDiff, Nat.reduceLT, Nat.reduceLeDiff, Nat.reduceAdd, Nat.reduceSub, eI, eB, eR]) | (refine guardT (fun hg => ?_) (fun hg => ?_) <;> simp only [pqs.down, tabs.down, ↓reduceIte, Nat.reduceEqDiff, Nat.reduceLT, Nat.reduceLeDiff, Nat.reduceAdd, Nat.reduceSub, eI, eB, eR, hg]) | (refine guardF (fun hg => ?_) (fun hg => ?_) <;> simp only [pqs.down, tabs.down, ↓reduceIte, Nat.reduceEqDiff, Nat.reduceLT, Nat.reduceLeDiff, Nat.reduceAdd, Nat.reduceSub, eI, eB, eR, hg]) | (refine call_imm (nanC_con G a) (by rfl) ?_; simp only [pqs.down, tabs.down, ↓reduceIte, Nat.reduceEqDiff, Nat.reduceLT, Nat.reduceLeDiff, Nat.reduceAdd, Nat.reduceSub, eI, eB, eR]) | (refine call_imm (nanC_con G b) (by rfl) ?_; simp only [pqs.down, tabs.down, ↓reduceIte, Nat.reduceEqDiff, Nat.reduceLT, Nat.reduceLeDiff, Nat.reduceAdd, Nat.reduceSub, eI, eB, eR]) | (with_reducible refine And.intro ?_ ?_; · first | omega | rfl) | (subst hK; refine of_KA ?_) | (refine aw_cond (by simp only [pqs.down, tabs.down, ↓reduceIte, Nat.reduceEqDiff, Nat.reduceLT, Nat.reduceLeDiff, Nat.reduceAdd, Nat.reduceSub, eI, eB, eR]; exact rfl) (fun hc => ?_) (fun hc => ?_) <;> (try (first | (cases hc; done) | (exact absurd hc (by decide))))) | (refine aw_ret ?_))
  all_goals
    simp only [pqs.down, tabs.down, ↓reduceIte, Nat.reduceEqDiff, Nat.reduceLT, Nat.reduceLeDiff, Nat.reduceAdd, Nat.reduceSub, eI, eB, eR]
    refine vle_bool ?_
    simp_all

theorem shr_half {a b : Nat} (h : a + b ≤ 1000) : (((a + b : Nat) : Int)).fdiv (2 ^ min (1 : Int).toNat IntKind.u64.bits) = (((a + b) / 2 : Nat) : Int) := by
  have e : (2 : Int) ^ min (1 : Int).toNat IntKind.u64.bits = 2 := by rfl
  rw [e, Int.fdiv_eq_ediv_of_nonneg _ (by omega)]
  omega

def cvK (k : IntKind) (v : V) (K : V → Prop) : Prop := match v with
  | .raw (.int _ n) => K (.raw (.int k (k.wrap n)))
  | _ => False
theorem cvK_int (k k' : IntKind) (n : Int) (K : V → Prop) : cvK k (.raw (.int k' n)) K = K (.raw (.int k (k.wrap n))) := rfl
theorem cv_u (st : St) (x : Operand) (K : V → Prop) : vcQ Tryd.prog st (.convert 3 42 x) K = cvK .u64 (ev st x) K := by
  show (match (Tryd.prog.underlying 3).isSome, intKindOf Tryd.prog 42, ev st x with | true, some k, .raw (.int _ n) => K (.raw (.int k (k.wrap n))) | _, _, _ => False) = _
  rw [us3, ik42]
  unfold cvK
  cases ev st x with
  | raw v => cases v <;> rfl
  | _ => rfl
theorem cv_s (st : St) (x : Operand) (K : V → Prop) : vcQ Tryd.prog st (.convert 42 3 x) K = cvK .i64 (ev st x) K := by
  show (match (Tryd.prog.underlying 42).isSome, intKindOf Tryd.prog 3, ev st x with | true, some k, .raw (.int _ n) => K (.raw (.int k (k.wrap n))) | _, _, _ => False) = _
  rw [us42, ik3]
  unfold cvK
  cases ev st x with
  | raw v => cases v <;> rfl
  | _ => rfl

set_option maxHeartbeats 2000000 in
theorem bs_con (G : Nat → V) (w : List Nat) (tg : Int) (p : Nat) (hn : w.length ≤ 100) (hp : p ≤ w.length) (h1 : ∀ j, j < p → ((w.getD j 0 : Nat) : Int) < tg) (h2 : ∀ j, p ≤ j → j < w.length → ¬ ((w.getD j 0 : Nat) : Int) < tg) : Con Tryd.prog G 9 [eNs w, eI tg] (.tup 2 (cl [eI p, eB (decide (p < w.length) && ((w.getD p 0 : Nat) : Int) == tg)])) := by
  refine Con.of_body Tryd.func9 rfl (by kernel_rfl) (by rw [Tryd.ntmps9]; simp) ?_
  rw [Tryd.ntmps9, Tryd.results9]
  (repeat (first | apply aw_seq | apply aw_block | apply aw_skip | apply aw_blk)); refine aq_region ?_; generalize hK : KA _ _ _ = K; simp only [pqs.down, tabs.down, ↓reduceIte, Nat.reduceEqDiff, Nat.reduceLT, Nat.reduceLeDiff, Nat.reduceAdd, Nat.reduceSub, eI, eB, eR]; subst hK; unfold KA
  (repeat (first | apply aw_seq | apply aw_block | apply aw_skip | apply aw_blk)); refine aq_region ?_; generalize hK : KA _ _ _ = K; simp only [pqs.down, tabs.down, ↓reduceIte, Nat.reduceEqDiff, Nat.reduceLT, Nat.reduceLeDiff, Nat.reduceAdd, Nat.reduceSub, eI, eB, eR, eNs]; subst hK; unfold KA
  (repeat (first | apply aw_seq | apply aw_block | apply aw_skip | apply aw_blk)); refine aq_region ?_; generalize hK : KA _ _ _ = K; simp only [pqs.down, tabs.down, ↓reduceIte, Nat.reduceEqDiff, Nat.reduceLT, Nat.reduceLeDiff, Nat.reduceAdd, Nat.reduceSub, eI, eB, eR]; subst hK; unfold KA
  (repeat (first | apply aw_seq | apply aw_block | apply aw_skip | apply aw_blk))
  refine aw_loop (fun q : Nat × Nat => St.mk' 54 G [(0, eNs w), (1, eI tg), (6, eI w.length), (7, eI q.1), (8, eI q.2)] []) (fun q => q.1 ≤ p ∧ p ≤ q.2 ∧ q.2 ≤ w.length) (fun q => q.2 - q.1) (0, w.length) ⟨Nat.zero_le _, hp, Nat.le_refl _⟩ ?_ ?_
  · refine Le.to [] rfl rfl (by decide) (by simp only [pqs.down, tabs.down, ↓reduceIte, Nat.reduceEqDiff, Nat.reduceLT, Nat.reduceLeDiff, Nat.reduceAdd, Nat.reduceSub, eI, eB, eR, eNs]; first | done | rfl | ((repeat' apply And.intro) <;> first | rfl | trivial | (simp; done) | (simp; omega))) ?_; (repeat first | exact os_nil | refine os_box (by simp only [pqs.down, tabs.down, ↓reduceIte, Nat.reduceEqDiff, Nat.reduceLT, Nat.reduceLeDiff, Nat.reduceAdd, Nat.reduceSub, eI, eB, eR, eNs]; first | done | rfl) (by first | (exact fun _ _ => rfl) | (intro j hj; (rcases j with _ | _ | _ | _ | _ | _ | _ | _ | _ | _ | _ | j) <;> first | (simp only [pqs.down, tabs.down, ↓reduceIte, Nat.reduceEqDiff, Nat.reduceLT, Nat.reduceLeDiff, Nat.reduceAdd, Nat.reduceSub, eI, eB, eR, eNs]; first | done | rfl) | omega)) (by rfl) ?_ | refine os_boxR (by simp only [pqs.down, tabs.down, ↓reduceIte, Nat.reduceEqDiff, Nat.reduceLT, Nat.reduceLeDiff, Nat.reduceAdd, Nat.reduceSub, eI, eB, eR, eNs]; first | done | rfl) (by intro j hj; (rcases j with _ | _ | _ | _ | _ | _ | _ | _ | _ | _ | _ | j) <;> first | (simp only [pqs.down, tabs.down, ↓reduceIte, Nat.reduceEqDiff, Nat.reduceLT, Nat.reduceLeDiff, Nat.reduceAdd, Nat.reduceSub, eI, eB, eR, eNs]; first | done | rfl) | omega) ?_ | refine os_none ?_ | refine os_vec' (by simp only [pqs.down, tabs.down, ↓reduceIte, Nat.reduceEqDiff, Nat.reduceLT, Nat.reduceLeDiff, Nat.reduceAdd, Nat.reduceSub, eI, eB, eR, eNs]; first | done | rfl) ?_ (fun _ _ _ _ => rfl) | refine os_vec' (by simp only [pqs.down, tabs.down, ↓reduceIte, Nat.reduceEqDiff, Nat.reduceLT, Nat.reduceLeDiff, Nat.reduceAdd, Nat.reduceSub, eI, eB, eR, eNs]; first | done | rfl) ?_ ?_)
  · intro ⟨lo, hi⟩ ⟨k1, k2, k3⟩
    simp only at k1 k2 k3 ⊢
    (repeat (first | apply aw_seq | apply aw_block | apply aw_skip | apply aw_blk)); refine aq_region ?_; generalize hK : KA _ _ _ = K; simp only [pqs.down, tabs.down, ↓reduceIte, Nat.reduceEqDiff, Nat.reduceLT, Nat.reduceLeDiff, Nat.reduceAdd, Nat.reduceSub, eI, eB, eR]; subst hK; unfold KA
    (repeat (first | apply aw_seq | apply aw_block | apply aw_skip | apply aw_blk)); refine aw_cond (t := decide ((lo : Int) < hi)) (by simp only [pqs.down, tabs.down, ↓reduceIte, Nat.reduceEqDiff, Nat.reduceLT, Nat.reduceLeDiff, Nat.reduceAdd, Nat.reduceSub, eI, eB, eR]) (fun hc => ?_) (fun hc => ?_)
    · have hlt : lo < hi := by have := of_decide_eq_true hc; omega
      have w1 : IntKind.i64.wrap ((lo : Int) + hi) = ((lo + hi : Nat) : Int) := by rw [wrap64_id (by omega) (by omega)]; omega
      have w2 : IntKind.u64.wrap ((lo + hi : Nat) : Int) = ((lo + hi : Nat) : Int) := by
        show ((lo + hi : Nat) : Int) % (2 ^ 64) = _
        omega
      have w3 := shr_half (a := lo) (b := hi) (by omega)
      have w4 : IntKind.i64.wrap (((lo + hi) / 2 : Nat) : Int) = (((lo + hi) / 2 : Nat) : Int) := wrap64_id (by omega) (by omega)
      have hm1 : lo ≤ (lo + hi) / 2 := by omega
      have hm2 : (lo + hi) / 2 < hi := by omega
      generalize (lo + hi) / 2 = m at w3 w4 hm1 hm2
      have w5 := succ_nat (i := m) (by omega)
      (repeat (first | apply aw_seq | apply aw_block | apply aw_skip | apply aw_blk)); refine aq_region ?_; generalize hK : KA _ _ _ = K; simp only [pqs.down, tabs.down, ↓reduceIte, Nat.reduceEqDiff, Nat.reduceLT, Nat.reduceLeDiff, Nat.reduceAdd, Nat.reduceSub, eI, eB, eR, cv_u, cv_s, cvK_int, w1, w2, w3, w4]
      refine ⟨by omega, ?_⟩
      subst hK; unfold KA
      (repeat (first | apply aw_seq | apply aw_block | apply aw_skip | apply aw_blk)); refine aq_region ?_; generalize hK : KA _ _ _ = K; simp only [pqs.down, tabs.down, ↓reduceIte, Nat.reduceEqDiff, Nat.reduceLT, Nat.reduceLeDiff, Nat.reduceAdd, Nat.reduceSub, eI, eB, eR, eNs]
      refine ⟨by omega, ?_⟩
      refine call_imm (less_con G _ _) (by rfl) ?_
      simp only [pqs.down, tabs.down, ↓reduceIte, Nat.reduceEqDiff, Nat.reduceLT, Nat.reduceLeDiff, Nat.reduceAdd, Nat.reduceSub, eI, eB, eR]
      subst hK; unfold KA
      (repeat (first | apply aw_seq | apply aw_block | apply aw_skip | apply aw_blk)); refine aw_cond (t := decide (((w.getD m 0 : Nat) : Int) < tg)) (by simp only [pqs.down, tabs.down, ↓reduceIte, Nat.reduceEqDiff, Nat.reduceLT, Nat.reduceLeDiff, Nat.reduceAdd, Nat.reduceSub, eI, eB, eR]) (fun hd => ?_) (fun hd => ?_)
      · (repeat (first | apply aw_seq | apply aw_block | apply aw_skip | apply aw_blk)); refine aq_region ?_; generalize hK : KA _ _ _ = K; simp only [pqs.down, tabs.down, ↓reduceIte, Nat.reduceEqDiff, Nat.reduceLT, Nat.reduceLeDiff, Nat.reduceAdd, Nat.reduceSub, eI, eB, eR, w5]; subst hK; unfold KA
        (repeat (first | apply aw_seq | apply aw_block | apply aw_skip | apply aw_blk)); refine out_nil ?_
        have hd' := of_decide_eq_true hd
        have : m + 1 ≤ p := by
          rcases Nat.lt_or_ge m p with h | h
          · exact h
          · exact absurd hd' (h2 m h (by omega))
        refine ⟨(m + 1, hi), ⟨this, k2, k3⟩, by simp only; omega, ?_⟩
        simp only
        refine Le.to [] rfl rfl (by decide) (by simp only [pqs.down, tabs.down, ↓reduceIte, Nat.reduceEqDiff, Nat.reduceLT, Nat.reduceLeDiff, Nat.reduceAdd, Nat.reduceSub, eI, eB, eR, eNs]; first | done | rfl | ((repeat' apply And.intro) <;> first | rfl | trivial | (simp; done) | (simp; omega))) ?_; (repeat first | exact os_nil | refine os_box (by simp only [pqs.down, tabs.down, ↓reduceIte, Nat.reduceEqDiff, Nat.reduceLT, Nat.reduceLeDiff, Nat.reduceAdd, Nat.reduceSub, eI, eB, eR, eNs]; first | done | rfl) (by first | (exact fun _ _ => rfl) | (intro j hj; (rcases j with _ | _ | _ | _ | _ | _ | _ | _ | _ | _ | _ | j) <;> first | (simp only [pqs.down, tabs.down, ↓reduceIte, Nat.reduceEqDiff, Nat.reduceLT, Nat.reduceLeDiff, Nat.reduceAdd, Nat.reduceSub, eI, eB, eR, eNs]; first | done | rfl) | omega)) (by rfl) ?_ | refine os_boxR (by simp only [pqs.down, tabs.down, ↓reduceIte, Nat.reduceEqDiff, Nat.reduceLT, Nat.reduceLeDiff, Nat.reduceAdd, Nat.reduceSub, eI, eB, eR, eNs]; first | done | rfl) (by intro j hj; (rcases j with _ | _ | _ | _ | _ | _ | _ | _ | _ | _ | _ | j) <;> first | (simp only [pqs.down, tabs.down, ↓reduceIte, Nat.reduceEqDiff, Nat.reduceLT, Nat.reduceLeDiff, Nat.reduceAdd, Nat.reduceSub, eI, eB, eR, eNs]; first | done | rfl) | omega) ?_ | refine os_none ?_ | refine os_vec' (by simp only [pqs.down, tabs.down, ↓reduceIte, Nat.reduceEqDiff, Nat.reduceLT, Nat.reduceLeDiff, Nat.reduceAdd, Nat.reduceSub, eI, eB, eR, eNs]; first | done | rfl) ?_ (fun _ _ _ _ => rfl) | refine os_vec' (by simp only [pqs.down, tabs.down, ↓reduceIte, Nat.reduceEqDiff, Nat.reduceLT, Nat.reduceLeDiff, Nat.reduceAdd, Nat.reduceSub, eI, eB, eR, eNs]; first | done | rfl) ?_ ?_)
      · (repeat (first | apply aw_seq | apply aw_block | apply aw_skip | apply aw_blk)); refine aq_region ?_; generalize hK : KA _ _ _ = K; simp only [pqs.down, tabs.down, ↓reduceIte, Nat.reduceEqDiff, Nat.reduceLT, Nat.reduceLeDiff, Nat.reduceAdd, Nat.reduceSub, eI, eB, eR]; subst hK; unfold KA
        (repeat (first | apply aw_seq | apply aw_block | apply aw_skip | apply aw_blk)); refine out_nil ?_
        have hd' := of_decide_eq_false hd
        have : p ≤ m := by
          rcases Nat.lt_or_ge m p with h | h
          · exact absurd (h1 m h) hd'
          · exact h
        refine ⟨(lo, m), ⟨k1, this, by simp only; omega⟩, by simp only; omega, ?_⟩
        simp only
        refine Le.to [] rfl rfl (by decide) (by simp only [pqs.down, tabs.down, ↓reduceIte, Nat.reduceEqDiff, Nat.reduceLT, Nat.reduceLeDiff, Nat.reduceAdd, Nat.reduceSub, eI, eB, eR, eNs]; first | done | rfl | ((repeat' apply And.intro) <;> first | rfl | trivial | (simp; done) | (simp; omega))) ?_; (repeat first | exact os_nil | refine os_box (by simp only [pqs.down, tabs.down, ↓reduceIte, Nat.reduceEqDiff, Nat.reduceLT, Nat.reduceLeDiff, Nat.reduceAdd, Nat.reduceSub, eI, eB, eR, eNs]; first | done | rfl) (by first | (exact fun _ _ => rfl) | (intro j hj; (rcases j with _ | _ | _ | _ | _ | _ | _ | _ | _ | _ | _ | j) <;> first | (simp only [pqs.down, tabs.down, ↓reduceIte, Nat.reduceEqDiff, Nat.reduceLT, Nat.reduceLeDiff, Nat.reduceAdd, Nat.reduceSub, eI, eB, eR, eNs]; first | done | rfl) | omega)) (by rfl) ?_ | refine os_boxR (by simp only [pqs.down, tabs.down, ↓reduceIte, Nat.reduceEqDiff, Nat.reduceLT, Nat.reduceLeDiff, Nat.reduceAdd, Nat.reduceSub, eI, eB, eR, eNs]; first | done | rfl) (by intro j hj; (rcases j with _ | _ | _ | _ | _ | _ | _ | _ | _ | _ | _ | j) <;> first | (simp only [pqs.down, tabs.down, ↓reduceIte, Nat.reduceEqDiff, Nat.reduceLT, Nat.reduceLeDiff, Nat.reduceAdd, Nat.reduceSub, eI, eB, eR, eNs]; first | done | rfl) | omega) ?_ | refine os_none ?_ | refine os_vec' (by simp only [pqs.down, tabs.down, ↓reduceIte, Nat.reduceEqDiff, Nat.reduceLT, Nat.reduceLeDiff, Nat.reduceAdd, Nat.reduceSub, eI, eB, eR, eNs]; first | done | rfl) ?_ (fun _ _ _ _ => rfl) | refine os_vec' (by simp only [pqs.down, tabs.down, ↓reduceIte, Nat.reduceEqDiff, Nat.reduceLT, Nat.reduceLeDiff, Nat.reduceAdd, Nat.reduceSub, eI, eB, eR, eNs]; first | done | rfl) ?_ ?_)
    · refine aw_exit_out (by rfl) ?_; (repeat refine out_exit_out (by rfl) ?_); try (refine out_exit (by rfl) ?_)
      have hkk : lo = p := by have := of_decide_eq_false hc; omega
      subst hkk
      have dl : decide ((lo : Int) < (w.length : Int)) = decide (lo < w.length) := by
        rw [Bool.eq_iff_iff, decide_eq_true_eq, decide_eq_true_eq]; omega
      by_cases hx : lo < w.length
      · have dx : decide ((lo : Int) < (w.length : Int)) = true := decide_eq_true (by omega)
        rw [show decide (lo < w.length) = true from decide_eq_true hx]
        repeat' (first | apply aw_seq | apply aw_block | apply aw_skip | apply aw_blk | (refine aw_exit (by rfl) ?_) | (refine aq_region ?_; generalize hK : KA _ _ _ = K; simp only [pqs.down, tabs.down, ↓reduceIte, Nat.reduceEqDiff, Nat.reduceLT, Nat.reduceLeDiff, Nat.reduceAdd, Nat.reduceSub, eI, eB, eR, eNs, dx]) | (refine aq_drawA (by kernel_rfl) (by decide +kernel) ?_; generalize hK : KA _ _ _ = K; simp only [pqs.down, tabs.down, ↓reduceIte, Nat.reduceEqDiff, Nat.reduceLT, Nat.reduceLeDiff, Nat.reduceAdd, Nat.reduceSub, eI, eB, eR, eNs, dx]) | (refine guardT (fun hg => ?_) (fun hg => ?_) <;> simp only [pqs.down, tabs.down, ↓reduceIte, Nat.reduceEqDiff, Nat.reduceLT, Nat.reduceLeDiff, Nat.reduceAdd, Nat.reduceSub, eI, eB, eR, hg, eNs, dx]) | (refine guardF (fun hg => ?_) (fun hg => ?_) <;> simp only [pqs.down, tabs.down, ↓reduceIte, Nat.reduceEqDiff, Nat.reduceLT, Nat.reduceLeDiff, Nat.reduceAdd, Nat.reduceSub, eI, eB, eR, hg, eNs, dx]) | (refine call_imm (nanS_con G _) (by rfl) ?_; simp only [pqs.down, tabs.down, ↓reduceIte, Nat.reduceEqDiff, Nat.reduceLT, Nat.reduceLeDiff, Nat.reduceAdd, Nat.reduceSub, eI, eB, eR, eNs, dx]) | (refine call_imm (nanS_con G tg) (by rfl) ?_; simp only [pqs.down, tabs.down, ↓reduceIte, Nat.reduceEqDiff, Nat.reduceLT, Nat.reduceLeDiff, Nat.reduceAdd, Nat.reduceSub, eI, eB, eR, eNs, dx]) | (with_reducible refine And.intro ?_ ?_; · first | omega | rfl) | (subst hK; refine of_KA ?_) | (refine aw_cond (by simp only [pqs.down, tabs.down, ↓reduceIte, Nat.reduceEqDiff, Nat.reduceLT, Nat.reduceLeDiff, Nat.reduceAdd, Nat.reduceSub, eI, eB, eR, eNs, dx]; exact rfl) (fun hc => ?_) (fun hc => ?_) <;> (try (first | (cases hc; done) | (exact absurd hc (by decide))))) | (refine aw_ret ?_))
        all_goals
          simp only [pqs.down, tabs.down, ↓reduceIte, Nat.reduceEqDiff, Nat.reduceLT, Nat.reduceLeDiff, Nat.reduceAdd, Nat.reduceSub, eI, eB, eR]
          refine VLe.tup fun j hj => ?_
          rcases j with _ | _ | j
          · exact VLe.refl _
          · refine vle_bool ?_
            simp_all
          · omega
      · have dx : decide ((lo : Int) < (w.length : Int)) = false := decide_eq_false (by omega)
        rw [show decide (lo < w.length) = false from decide_eq_false hx]
        repeat' (first | apply aw_seq | apply aw_block | apply aw_skip | apply aw_blk | (refine aw_exit (by rfl) ?_) | (refine aq_region ?_; generalize hK : KA _ _ _ = K; simp only [pqs.down, tabs.down, ↓reduceIte, Nat.reduceEqDiff, Nat.reduceLT, Nat.reduceLeDiff, Nat.reduceAdd, Nat.reduceSub, eI, eB, eR, eNs, dx]) | (refine aq_drawA (by kernel_rfl) (by decide +kernel) ?_; generalize hK : KA _ _ _ = K; simp only [pqs.down, tabs.down, ↓reduceIte, Nat.reduceEqDiff, Nat.reduceLT, Nat.reduceLeDiff, Nat.reduceAdd, Nat.reduceSub, eI, eB, eR, eNs, dx]) | (refine guardT (fun hg => ?_) (fun hg => ?_) <;> simp only [pqs.down, tabs.down, ↓reduceIte, Nat.reduceEqDiff, Nat.reduceLT, Nat.reduceLeDiff, Nat.reduceAdd, Nat.reduceSub, eI, eB, eR, hg, eNs, dx]) | (refine guardF (fun hg => ?_) (fun hg => ?_) <;> simp only [pqs.down, tabs.down, ↓reduceIte, Nat.reduceEqDiff, Nat.reduceLT, Nat.reduceLeDiff, Nat.reduceAdd, Nat.reduceSub, eI, eB, eR, hg, eNs, dx]) | (refine call_imm (nanS_con G _) (by rfl) ?_; simp only [pqs.down, tabs.down, ↓reduceIte, Nat.reduceEqDiff, Nat.reduceLT, Nat.reduceLeDiff, Nat.reduceAdd, Nat.reduceSub, eI, eB, eR, eNs, dx]) | (refine call_imm (nanS_con G tg) (by rfl) ?_; simp only [pqs.down, tabs.down, ↓reduceIte, Nat.reduceEqDiff, Nat.reduceLT, Nat.reduceLeDiff, Nat.reduceAdd, Nat.reduceSub, eI, eB, eR, eNs, dx]) | (with_reducible refine And.intro ?_ ?_; · first | omega | rfl) | (subst hK; refine of_KA ?_) | (refine aw_cond (by simp only [pqs.down, tabs.down, ↓reduceIte, Nat.reduceEqDiff, Nat.reduceLT, Nat.reduceLeDiff, Nat.reduceAdd, Nat.reduceSub, eI, eB, eR, eNs, dx]; exact rfl) (fun hc => ?_) (fun hc => ?_) <;> (try (first | (cases hc; done) | (exact absurd hc (by decide))))) | (refine aw_ret ?_))
        all_goals
          simp only [pqs.down, tabs.down, ↓reduceIte, Nat.reduceEqDiff, Nat.reduceLT, Nat.reduceLeDiff, Nat.reduceAdd, Nat.reduceSub, eI, eB, eR]
          refine VLe.tup fun j hj => ?_
          rcases j with _ | _ | j
          · exact VLe.refl _
          · refine vle_bool ?_
            simp
          · omega

end Go.Proofs.YtkelageigeoajaaDoor
