/-
  The walks on words, the reference's: words' bounds, the words.
-/
import Derived.Test.YtkelageigeoajaaDoorWTo
import Derived.Test.YtkelageigeoajaaDoorWRef
set_option linter.unusedSimpArgs false
set_option linter.unusedVariables false
namespace Go.Proofs.YtkelageigeoajaaDoor
open Go.Proofs.YtkelageigeoajaaDoor.Pg

set_option maxHeartbeats 2000000 in
theorem wordsR_con (G : Nat → V) (t : List Int) (hl : t.length ≤ 40) (hcon : Con Tryd.prog G 10 [eRs t] (eNs (wrds t))) : Con Tryd.prog G 7 [eRs t] (eCuts (wrds t)) := by
  have hbl := wrds_small t
  generalize wrds t = b at hbl hcon ⊢
  refine Con.of_body Tryd.func7 rfl (by kernel_rfl) (by rw [Tryd.ntmps7]; simp) ?_
  rw [Tryd.ntmps7, Tryd.results7]
  (repeat (first | apply aw_seq | apply aw_block | apply aw_skip | apply aw_blk)); refine aq_region ?_; generalize hK : KA _ _ _ = K; simp only [pqs.down, tabs.down, ↓reduceIte, Nat.reduceEqDiff, Nat.reduceLT, Nat.reduceLeDiff, Nat.reduceAdd, Nat.reduceSub, eI, eB, eR]; subst hK; unfold KA
  (repeat (first | apply aw_seq | apply aw_block | apply aw_skip | apply aw_blk)); refine aq_region ?_; generalize hK : KA _ _ _ = K; simp only [pqs.down, tabs.down, ↓reduceIte, Nat.reduceEqDiff, Nat.reduceLT, Nat.reduceLeDiff, Nat.reduceAdd, Nat.reduceSub, eI, eB, eR]
  refine call_imm hcon (by rfl) ?_
  simp only [pqs.down, tabs.down, ↓reduceIte, Nat.reduceEqDiff, Nat.reduceLT, Nat.reduceLeDiff, Nat.reduceAdd, Nat.reduceSub, eI, eB, eR]
  subst hK; unfold KA
  (repeat (first | apply aw_seq | apply aw_block | apply aw_skip | apply aw_blk)); refine aq_region ?_; generalize hK : KA _ _ _ = K; simp only [pqs.down, tabs.down, ↓reduceIte, Nat.reduceEqDiff, Nat.reduceLT, Nat.reduceLeDiff, Nat.reduceAdd, Nat.reduceSub, eI, eB, eR]; subst hK; unfold KA
  (repeat (first | apply aw_seq | apply aw_block | apply aw_skip | apply aw_blk)); refine aq_region ?_; generalize hK : KA _ _ _ = K; simp only [pqs.down, tabs.down, ↓reduceIte, Nat.reduceEqDiff, Nat.reduceLT, Nat.reduceLeDiff, Nat.reduceAdd, Nat.reduceSub, eI, eB, eR]; subst hK; unfold KA
  (repeat (first | apply aw_seq | apply aw_block | apply aw_skip | apply aw_blk))
  refine aw_loop (fun k : Nat => St.mk' 29 G [(3, eNs b), (4, .vec 0), (5, eI k)] [.vec 24 2 k 0 (fun i => cl [eI ((b.getD i 0 : Nat) : Int), eI ((b.getD (i + 1) 0 : Nat) : Int)])]) (fun k => k ≤ b.length - 1) (fun k => b.length - k) 0 (Nat.zero_le _) ?_ ?_
  · refine Le.to [none] rfl rfl (by decide) (by simp only [pqs.down, tabs.down, ↓reduceIte, Nat.reduceEqDiff, Nat.reduceLT, Nat.reduceLeDiff, Nat.reduceAdd, Nat.reduceSub, eI, eB, eR, eNs]; first | done | rfl | ((repeat' apply And.intro) <;> first | rfl | trivial | (simp; done) | (simp; omega))) ?_; (repeat first | exact os_nil | refine os_box (by simp only [pqs.down, tabs.down, ↓reduceIte, Nat.reduceEqDiff, Nat.reduceLT, Nat.reduceLeDiff, Nat.reduceAdd, Nat.reduceSub, eI, eB, eR, eNs]; first | done | rfl) (by first | (exact fun _ _ => rfl) | (intro j hj; (rcases j with _ | _ | _ | _ | _ | _ | _ | _ | _ | _ | _ | j) <;> first | (simp only [pqs.down, tabs.down, ↓reduceIte, Nat.reduceEqDiff, Nat.reduceLT, Nat.reduceLeDiff, Nat.reduceAdd, Nat.reduceSub, eI, eB, eR, eNs]; first | done | rfl) | omega)) (by rfl) ?_ | refine os_boxR (by simp only [pqs.down, tabs.down, ↓reduceIte, Nat.reduceEqDiff, Nat.reduceLT, Nat.reduceLeDiff, Nat.reduceAdd, Nat.reduceSub, eI, eB, eR, eNs]; first | done | rfl) (by intro j hj; (rcases j with _ | _ | _ | _ | _ | _ | _ | _ | _ | _ | _ | j) <;> first | (simp only [pqs.down, tabs.down, ↓reduceIte, Nat.reduceEqDiff, Nat.reduceLT, Nat.reduceLeDiff, Nat.reduceAdd, Nat.reduceSub, eI, eB, eR, eNs]; first | done | rfl) | omega) ?_ | refine os_none ?_ | refine os_vec' (by simp only [pqs.down, tabs.down, ↓reduceIte, Nat.reduceEqDiff, Nat.reduceLT, Nat.reduceLeDiff, Nat.reduceAdd, Nat.reduceSub, eI, eB, eR, eNs]; first | done | rfl) ?_ (fun _ _ _ _ => rfl) | refine os_vec' (by simp only [pqs.down, tabs.down, ↓reduceIte, Nat.reduceEqDiff, Nat.reduceLT, Nat.reduceLeDiff, Nat.reduceAdd, Nat.reduceSub, eI, eB, eR, eNs]; first | done | rfl) ?_ ?_)
  · intro k hk
    have hw : IntKind.i64.wrap ((k : Int) + 1) = ((k + 1 : Nat) : Int) := by rw [wrap64_id (by omega) (by omega)]; omega
    (repeat (first | apply aw_seq | apply aw_block | apply aw_skip | apply aw_blk)); refine aq_region ?_; generalize hK : KA _ _ _ = K; simp only [pqs.down, tabs.down, ↓reduceIte, Nat.reduceEqDiff, Nat.reduceLT, Nat.reduceLeDiff, Nat.reduceAdd, Nat.reduceSub, eI, eB, eR, eNs, hw]; subst hK; unfold KA
    (repeat (first | apply aw_seq | apply aw_block | apply aw_skip | apply aw_blk)); refine aw_cond (t := decide (((k + 1 : Nat) : Int) < b.length)) (by simp only [pqs.down, tabs.down, ↓reduceIte, Nat.reduceEqDiff, Nat.reduceLT, Nat.reduceLeDiff, Nat.reduceAdd, Nat.reduceSub, eI, eB, eR]) (fun hc => ?_) (fun hc => ?_)
    · have hlt : k + 1 < b.length := by have := of_decide_eq_true hc; omega
      (repeat (first | apply aw_seq | apply aw_block | apply aw_skip | apply aw_blk)); refine aq_draw 12 (by kernel_rfl) (by decide +kernel) ?_; generalize hK : KA _ _ _ = K; simp only [pqs.down, tabs.down, ↓reduceIte, Nat.reduceEqDiff, Nat.reduceLT, Nat.reduceLeDiff, Nat.reduceAdd, Nat.reduceSub, eI, eB, eR, eNs, hw]; subst hK; unfold KA
      (repeat refine ⟨by first | omega | rfl, ?_⟩)
      (repeat (first | apply aw_seq | apply aw_block | apply aw_skip | apply aw_blk)); refine aq_region ?_; generalize hK : KA _ _ _ = K; simp only [pqs.down, tabs.down, ↓reduceIte, Nat.reduceEqDiff, Nat.reduceLT, Nat.reduceLeDiff, Nat.reduceAdd, Nat.reduceSub, eI, eB, eR, hw]; subst hK; unfold KA
      (repeat (first | apply aw_seq | apply aw_block | apply aw_skip | apply aw_blk)); refine out_nil ?_
      refine ⟨k + 1, by omega, by omega, ?_⟩
      refine Le.to [some 1] rfl rfl (by decide) (by simp only [pqs.down, tabs.down, ↓reduceIte, Nat.reduceEqDiff, Nat.reduceLT, Nat.reduceLeDiff, Nat.reduceAdd, Nat.reduceSub, eI, eB, eR, eNs]; first | done | rfl | ((repeat' apply And.intro) <;> first | rfl | trivial | (simp; done) | (simp; omega))) ?_; (repeat first | exact os_nil | refine os_box (by simp only [pqs.down, tabs.down, ↓reduceIte, Nat.reduceEqDiff, Nat.reduceLT, Nat.reduceLeDiff, Nat.reduceAdd, Nat.reduceSub, eI, eB, eR, eNs]; first | done | rfl) (by first | (exact fun _ _ => rfl) | (intro j hj; (rcases j with _ | _ | _ | _ | _ | _ | _ | _ | _ | _ | _ | j) <;> first | (simp only [pqs.down, tabs.down, ↓reduceIte, Nat.reduceEqDiff, Nat.reduceLT, Nat.reduceLeDiff, Nat.reduceAdd, Nat.reduceSub, eI, eB, eR, eNs]; first | done | rfl) | omega)) (by rfl) ?_ | refine os_boxR (by simp only [pqs.down, tabs.down, ↓reduceIte, Nat.reduceEqDiff, Nat.reduceLT, Nat.reduceLeDiff, Nat.reduceAdd, Nat.reduceSub, eI, eB, eR, eNs]; first | done | rfl) (by intro j hj; (rcases j with _ | _ | _ | _ | _ | _ | _ | _ | _ | _ | _ | j) <;> first | (simp only [pqs.down, tabs.down, ↓reduceIte, Nat.reduceEqDiff, Nat.reduceLT, Nat.reduceLeDiff, Nat.reduceAdd, Nat.reduceSub, eI, eB, eR, eNs]; first | done | rfl) | omega) ?_ | refine os_none ?_ | refine os_vec' (by simp only [pqs.down, tabs.down, ↓reduceIte, Nat.reduceEqDiff, Nat.reduceLT, Nat.reduceLeDiff, Nat.reduceAdd, Nat.reduceSub, eI, eB, eR, eNs]; first | done | rfl) ?_ (fun _ _ _ _ => rfl) | refine os_vec' (by simp only [pqs.down, tabs.down, ↓reduceIte, Nat.reduceEqDiff, Nat.reduceLT, Nat.reduceLeDiff, Nat.reduceAdd, Nat.reduceSub, eI, eB, eR, eNs]; first | done | rfl) ?_ ?_)
      intro q j hq hj
      simp only [appF]
      split
      · rfl
      · have e0 : q = k := by omega
        subst e0
        rw [Nat.sub_self]
        rcases j with _ | _ | j
        · simp [ovrE, ovr, cl, eI]
        · simp [ovrE, ovr, cl, eI]
        · omega
    · refine aw_exit_out (by rfl) ?_; (repeat refine out_exit_out (by rfl) ?_); try (refine out_exit (by rfl) ?_)
      have hkk : k = b.length - 1 := by have := of_decide_eq_false hc; omega
      subst hkk
      (repeat (first | apply aw_seq | apply aw_block | apply aw_skip | apply aw_blk)); refine aq_region ?_; generalize hK : KA _ _ _ = K; simp only [pqs.down, tabs.down, ↓reduceIte, Nat.reduceEqDiff, Nat.reduceLT, Nat.reduceLeDiff, Nat.reduceAdd, Nat.reduceSub, eI, eB, eR]; subst hK; unfold KA
      refine aw_ret ?_; (repeat refine out_ret ?_)
      simp only [pqs.down, tabs.down, ↓reduceIte, Nat.reduceEqDiff, Nat.reduceLT, Nat.reduceLeDiff, Nat.reduceAdd, Nat.reduceSub, eI, eB, eR]
      exact VLe.refl _

theorem wTo_end (t : List Int) : wTo t (bnds t).length = wrds t := by
  rcases Nat.eq_zero_or_pos t.length with h | h
  · rw [wrds_nil h, bnds_nil h]; rfl
  · have := wTo_all h
    have h2 := bnds_two h
    have hk := length_kinds t
    rw [show (bnds t).length = (kinds t).length + 1 by omega]
    exact this

set_option maxHeartbeats 4000000 in
theorem wboundsR_con (G : Nat → V) (t : List Int) (hl : t.length ≤ 40) : Con Tryd.prog G 10 [eRs t] (eNs (wrds t)) := by
  have hbl := bnds_len t
  have hcon := boundsR_con G t hl
  have hkl := length_kinds t
  have hkg := fun i => @kinds_getD t i
  have hmono := fun i (h : i + 1 < (bnds t).length) => bnds_mono t (show i < i + 1 by omega) h
  have hle := fun i (h : i < (bnds t).length) => bnds_le t h
  have hend := wTo_end t
  have hyes := fun k => @wTo_yes t k
  have hno := fun k => @wTo_no t k
  have hlen := wTo_len t
  have hisW : ∀ i, isW t i = (i == 0 || i == (kinds t).length || !hangW (kinds t) (i - 1)) := fun i => rfl
  have hhang := fun i h1 h2 h3 => hang_con G (kinds t) i h1 h2 h3
  generalize bnds t = b at hbl hcon hkl hkg hmono hle hend hyes ⊢
  generalize kinds t = ks at hkl hkg hisW hhang ⊢
  refine Con.of_body Tryd.func10 rfl (by kernel_rfl) (by rw [Tryd.ntmps10]; simp) ?_
  rw [Tryd.ntmps10, Tryd.results10]
  (repeat (first | apply aw_seq | apply aw_block | apply aw_skip | apply aw_blk)); refine aq_region ?_; generalize hK : KA _ _ _ = K; simp only [pqs.down, tabs.down, ↓reduceIte, Nat.reduceEqDiff, Nat.reduceLT, Nat.reduceLeDiff, Nat.reduceAdd, Nat.reduceSub, eI, eB, eR]; subst hK; unfold KA
  (repeat (first | apply aw_seq | apply aw_block | apply aw_skip | apply aw_blk)); refine aq_region ?_; generalize hK : KA _ _ _ = K; simp only [pqs.down, tabs.down, ↓reduceIte, Nat.reduceEqDiff, Nat.reduceLT, Nat.reduceLeDiff, Nat.reduceAdd, Nat.reduceSub, eI, eB, eR]
  refine call_imm hcon (by rfl) ?_
  simp only [pqs.down, tabs.down, ↓reduceIte, Nat.reduceEqDiff, Nat.reduceLT, Nat.reduceLeDiff, Nat.reduceAdd, Nat.reduceSub, eI, eB, eR]
  subst hK; unfold KA
  (repeat (first | apply aw_seq | apply aw_block | apply aw_skip | apply aw_blk)); refine aq_region ?_; generalize hK : KA _ _ _ = K; simp only [pqs.down, tabs.down, ↓reduceIte, Nat.reduceEqDiff, Nat.reduceLT, Nat.reduceLeDiff, Nat.reduceAdd, Nat.reduceSub, eI, eB, eR]; subst hK; unfold KA
  (repeat (first | apply aw_seq | apply aw_block | apply aw_skip | apply aw_blk)); refine aq_region ?_; generalize hK : KA _ _ _ = K; simp only [pqs.down, tabs.down, ↓reduceIte, Nat.reduceEqDiff, Nat.reduceLT, Nat.reduceLeDiff, Nat.reduceAdd, Nat.reduceSub, eI, eB, eR]; subst hK; unfold KA
  (repeat (first | apply aw_seq | apply aw_block | apply aw_skip | apply aw_blk))
  refine aw_loop (fun k : Nat => St.mk' 59 G [(0, eRs t), (3, eNs b), (4, .vec 0), (5, eI k)] [.vec 3 1 k 0 (fun i => cl [eI (ks.getD i 0)])]) (fun k => k ≤ b.length - 1) (fun k => b.length - k) 0 (Nat.zero_le _) ?_ ?_
  · refine Le.to [none] rfl rfl (by decide) (by simp only [pqs.down, tabs.down, ↓reduceIte, Nat.reduceEqDiff, Nat.reduceLT, Nat.reduceLeDiff, Nat.reduceAdd, Nat.reduceSub, eI, eB, eR, eNs]; first | done | rfl | ((repeat' apply And.intro) <;> first | rfl | trivial | (simp; done) | (simp; omega))) ?_; (repeat first | exact os_nil | refine os_box (by simp only [pqs.down, tabs.down, ↓reduceIte, Nat.reduceEqDiff, Nat.reduceLT, Nat.reduceLeDiff, Nat.reduceAdd, Nat.reduceSub, eI, eB, eR, eNs]; first | done | rfl) (by first | (exact fun _ _ => rfl) | (intro j hj; (rcases j with _ | _ | _ | _ | _ | _ | _ | _ | _ | _ | _ | j) <;> first | (simp only [pqs.down, tabs.down, ↓reduceIte, Nat.reduceEqDiff, Nat.reduceLT, Nat.reduceLeDiff, Nat.reduceAdd, Nat.reduceSub, eI, eB, eR, eNs]; first | done | rfl) | omega)) (by rfl) ?_ | refine os_boxR (by simp only [pqs.down, tabs.down, ↓reduceIte, Nat.reduceEqDiff, Nat.reduceLT, Nat.reduceLeDiff, Nat.reduceAdd, Nat.reduceSub, eI, eB, eR, eNs]; first | done | rfl) (by intro j hj; (rcases j with _ | _ | _ | _ | _ | _ | _ | _ | _ | _ | _ | j) <;> first | (simp only [pqs.down, tabs.down, ↓reduceIte, Nat.reduceEqDiff, Nat.reduceLT, Nat.reduceLeDiff, Nat.reduceAdd, Nat.reduceSub, eI, eB, eR, eNs]; first | done | rfl) | omega) ?_ | refine os_none ?_ | refine os_vec' (by simp only [pqs.down, tabs.down, ↓reduceIte, Nat.reduceEqDiff, Nat.reduceLT, Nat.reduceLeDiff, Nat.reduceAdd, Nat.reduceSub, eI, eB, eR, eNs]; first | done | rfl) ?_ (fun _ _ _ _ => rfl) | refine os_vec' (by simp only [pqs.down, tabs.down, ↓reduceIte, Nat.reduceEqDiff, Nat.reduceLT, Nat.reduceLeDiff, Nat.reduceAdd, Nat.reduceSub, eI, eB, eR, eNs]; first | done | rfl) ?_ ?_)
  · intro k hk
    have hw : IntKind.i64.wrap ((k : Int) + 1) = ((k + 1 : Nat) : Int) := by rw [wrap64_id (by omega) (by omega)]; omega
    (repeat (first | apply aw_seq | apply aw_block | apply aw_skip | apply aw_blk)); refine aq_region ?_; generalize hK : KA _ _ _ = K; simp only [pqs.down, tabs.down, ↓reduceIte, Nat.reduceEqDiff, Nat.reduceLT, Nat.reduceLeDiff, Nat.reduceAdd, Nat.reduceSub, eI, eB, eR, eNs, hw]; subst hK; unfold KA
    (repeat (first | apply aw_seq | apply aw_block | apply aw_skip | apply aw_blk)); refine aw_cond (t := decide (((k + 1 : Nat) : Int) < b.length)) (by simp only [pqs.down, tabs.down, ↓reduceIte, Nat.reduceEqDiff, Nat.reduceLT, Nat.reduceLeDiff, Nat.reduceAdd, Nat.reduceSub, eI, eB, eR]) (fun hc => ?_) (fun hc => ?_)
    · have hlt : k + 1 < b.length := by have := of_decide_eq_true hc; omega
      have hkk := hkg k (by omega)
      have hm := hmono k hlt
      have hl2 := hle (k + 1) hlt
      (repeat (first | apply aw_seq | apply aw_block | apply aw_skip | apply aw_blk)); refine aq_draw 13 (by kernel_rfl) (by decide +kernel) ?_; generalize hK : KA _ _ _ = K; simp only [pqs.down, tabs.down, ↓reduceIte, Nat.reduceEqDiff, Nat.reduceLT, Nat.reduceLeDiff, Nat.reduceAdd, Nat.reduceSub, eI, eB, eR, eNs, hw]
      (repeat refine ⟨by first | omega | rfl, ?_⟩)
      refine call_imm (kindR_con G t (b.getD k 0) (b.getD (k + 1) 0) (by omega) hl2 hl) (by rfl) ?_
      simp only [pqs.down, tabs.down, ↓reduceIte, Nat.reduceEqDiff, Nat.reduceLT, Nat.reduceLeDiff, Nat.reduceAdd, Nat.reduceSub, eI, eB, eR]
      (repeat refine ⟨by first | omega | rfl, ?_⟩)
      subst hK; unfold KA
      (repeat (first | apply aw_seq | apply aw_block | apply aw_skip | apply aw_blk)); refine aq_region ?_; generalize hK : KA _ _ _ = K; simp only [pqs.down, tabs.down, ↓reduceIte, Nat.reduceEqDiff, Nat.reduceLT, Nat.reduceLeDiff, Nat.reduceAdd, Nat.reduceSub, eI, eB, eR, hw]; subst hK; unfold KA
      (repeat (first | apply aw_seq | apply aw_block | apply aw_skip | apply aw_blk)); refine out_nil ?_
      refine ⟨k + 1, by omega, by omega, ?_⟩
      refine Le.to [some 1] rfl rfl (by decide) (by simp only [pqs.down, tabs.down, ↓reduceIte, Nat.reduceEqDiff, Nat.reduceLT, Nat.reduceLeDiff, Nat.reduceAdd, Nat.reduceSub, eI, eB, eR, eNs]; first | done | rfl | ((repeat' apply And.intro) <;> first | rfl | trivial | (simp; done) | (simp; omega))) ?_; (repeat first | exact os_nil | refine os_box (by simp only [pqs.down, tabs.down, ↓reduceIte, Nat.reduceEqDiff, Nat.reduceLT, Nat.reduceLeDiff, Nat.reduceAdd, Nat.reduceSub, eI, eB, eR, eNs]; first | done | rfl) (by first | (exact fun _ _ => rfl) | (intro j hj; (rcases j with _ | _ | _ | _ | _ | _ | _ | _ | _ | _ | _ | j) <;> first | (simp only [pqs.down, tabs.down, ↓reduceIte, Nat.reduceEqDiff, Nat.reduceLT, Nat.reduceLeDiff, Nat.reduceAdd, Nat.reduceSub, eI, eB, eR, eNs]; first | done | rfl) | omega)) (by rfl) ?_ | refine os_boxR (by simp only [pqs.down, tabs.down, ↓reduceIte, Nat.reduceEqDiff, Nat.reduceLT, Nat.reduceLeDiff, Nat.reduceAdd, Nat.reduceSub, eI, eB, eR, eNs]; first | done | rfl) (by intro j hj; (rcases j with _ | _ | _ | _ | _ | _ | _ | _ | _ | _ | _ | j) <;> first | (simp only [pqs.down, tabs.down, ↓reduceIte, Nat.reduceEqDiff, Nat.reduceLT, Nat.reduceLeDiff, Nat.reduceAdd, Nat.reduceSub, eI, eB, eR, eNs]; first | done | rfl) | omega) ?_ | refine os_none ?_ | refine os_vec' (by simp only [pqs.down, tabs.down, ↓reduceIte, Nat.reduceEqDiff, Nat.reduceLT, Nat.reduceLeDiff, Nat.reduceAdd, Nat.reduceSub, eI, eB, eR, eNs]; first | done | rfl) ?_ (fun _ _ _ _ => rfl) | refine os_vec' (by simp only [pqs.down, tabs.down, ↓reduceIte, Nat.reduceEqDiff, Nat.reduceLT, Nat.reduceLeDiff, Nat.reduceAdd, Nat.reduceSub, eI, eB, eR, eNs]; first | done | rfl) ?_ ?_)
      intro q j hq hj
      simp only [appF]
      split
      · rfl
      · have e0 : q = k := by omega
        subst e0
        rw [Nat.sub_self]
        rcases j with _ | j
        · rw [hkk]
          simp [ovrE, ovr, cl, eI]
        · omega
    · refine aw_exit_out (by rfl) ?_; (repeat refine out_exit_out (by rfl) ?_); try (refine out_exit (by rfl) ?_)
      have hkk : k = b.length - 1 := by have := of_decide_eq_false hc; omega
      subst hkk
      refine aw_le (st' := St.mk' 59 G [(3, eNs b), (4, .vec 0)] [.vec 3 1 (b.length - 1) 0 (fun i => cl [eI (ks.getD i 0)])]) ?_ ?_
      · refine Le.to [some 0] rfl rfl (by decide) (by simp only [pqs.down, tabs.down, ↓reduceIte, Nat.reduceEqDiff, Nat.reduceLT, Nat.reduceLeDiff, Nat.reduceAdd, Nat.reduceSub, eI, eB, eR, eNs]; first | done | rfl | ((repeat' apply And.intro) <;> first | rfl | trivial | (simp; done) | (simp; omega))) ?_; (repeat first | exact os_nil | refine os_box (by simp only [pqs.down, tabs.down, ↓reduceIte, Nat.reduceEqDiff, Nat.reduceLT, Nat.reduceLeDiff, Nat.reduceAdd, Nat.reduceSub, eI, eB, eR, eNs]; first | done | rfl) (by first | (exact fun _ _ => rfl) | (intro j hj; (rcases j with _ | _ | _ | _ | _ | _ | _ | _ | _ | _ | _ | j) <;> first | (simp only [pqs.down, tabs.down, ↓reduceIte, Nat.reduceEqDiff, Nat.reduceLT, Nat.reduceLeDiff, Nat.reduceAdd, Nat.reduceSub, eI, eB, eR, eNs]; first | done | rfl) | omega)) (by rfl) ?_ | refine os_boxR (by simp only [pqs.down, tabs.down, ↓reduceIte, Nat.reduceEqDiff, Nat.reduceLT, Nat.reduceLeDiff, Nat.reduceAdd, Nat.reduceSub, eI, eB, eR, eNs]; first | done | rfl) (by intro j hj; (rcases j with _ | _ | _ | _ | _ | _ | _ | _ | _ | _ | _ | j) <;> first | (simp only [pqs.down, tabs.down, ↓reduceIte, Nat.reduceEqDiff, Nat.reduceLT, Nat.reduceLeDiff, Nat.reduceAdd, Nat.reduceSub, eI, eB, eR, eNs]; first | done | rfl) | omega) ?_ | refine os_none ?_ | refine os_vec' (by simp only [pqs.down, tabs.down, ↓reduceIte, Nat.reduceEqDiff, Nat.reduceLT, Nat.reduceLeDiff, Nat.reduceAdd, Nat.reduceSub, eI, eB, eR, eNs]; first | done | rfl) ?_ (fun _ _ _ _ => rfl) | refine os_vec' (by simp only [pqs.down, tabs.down, ↓reduceIte, Nat.reduceEqDiff, Nat.reduceLT, Nat.reduceLeDiff, Nat.reduceAdd, Nat.reduceSub, eI, eB, eR, eNs]; first | done | rfl) ?_ ?_)
      (repeat (first | apply aw_seq | apply aw_block | apply aw_skip | apply aw_blk))
      refine aw_freeze 0 (by simp only [pqs.down, tabs.down, ↓reduceIte, Nat.reduceEqDiff, Nat.reduceLT, Nat.reduceLeDiff, Nat.reduceAdd, Nat.reduceSub, eI, eB, eR]; first | done | rfl) ?_
      refine aw_le (st' := St.mk' 59 G [(3, eNs b), (4, eKr ks)] []) ?_ ?_
      · refine Le.to [] rfl rfl (by decide) (by simp only [pqs.down, tabs.down, ↓reduceIte, Nat.reduceEqDiff, Nat.reduceLT, Nat.reduceLeDiff, Nat.reduceAdd, Nat.reduceSub, eI, eB, eR, eNs, eKr, hkl]; first | done | rfl | ((repeat' apply And.intro) <;> first | rfl | trivial | (simp; done) | (simp; omega))) ?_; (repeat first | exact os_nil | refine os_box (by simp only [pqs.down, tabs.down, ↓reduceIte, Nat.reduceEqDiff, Nat.reduceLT, Nat.reduceLeDiff, Nat.reduceAdd, Nat.reduceSub, eI, eB, eR, eNs, eKr, hkl]; first | done | rfl) (by first | (exact fun _ _ => rfl) | (intro j hj; (rcases j with _ | _ | _ | _ | _ | _ | _ | _ | _ | _ | _ | j) <;> first | (simp only [pqs.down, tabs.down, ↓reduceIte, Nat.reduceEqDiff, Nat.reduceLT, Nat.reduceLeDiff, Nat.reduceAdd, Nat.reduceSub, eI, eB, eR, eNs, eKr, hkl]; first | done | rfl) | omega)) (by rfl) ?_ | refine os_boxR (by simp only [pqs.down, tabs.down, ↓reduceIte, Nat.reduceEqDiff, Nat.reduceLT, Nat.reduceLeDiff, Nat.reduceAdd, Nat.reduceSub, eI, eB, eR, eNs, eKr, hkl]; first | done | rfl) (by intro j hj; (rcases j with _ | _ | _ | _ | _ | _ | _ | _ | _ | _ | _ | j) <;> first | (simp only [pqs.down, tabs.down, ↓reduceIte, Nat.reduceEqDiff, Nat.reduceLT, Nat.reduceLeDiff, Nat.reduceAdd, Nat.reduceSub, eI, eB, eR, eNs, eKr, hkl]; first | done | rfl) | omega) ?_ | refine os_none ?_ | refine os_vec' (by simp only [pqs.down, tabs.down, ↓reduceIte, Nat.reduceEqDiff, Nat.reduceLT, Nat.reduceLeDiff, Nat.reduceAdd, Nat.reduceSub, eI, eB, eR, eNs, eKr, hkl]; first | done | rfl) ?_ (fun _ _ _ _ => rfl) | refine os_vec' (by simp only [pqs.down, tabs.down, ↓reduceIte, Nat.reduceEqDiff, Nat.reduceLT, Nat.reduceLeDiff, Nat.reduceAdd, Nat.reduceSub, eI, eB, eR, eNs, eKr, hkl]; first | done | rfl) ?_ ?_)
      (repeat (first | apply aw_seq | apply aw_block | apply aw_skip | apply aw_blk)); refine aq_region ?_; generalize hK : KA _ _ _ = K; simp only [pqs.down, tabs.down, ↓reduceIte, Nat.reduceEqDiff, Nat.reduceLT, Nat.reduceLeDiff, Nat.reduceAdd, Nat.reduceSub, eI, eB, eR]; subst hK; unfold KA
      (repeat (first | apply aw_seq | apply aw_block | apply aw_skip | apply aw_blk)); refine aq_region ?_; generalize hK : KA _ _ _ = K; simp only [pqs.down, tabs.down, ↓reduceIte, Nat.reduceEqDiff, Nat.reduceLT, Nat.reduceLeDiff, Nat.reduceAdd, Nat.reduceSub, eI, eB, eR]; subst hK; unfold KA
      (repeat (first | apply aw_seq | apply aw_block | apply aw_skip | apply aw_blk))
      refine aw_loop (fun k : Nat => St.mk' 59 G [(3, eNs b), (4, eKr ks), (6, .vec 0), (7, eI k)] [.vec 3 1 (wTo t k).length 0 (fun i => cl [eI (((wTo t k).getD i 0 : Nat) : Int)])]) (fun k => k ≤ b.length) (fun k => b.length - k) 0 (Nat.zero_le _) ?_ ?_
      · refine Le.to [none] rfl rfl (by decide) (by simp only [pqs.down, tabs.down, ↓reduceIte, Nat.reduceEqDiff, Nat.reduceLT, Nat.reduceLeDiff, Nat.reduceAdd, Nat.reduceSub, eI, eB, eR, eNs, eKr]; first | done | rfl | ((repeat' apply And.intro) <;> first | rfl | trivial | (simp; done) | (simp; omega))) ?_; (repeat first | exact os_nil | refine os_box (by simp only [pqs.down, tabs.down, ↓reduceIte, Nat.reduceEqDiff, Nat.reduceLT, Nat.reduceLeDiff, Nat.reduceAdd, Nat.reduceSub, eI, eB, eR, eNs, eKr]; first | done | rfl) (by first | (exact fun _ _ => rfl) | (intro j hj; (rcases j with _ | _ | _ | _ | _ | _ | _ | _ | _ | _ | _ | j) <;> first | (simp only [pqs.down, tabs.down, ↓reduceIte, Nat.reduceEqDiff, Nat.reduceLT, Nat.reduceLeDiff, Nat.reduceAdd, Nat.reduceSub, eI, eB, eR, eNs, eKr]; first | done | rfl) | omega)) (by rfl) ?_ | refine os_boxR (by simp only [pqs.down, tabs.down, ↓reduceIte, Nat.reduceEqDiff, Nat.reduceLT, Nat.reduceLeDiff, Nat.reduceAdd, Nat.reduceSub, eI, eB, eR, eNs, eKr]; first | done | rfl) (by intro j hj; (rcases j with _ | _ | _ | _ | _ | _ | _ | _ | _ | _ | _ | j) <;> first | (simp only [pqs.down, tabs.down, ↓reduceIte, Nat.reduceEqDiff, Nat.reduceLT, Nat.reduceLeDiff, Nat.reduceAdd, Nat.reduceSub, eI, eB, eR, eNs, eKr]; first | done | rfl) | omega) ?_ | refine os_none ?_ | refine os_vec' (by simp only [pqs.down, tabs.down, ↓reduceIte, Nat.reduceEqDiff, Nat.reduceLT, Nat.reduceLeDiff, Nat.reduceAdd, Nat.reduceSub, eI, eB, eR, eNs, eKr]; first | done | rfl) ?_ (fun _ _ _ _ => rfl) | refine os_vec' (by simp only [pqs.down, tabs.down, ↓reduceIte, Nat.reduceEqDiff, Nat.reduceLT, Nat.reduceLeDiff, Nat.reduceAdd, Nat.reduceSub, eI, eB, eR, eNs, eKr]; first | done | rfl) ?_ ?_)
      · intro k hk
        have hlk := hlen k
        (repeat (first | apply aw_seq | apply aw_block | apply aw_skip | apply aw_blk)); refine aq_region ?_; generalize hK : KA _ _ _ = K; simp only [pqs.down, tabs.down, ↓reduceIte, Nat.reduceEqDiff, Nat.reduceLT, Nat.reduceLeDiff, Nat.reduceAdd, Nat.reduceSub, eI, eB, eR, eNs]; subst hK; unfold KA
        (repeat (first | apply aw_seq | apply aw_block | apply aw_skip | apply aw_blk)); refine aw_cond (t := decide ((k : Int) < b.length)) (by simp only [pqs.down, tabs.down, ↓reduceIte, Nat.reduceEqDiff, Nat.reduceLT, Nat.reduceLeDiff, Nat.reduceAdd, Nat.reduceSub, eI, eB, eR]) (fun hc => ?_) (fun hc => ?_)
        · have hlt : k < b.length := by have := of_decide_eq_true hc; omega
          have hw : IntKind.i64.wrap ((k : Int) + 1) = ((k + 1 : Nat) : Int) := by rw [wrap64_id (by omega) (by omega)]; omega
          (repeat (first | apply aw_seq | apply aw_block | apply aw_skip | apply aw_blk))
          refine aw_piece (fun st' => Le st' (St.mk' 59 G [(3, eNs b), (4, eKr ks), (6, .vec 0), (7, eI k), (50, eB (isW t k))] [.vec 3 1 (wTo t k).length 0 (fun i => cl [eI (((wTo t k).getD i 0 : Nat) : Int)])])) (fun Q hQ => ?_) (fun st' hle => aw_le hle ?_)
          · by_cases hz : k = 0
            · subst hz
              have d0 : ((((0 : Nat) : Int)) == 0) = true := by decide
              rw [show isW t 0 = true by rw [hisW]; rfl] at hQ
              (repeat (first | apply aw_seq | apply aw_block | apply aw_skip | apply aw_blk)); refine aq_region ?_; generalize hK : KA _ _ _ = K; simp only [pqs.down, tabs.down, ↓reduceIte, Nat.reduceEqDiff, Nat.reduceLT, Nat.reduceLeDiff, Nat.reduceAdd, Nat.reduceSub, eI, eB, eR, eKr, d0]; subst hK; unfold KA
              refine aw_nil (hQ _ ?_)
              refine Le.to [some 0] rfl rfl (by decide) (by simp only [pqs.down, tabs.down, ↓reduceIte, Nat.reduceEqDiff, Nat.reduceLT, Nat.reduceLeDiff, Nat.reduceAdd, Nat.reduceSub, eI, eB, eR, eNs, eKr]; first | done | rfl | ((repeat' apply And.intro) <;> first | rfl | trivial | (simp; done) | (simp; omega))) ?_; (repeat first | exact os_nil | refine os_box (by simp only [pqs.down, tabs.down, ↓reduceIte, Nat.reduceEqDiff, Nat.reduceLT, Nat.reduceLeDiff, Nat.reduceAdd, Nat.reduceSub, eI, eB, eR, eNs, eKr]; first | done | rfl) (by first | (exact fun _ _ => rfl) | (intro j hj; (rcases j with _ | _ | _ | _ | _ | _ | _ | _ | _ | _ | _ | j) <;> first | (simp only [pqs.down, tabs.down, ↓reduceIte, Nat.reduceEqDiff, Nat.reduceLT, Nat.reduceLeDiff, Nat.reduceAdd, Nat.reduceSub, eI, eB, eR, eNs, eKr]; first | done | rfl) | omega)) (by rfl) ?_ | refine os_boxR (by simp only [pqs.down, tabs.down, ↓reduceIte, Nat.reduceEqDiff, Nat.reduceLT, Nat.reduceLeDiff, Nat.reduceAdd, Nat.reduceSub, eI, eB, eR, eNs, eKr]; first | done | rfl) (by intro j hj; (rcases j with _ | _ | _ | _ | _ | _ | _ | _ | _ | _ | _ | j) <;> first | (simp only [pqs.down, tabs.down, ↓reduceIte, Nat.reduceEqDiff, Nat.reduceLT, Nat.reduceLeDiff, Nat.reduceAdd, Nat.reduceSub, eI, eB, eR, eNs, eKr]; first | done | rfl) | omega) ?_ | refine os_none ?_ | refine os_vec' (by simp only [pqs.down, tabs.down, ↓reduceIte, Nat.reduceEqDiff, Nat.reduceLT, Nat.reduceLeDiff, Nat.reduceAdd, Nat.reduceSub, eI, eB, eR, eNs, eKr]; first | done | rfl) ?_ (fun _ _ _ _ => rfl) | refine os_vec' (by simp only [pqs.down, tabs.down, ↓reduceIte, Nat.reduceEqDiff, Nat.reduceLT, Nat.reduceLeDiff, Nat.reduceAdd, Nat.reduceSub, eI, eB, eR, eNs, eKr]; first | done | rfl) ?_ ?_)
            · have d0 : (((k : Nat) : Int) == 0) = false := beq_eq_false_iff_ne.2 (by omega)
              have n0 : (k == 0) = false := beq_eq_false_iff_ne.2 hz
              by_cases he : k = ks.length
              · have d1 : (((k : Nat) : Int) == (ks.length : Int)) = true := beq_iff_eq.2 (by omega)
                rw [show isW t k = true by rw [hisW, n0, show (k == ks.length) = true from beq_iff_eq.2 he]; rfl] at hQ
                (repeat (first | apply aw_seq | apply aw_block | apply aw_skip | apply aw_blk)); refine aq_region ?_; generalize hK : KA _ _ _ = K; simp only [pqs.down, tabs.down, ↓reduceIte, Nat.reduceEqDiff, Nat.reduceLT, Nat.reduceLeDiff, Nat.reduceAdd, Nat.reduceSub, eI, eB, eR, eKr, d0, d1]; subst hK; unfold KA
                refine aw_nil (hQ _ ?_)
                refine Le.to [some 0] rfl rfl (by decide) (by simp only [pqs.down, tabs.down, ↓reduceIte, Nat.reduceEqDiff, Nat.reduceLT, Nat.reduceLeDiff, Nat.reduceAdd, Nat.reduceSub, eI, eB, eR, eNs, eKr]; first | done | rfl | ((repeat' apply And.intro) <;> first | rfl | trivial | (simp; done) | (simp; omega))) ?_; (repeat first | exact os_nil | refine os_box (by simp only [pqs.down, tabs.down, ↓reduceIte, Nat.reduceEqDiff, Nat.reduceLT, Nat.reduceLeDiff, Nat.reduceAdd, Nat.reduceSub, eI, eB, eR, eNs, eKr]; first | done | rfl) (by first | (exact fun _ _ => rfl) | (intro j hj; (rcases j with _ | _ | _ | _ | _ | _ | _ | _ | _ | _ | _ | j) <;> first | (simp only [pqs.down, tabs.down, ↓reduceIte, Nat.reduceEqDiff, Nat.reduceLT, Nat.reduceLeDiff, Nat.reduceAdd, Nat.reduceSub, eI, eB, eR, eNs, eKr]; first | done | rfl) | omega)) (by rfl) ?_ | refine os_boxR (by simp only [pqs.down, tabs.down, ↓reduceIte, Nat.reduceEqDiff, Nat.reduceLT, Nat.reduceLeDiff, Nat.reduceAdd, Nat.reduceSub, eI, eB, eR, eNs, eKr]; first | done | rfl) (by intro j hj; (rcases j with _ | _ | _ | _ | _ | _ | _ | _ | _ | _ | _ | j) <;> first | (simp only [pqs.down, tabs.down, ↓reduceIte, Nat.reduceEqDiff, Nat.reduceLT, Nat.reduceLeDiff, Nat.reduceAdd, Nat.reduceSub, eI, eB, eR, eNs, eKr]; first | done | rfl) | omega) ?_ | refine os_none ?_ | refine os_vec' (by simp only [pqs.down, tabs.down, ↓reduceIte, Nat.reduceEqDiff, Nat.reduceLT, Nat.reduceLeDiff, Nat.reduceAdd, Nat.reduceSub, eI, eB, eR, eNs, eKr]; first | done | rfl) ?_ (fun _ _ _ _ => rfl) | refine os_vec' (by simp only [pqs.down, tabs.down, ↓reduceIte, Nat.reduceEqDiff, Nat.reduceLT, Nat.reduceLeDiff, Nat.reduceAdd, Nat.reduceSub, eI, eB, eR, eNs, eKr]; first | done | rfl) ?_ ?_)
              · have d1 : (((k : Nat) : Int) == (ks.length : Int)) = false := beq_eq_false_iff_ne.2 (by omega)
                rw [show isW t k = !hangW ks (k - 1) by rw [hisW, n0, show (k == ks.length) = false from beq_eq_false_iff_ne.2 he]; rfl] at hQ
                (repeat (first | apply aw_seq | apply aw_block | apply aw_skip | apply aw_blk)); refine aq_region ?_; generalize hK : KA _ _ _ = K; simp only [pqs.down, tabs.down, ↓reduceIte, Nat.reduceEqDiff, Nat.reduceLT, Nat.reduceLeDiff, Nat.reduceAdd, Nat.reduceSub, eI, eB, eR, eKr, d0, d1]
                refine call_imm (hhang k (by omega) (by omega) (by omega)) (by rfl) ?_
                simp only [pqs.down, tabs.down, ↓reduceIte, Nat.reduceEqDiff, Nat.reduceLT, Nat.reduceLeDiff, Nat.reduceAdd, Nat.reduceSub, eI, eB, eR]
                subst hK; unfold KA
                refine aw_nil (hQ _ ?_)
                refine Le.to [some 0] rfl rfl (by decide) (by simp only [pqs.down, tabs.down, ↓reduceIte, Nat.reduceEqDiff, Nat.reduceLT, Nat.reduceLeDiff, Nat.reduceAdd, Nat.reduceSub, eI, eB, eR, eNs, eKr]; first | done | rfl | ((repeat' apply And.intro) <;> first | rfl | trivial | (simp; done) | (simp; omega))) ?_; (repeat first | exact os_nil | refine os_box (by simp only [pqs.down, tabs.down, ↓reduceIte, Nat.reduceEqDiff, Nat.reduceLT, Nat.reduceLeDiff, Nat.reduceAdd, Nat.reduceSub, eI, eB, eR, eNs, eKr]; first | done | rfl) (by first | (exact fun _ _ => rfl) | (intro j hj; (rcases j with _ | _ | _ | _ | _ | _ | _ | _ | _ | _ | _ | j) <;> first | (simp only [pqs.down, tabs.down, ↓reduceIte, Nat.reduceEqDiff, Nat.reduceLT, Nat.reduceLeDiff, Nat.reduceAdd, Nat.reduceSub, eI, eB, eR, eNs, eKr]; first | done | rfl) | omega)) (by rfl) ?_ | refine os_boxR (by simp only [pqs.down, tabs.down, ↓reduceIte, Nat.reduceEqDiff, Nat.reduceLT, Nat.reduceLeDiff, Nat.reduceAdd, Nat.reduceSub, eI, eB, eR, eNs, eKr]; first | done | rfl) (by intro j hj; (rcases j with _ | _ | _ | _ | _ | _ | _ | _ | _ | _ | _ | j) <;> first | (simp only [pqs.down, tabs.down, ↓reduceIte, Nat.reduceEqDiff, Nat.reduceLT, Nat.reduceLeDiff, Nat.reduceAdd, Nat.reduceSub, eI, eB, eR, eNs, eKr]; first | done | rfl) | omega) ?_ | refine os_none ?_ | refine os_vec' (by simp only [pqs.down, tabs.down, ↓reduceIte, Nat.reduceEqDiff, Nat.reduceLT, Nat.reduceLeDiff, Nat.reduceAdd, Nat.reduceSub, eI, eB, eR, eNs, eKr]; first | done | rfl) ?_ (fun _ _ _ _ => rfl) | refine os_vec' (by simp only [pqs.down, tabs.down, ↓reduceIte, Nat.reduceEqDiff, Nat.reduceLT, Nat.reduceLeDiff, Nat.reduceAdd, Nat.reduceSub, eI, eB, eR, eNs, eKr]; first | done | rfl) ?_ ?_)
          · (repeat (first | apply aw_seq | apply aw_block | apply aw_skip | apply aw_blk)); refine aw_cond (t := isW t k) (by simp only [pqs.down, tabs.down, ↓reduceIte, Nat.reduceEqDiff, Nat.reduceLT, Nat.reduceLeDiff, Nat.reduceAdd, Nat.reduceSub, eI, eB, eR]) (fun h1 => ?_) (fun h1 => ?_)
            · (repeat (first | apply aw_seq | apply aw_block | apply aw_skip | apply aw_blk)); refine aq_region ?_; generalize hK : KA _ _ _ = K; simp only [pqs.down, tabs.down, ↓reduceIte, Nat.reduceEqDiff, Nat.reduceLT, Nat.reduceLeDiff, Nat.reduceAdd, Nat.reduceSub, eI, eB, eR, eNs]; subst hK; unfold KA
              (repeat refine ⟨by first | omega | rfl, ?_⟩)
              (repeat (first | apply aw_seq | apply aw_block | apply aw_skip | apply aw_blk)); refine aq_region ?_; generalize hK : KA _ _ _ = K; simp only [pqs.down, tabs.down, ↓reduceIte, Nat.reduceEqDiff, Nat.reduceLT, Nat.reduceLeDiff, Nat.reduceAdd, Nat.reduceSub, eI, eB, eR, hw]; subst hK; unfold KA
              (repeat (first | apply aw_seq | apply aw_block | apply aw_skip | apply aw_blk)); refine out_nil ?_
              refine ⟨k + 1, by omega, by omega, ?_⟩
              rw [hyes k h1]
              generalize wTo t k = A at hlk ⊢
              rw [List.length_append]
              refine Le.to [some 2] rfl rfl (by decide) (by simp only [pqs.down, tabs.down, ↓reduceIte, Nat.reduceEqDiff, Nat.reduceLT, Nat.reduceLeDiff, Nat.reduceAdd, Nat.reduceSub, eI, eB, eR, eNs, eKr]; first | done | rfl | ((repeat' apply And.intro) <;> first | rfl | trivial | (simp; done) | (simp; omega))) ?_; (repeat first | exact os_nil | refine os_box (by simp only [pqs.down, tabs.down, ↓reduceIte, Nat.reduceEqDiff, Nat.reduceLT, Nat.reduceLeDiff, Nat.reduceAdd, Nat.reduceSub, eI, eB, eR, eNs, eKr]; first | done | rfl) (by first | (exact fun _ _ => rfl) | (intro j hj; (rcases j with _ | _ | _ | _ | _ | _ | _ | _ | _ | _ | _ | j) <;> first | (simp only [pqs.down, tabs.down, ↓reduceIte, Nat.reduceEqDiff, Nat.reduceLT, Nat.reduceLeDiff, Nat.reduceAdd, Nat.reduceSub, eI, eB, eR, eNs, eKr]; first | done | rfl) | omega)) (by rfl) ?_ | refine os_boxR (by simp only [pqs.down, tabs.down, ↓reduceIte, Nat.reduceEqDiff, Nat.reduceLT, Nat.reduceLeDiff, Nat.reduceAdd, Nat.reduceSub, eI, eB, eR, eNs, eKr]; first | done | rfl) (by intro j hj; (rcases j with _ | _ | _ | _ | _ | _ | _ | _ | _ | _ | _ | j) <;> first | (simp only [pqs.down, tabs.down, ↓reduceIte, Nat.reduceEqDiff, Nat.reduceLT, Nat.reduceLeDiff, Nat.reduceAdd, Nat.reduceSub, eI, eB, eR, eNs, eKr]; first | done | rfl) | omega) ?_ | refine os_none ?_ | refine os_vec' (by simp only [pqs.down, tabs.down, ↓reduceIte, Nat.reduceEqDiff, Nat.reduceLT, Nat.reduceLeDiff, Nat.reduceAdd, Nat.reduceSub, eI, eB, eR, eNs, eKr]; first | done | rfl) ?_ (fun _ _ _ _ => rfl) | refine os_vec' (by simp only [pqs.down, tabs.down, ↓reduceIte, Nat.reduceEqDiff, Nat.reduceLT, Nat.reduceLeDiff, Nat.reduceAdd, Nat.reduceSub, eI, eB, eR, eNs, eKr]; first | done | rfl) ?_ ?_)
              intro q j hq hj
              rw [getD_one A _ _ q hq]
              simp only [appF]
              split
              · rfl
              · have e0 : q - A.length = 0 := by simp at hq; omega
                rw [e0]
                rcases j with _ | j
                · simp [ovrE, ovr, cl, eI]
                · omega
            · (repeat (first | apply aw_seq | apply aw_block | apply aw_skip | apply aw_blk)); refine aq_region ?_; generalize hK : KA _ _ _ = K; simp only [pqs.down, tabs.down, ↓reduceIte, Nat.reduceEqDiff, Nat.reduceLT, Nat.reduceLeDiff, Nat.reduceAdd, Nat.reduceSub, eI, eB, eR, hw]; subst hK; unfold KA
              (repeat (first | apply aw_seq | apply aw_block | apply aw_skip | apply aw_blk)); refine out_nil ?_
              refine ⟨k + 1, by omega, by omega, ?_⟩
              rw [hno k h1]
              refine Le.to [some 0] rfl rfl (by decide) (by simp only [pqs.down, tabs.down, ↓reduceIte, Nat.reduceEqDiff, Nat.reduceLT, Nat.reduceLeDiff, Nat.reduceAdd, Nat.reduceSub, eI, eB, eR, eNs, eKr]; first | done | rfl | ((repeat' apply And.intro) <;> first | rfl | trivial | (simp; done) | (simp; omega))) ?_; (repeat first | exact os_nil | refine os_box (by simp only [pqs.down, tabs.down, ↓reduceIte, Nat.reduceEqDiff, Nat.reduceLT, Nat.reduceLeDiff, Nat.reduceAdd, Nat.reduceSub, eI, eB, eR, eNs, eKr]; first | done | rfl) (by first | (exact fun _ _ => rfl) | (intro j hj; (rcases j with _ | _ | _ | _ | _ | _ | _ | _ | _ | _ | _ | j) <;> first | (simp only [pqs.down, tabs.down, ↓reduceIte, Nat.reduceEqDiff, Nat.reduceLT, Nat.reduceLeDiff, Nat.reduceAdd, Nat.reduceSub, eI, eB, eR, eNs, eKr]; first | done | rfl) | omega)) (by rfl) ?_ | refine os_boxR (by simp only [pqs.down, tabs.down, ↓reduceIte, Nat.reduceEqDiff, Nat.reduceLT, Nat.reduceLeDiff, Nat.reduceAdd, Nat.reduceSub, eI, eB, eR, eNs, eKr]; first | done | rfl) (by intro j hj; (rcases j with _ | _ | _ | _ | _ | _ | _ | _ | _ | _ | _ | j) <;> first | (simp only [pqs.down, tabs.down, ↓reduceIte, Nat.reduceEqDiff, Nat.reduceLT, Nat.reduceLeDiff, Nat.reduceAdd, Nat.reduceSub, eI, eB, eR, eNs, eKr]; first | done | rfl) | omega) ?_ | refine os_none ?_ | refine os_vec' (by simp only [pqs.down, tabs.down, ↓reduceIte, Nat.reduceEqDiff, Nat.reduceLT, Nat.reduceLeDiff, Nat.reduceAdd, Nat.reduceSub, eI, eB, eR, eNs, eKr]; first | done | rfl) ?_ (fun _ _ _ _ => rfl) | refine os_vec' (by simp only [pqs.down, tabs.down, ↓reduceIte, Nat.reduceEqDiff, Nat.reduceLT, Nat.reduceLeDiff, Nat.reduceAdd, Nat.reduceSub, eI, eB, eR, eNs, eKr]; first | done | rfl) ?_ ?_)
        · refine aw_exit_out (by rfl) ?_; (repeat refine out_exit_out (by rfl) ?_); try (refine out_exit (by rfl) ?_)
          have hkk : k = b.length := by have := of_decide_eq_false hc; omega
          rw [hkk, hend]
          (repeat (first | apply aw_seq | apply aw_block | apply aw_skip | apply aw_blk)); refine aq_region ?_; generalize hK : KA _ _ _ = K; simp only [pqs.down, tabs.down, ↓reduceIte, Nat.reduceEqDiff, Nat.reduceLT, Nat.reduceLeDiff, Nat.reduceAdd, Nat.reduceSub, eI, eB, eR]; subst hK; unfold KA
          refine aw_ret ?_; (repeat refine out_ret ?_)
          simp only [pqs.down, tabs.down, ↓reduceIte, Nat.reduceEqDiff, Nat.reduceLT, Nat.reduceLeDiff, Nat.reduceAdd, Nat.reduceSub, eI, eB, eR, eNs]
          exact VLe.refl _

end Go.Proofs.YtkelageigeoajaaDoor
