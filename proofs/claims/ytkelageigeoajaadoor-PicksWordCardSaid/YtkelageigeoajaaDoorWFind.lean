/-
  The walks of 'props.of', 'props.find' and 'props.Of': what a sign is, by the package.
-/
import Derived.Test.YtkelageigeoajaaDoorWChunk
set_option linter.unusedSimpArgs false
set_option linter.unusedVariables false
namespace Go.Proofs.YtkelageigeoajaaDoor
open Go.Proofs.YtkelageigeoajaaDoor.Pg

set_option maxHeartbeats 4000000 in
set_option maxRecDepth 20000 in
theorem of_at0 (G : Nat → V) : Con Tryd.prog G 59 [eI 0] (.agg 220 (cChunk chunk0)) := by
  refine Con.of_body Tryd.func59 rfl (by kernel_rfl) (by rw [Tryd.ntmps59]; simp) ?_
  rw [Tryd.ntmps59, Tryd.results59]
  repeat' (first | apply aw_seq | apply aw_block | apply aw_skip | apply aw_blk | (refine aw_exit (by rfl) ?_) | (refine aq_region ?_; generalize hK : KA _ _ _ = K; simp only [pqs.down, tabs.down, ↓reduceIte, Nat.reduceEqDiff, Nat.reduceLT, Nat.reduceLeDiff, Nat.reduceAdd, Nat.reduceSub, eI, eB, eR, Int.reduceBEq]) | (refine aq_drawA (by kernel_rfl) (by decide +kernel) ?_; generalize hK : KA _ _ _ = K; simp only [pqs.down, tabs.down, ↓reduceIte, Nat.reduceEqDiff, Nat.reduceLT, Nat.reduceLeDiff, Nat.reduceAdd, Nat.reduceSub, eI, eB, eR, Int.reduceBEq]) | (refine guardT (fun hg => ?_) (fun hg => ?_) <;> simp only [pqs.down, tabs.down, ↓reduceIte, Nat.reduceEqDiff, Nat.reduceLT, Nat.reduceLeDiff, Nat.reduceAdd, Nat.reduceSub, eI, eB, eR, hg, Int.reduceBEq]) | (refine guardF (fun hg => ?_) (fun hg => ?_) <;> simp only [pqs.down, tabs.down, ↓reduceIte, Nat.reduceEqDiff, Nat.reduceLT, Nat.reduceLeDiff, Nat.reduceAdd, Nat.reduceSub, eI, eB, eR, hg, Int.reduceBEq]) | (refine call_imm (chunk0_con G) (by rfl) ?_; simp only [pqs.down, tabs.down, ↓reduceIte, Nat.reduceEqDiff, Nat.reduceLT, Nat.reduceLeDiff, Nat.reduceAdd, Nat.reduceSub, eI, eB, eR, Int.reduceBEq]) | (with_reducible refine And.intro ?_ ?_; · first | omega | rfl) | (subst hK; refine of_KA ?_) | (refine aw_cond (by simp only [pqs.down, tabs.down, ↓reduceIte, Nat.reduceEqDiff, Nat.reduceLT, Nat.reduceLeDiff, Nat.reduceAdd, Nat.reduceSub, eI, eB, eR, Int.reduceBEq]; exact rfl) (fun hc => ?_) (fun hc => ?_) <;> (try (first | (cases hc; done) | (exact absurd hc (by decide))))) | (refine aw_ret ?_))
  exact ret_cell (o := 0) sh65 rfl rfl (fun j hj => ovr_whole j hj) imm_chunk
set_option maxHeartbeats 4000000 in
set_option maxRecDepth 20000 in
theorem of_at1 (G : Nat → V) : Con Tryd.prog G 59 [eI 1] (.agg 220 (cChunk chunk1)) := by
  refine Con.of_body Tryd.func59 rfl (by kernel_rfl) (by rw [Tryd.ntmps59]; simp) ?_
  rw [Tryd.ntmps59, Tryd.results59]
  repeat' (first | apply aw_seq | apply aw_block | apply aw_skip | apply aw_blk | (refine aw_exit (by rfl) ?_) | (refine aq_region ?_; generalize hK : KA _ _ _ = K; simp only [pqs.down, tabs.down, ↓reduceIte, Nat.reduceEqDiff, Nat.reduceLT, Nat.reduceLeDiff, Nat.reduceAdd, Nat.reduceSub, eI, eB, eR, Int.reduceBEq]) | (refine aq_drawA (by kernel_rfl) (by decide +kernel) ?_; generalize hK : KA _ _ _ = K; simp only [pqs.down, tabs.down, ↓reduceIte, Nat.reduceEqDiff, Nat.reduceLT, Nat.reduceLeDiff, Nat.reduceAdd, Nat.reduceSub, eI, eB, eR, Int.reduceBEq]) | (refine guardT (fun hg => ?_) (fun hg => ?_) <;> simp only [pqs.down, tabs.down, ↓reduceIte, Nat.reduceEqDiff, Nat.reduceLT, Nat.reduceLeDiff, Nat.reduceAdd, Nat.reduceSub, eI, eB, eR, hg, Int.reduceBEq]) | (refine guardF (fun hg => ?_) (fun hg => ?_) <;> simp only [pqs.down, tabs.down, ↓reduceIte, Nat.reduceEqDiff, Nat.reduceLT, Nat.reduceLeDiff, Nat.reduceAdd, Nat.reduceSub, eI, eB, eR, hg, Int.reduceBEq]) | (refine call_imm (chunk1_con G) (by rfl) ?_; simp only [pqs.down, tabs.down, ↓reduceIte, Nat.reduceEqDiff, Nat.reduceLT, Nat.reduceLeDiff, Nat.reduceAdd, Nat.reduceSub, eI, eB, eR, Int.reduceBEq]) | (with_reducible refine And.intro ?_ ?_; · first | omega | rfl) | (subst hK; refine of_KA ?_) | (refine aw_cond (by simp only [pqs.down, tabs.down, ↓reduceIte, Nat.reduceEqDiff, Nat.reduceLT, Nat.reduceLeDiff, Nat.reduceAdd, Nat.reduceSub, eI, eB, eR, Int.reduceBEq]; exact rfl) (fun hc => ?_) (fun hc => ?_) <;> (try (first | (cases hc; done) | (exact absurd hc (by decide))))) | (refine aw_ret ?_))
  exact ret_cell (o := 0) sh65 rfl rfl (fun j hj => ovr_whole j hj) imm_chunk
set_option maxHeartbeats 4000000 in
set_option maxRecDepth 20000 in
theorem of_at2 (G : Nat → V) : Con Tryd.prog G 59 [eI 2] (.agg 220 (cChunk chunk2)) := by
  refine Con.of_body Tryd.func59 rfl (by kernel_rfl) (by rw [Tryd.ntmps59]; simp) ?_
  rw [Tryd.ntmps59, Tryd.results59]
  repeat' (first | apply aw_seq | apply aw_block | apply aw_skip | apply aw_blk | (refine aw_exit (by rfl) ?_) | (refine aq_region ?_; generalize hK : KA _ _ _ = K; simp only [pqs.down, tabs.down, ↓reduceIte, Nat.reduceEqDiff, Nat.reduceLT, Nat.reduceLeDiff, Nat.reduceAdd, Nat.reduceSub, eI, eB, eR, Int.reduceBEq]) | (refine aq_drawA (by kernel_rfl) (by decide +kernel) ?_; generalize hK : KA _ _ _ = K; simp only [pqs.down, tabs.down, ↓reduceIte, Nat.reduceEqDiff, Nat.reduceLT, Nat.reduceLeDiff, Nat.reduceAdd, Nat.reduceSub, eI, eB, eR, Int.reduceBEq]) | (refine guardT (fun hg => ?_) (fun hg => ?_) <;> simp only [pqs.down, tabs.down, ↓reduceIte, Nat.reduceEqDiff, Nat.reduceLT, Nat.reduceLeDiff, Nat.reduceAdd, Nat.reduceSub, eI, eB, eR, hg, Int.reduceBEq]) | (refine guardF (fun hg => ?_) (fun hg => ?_) <;> simp only [pqs.down, tabs.down, ↓reduceIte, Nat.reduceEqDiff, Nat.reduceLT, Nat.reduceLeDiff, Nat.reduceAdd, Nat.reduceSub, eI, eB, eR, hg, Int.reduceBEq]) | (refine call_imm (chunk2_con G) (by rfl) ?_; simp only [pqs.down, tabs.down, ↓reduceIte, Nat.reduceEqDiff, Nat.reduceLT, Nat.reduceLeDiff, Nat.reduceAdd, Nat.reduceSub, eI, eB, eR, Int.reduceBEq]) | (with_reducible refine And.intro ?_ ?_; · first | omega | rfl) | (subst hK; refine of_KA ?_) | (refine aw_cond (by simp only [pqs.down, tabs.down, ↓reduceIte, Nat.reduceEqDiff, Nat.reduceLT, Nat.reduceLeDiff, Nat.reduceAdd, Nat.reduceSub, eI, eB, eR, Int.reduceBEq]; exact rfl) (fun hc => ?_) (fun hc => ?_) <;> (try (first | (cases hc; done) | (exact absurd hc (by decide))))) | (refine aw_ret ?_))
  exact ret_cell (o := 0) sh65 rfl rfl (fun j hj => ovr_whole j hj) imm_chunk
set_option maxHeartbeats 4000000 in
set_option maxRecDepth 20000 in
theorem of_at3 (G : Nat → V) : Con Tryd.prog G 59 [eI 3] (.agg 220 (cChunk chunk3)) := by
  refine Con.of_body Tryd.func59 rfl (by kernel_rfl) (by rw [Tryd.ntmps59]; simp) ?_
  rw [Tryd.ntmps59, Tryd.results59]
  repeat' (first | apply aw_seq | apply aw_block | apply aw_skip | apply aw_blk | (refine aw_exit (by rfl) ?_) | (refine aq_region ?_; generalize hK : KA _ _ _ = K; simp only [pqs.down, tabs.down, ↓reduceIte, Nat.reduceEqDiff, Nat.reduceLT, Nat.reduceLeDiff, Nat.reduceAdd, Nat.reduceSub, eI, eB, eR, Int.reduceBEq]) | (refine aq_drawA (by kernel_rfl) (by decide +kernel) ?_; generalize hK : KA _ _ _ = K; simp only [pqs.down, tabs.down, ↓reduceIte, Nat.reduceEqDiff, Nat.reduceLT, Nat.reduceLeDiff, Nat.reduceAdd, Nat.reduceSub, eI, eB, eR, Int.reduceBEq]) | (refine guardT (fun hg => ?_) (fun hg => ?_) <;> simp only [pqs.down, tabs.down, ↓reduceIte, Nat.reduceEqDiff, Nat.reduceLT, Nat.reduceLeDiff, Nat.reduceAdd, Nat.reduceSub, eI, eB, eR, hg, Int.reduceBEq]) | (refine guardF (fun hg => ?_) (fun hg => ?_) <;> simp only [pqs.down, tabs.down, ↓reduceIte, Nat.reduceEqDiff, Nat.reduceLT, Nat.reduceLeDiff, Nat.reduceAdd, Nat.reduceSub, eI, eB, eR, hg, Int.reduceBEq]) | (refine call_imm (chunk3_con G) (by rfl) ?_; simp only [pqs.down, tabs.down, ↓reduceIte, Nat.reduceEqDiff, Nat.reduceLT, Nat.reduceLeDiff, Nat.reduceAdd, Nat.reduceSub, eI, eB, eR, Int.reduceBEq]) | (with_reducible refine And.intro ?_ ?_; · first | omega | rfl) | (subst hK; refine of_KA ?_) | (refine aw_cond (by simp only [pqs.down, tabs.down, ↓reduceIte, Nat.reduceEqDiff, Nat.reduceLT, Nat.reduceLeDiff, Nat.reduceAdd, Nat.reduceSub, eI, eB, eR, Int.reduceBEq]; exact rfl) (fun hc => ?_) (fun hc => ?_) <;> (try (first | (cases hc; done) | (exact absurd hc (by decide))))) | (refine aw_ret ?_))
  exact ret_cell (o := 0) sh65 rfl rfl (fun j hj => ovr_whole j hj) imm_chunk
set_option maxHeartbeats 4000000 in
set_option maxRecDepth 20000 in
theorem of_at4 (G : Nat → V) : Con Tryd.prog G 59 [eI 4] (.agg 220 (cChunk chunk4)) := by
  refine Con.of_body Tryd.func59 rfl (by kernel_rfl) (by rw [Tryd.ntmps59]; simp) ?_
  rw [Tryd.ntmps59, Tryd.results59]
  repeat' (first | apply aw_seq | apply aw_block | apply aw_skip | apply aw_blk | (refine aw_exit (by rfl) ?_) | (refine aq_region ?_; generalize hK : KA _ _ _ = K; simp only [pqs.down, tabs.down, ↓reduceIte, Nat.reduceEqDiff, Nat.reduceLT, Nat.reduceLeDiff, Nat.reduceAdd, Nat.reduceSub, eI, eB, eR, Int.reduceBEq]) | (refine aq_drawA (by kernel_rfl) (by decide +kernel) ?_; generalize hK : KA _ _ _ = K; simp only [pqs.down, tabs.down, ↓reduceIte, Nat.reduceEqDiff, Nat.reduceLT, Nat.reduceLeDiff, Nat.reduceAdd, Nat.reduceSub, eI, eB, eR, Int.reduceBEq]) | (refine guardT (fun hg => ?_) (fun hg => ?_) <;> simp only [pqs.down, tabs.down, ↓reduceIte, Nat.reduceEqDiff, Nat.reduceLT, Nat.reduceLeDiff, Nat.reduceAdd, Nat.reduceSub, eI, eB, eR, hg, Int.reduceBEq]) | (refine guardF (fun hg => ?_) (fun hg => ?_) <;> simp only [pqs.down, tabs.down, ↓reduceIte, Nat.reduceEqDiff, Nat.reduceLT, Nat.reduceLeDiff, Nat.reduceAdd, Nat.reduceSub, eI, eB, eR, hg, Int.reduceBEq]) | (refine call_imm (chunk4_con G) (by rfl) ?_; simp only [pqs.down, tabs.down, ↓reduceIte, Nat.reduceEqDiff, Nat.reduceLT, Nat.reduceLeDiff, Nat.reduceAdd, Nat.reduceSub, eI, eB, eR, Int.reduceBEq]) | (with_reducible refine And.intro ?_ ?_; · first | omega | rfl) | (subst hK; refine of_KA ?_) | (refine aw_cond (by simp only [pqs.down, tabs.down, ↓reduceIte, Nat.reduceEqDiff, Nat.reduceLT, Nat.reduceLeDiff, Nat.reduceAdd, Nat.reduceSub, eI, eB, eR, Int.reduceBEq]; exact rfl) (fun hc => ?_) (fun hc => ?_) <;> (try (first | (cases hc; done) | (exact absurd hc (by decide))))) | (refine aw_ret ?_))
  exact ret_cell (o := 0) sh65 rfl rfl (fun j hj => ovr_whole j hj) imm_chunk
set_option maxHeartbeats 4000000 in
set_option maxRecDepth 20000 in
theorem of_at5 (G : Nat → V) : Con Tryd.prog G 59 [eI 5] (.agg 220 (cChunk chunk5)) := by
  refine Con.of_body Tryd.func59 rfl (by kernel_rfl) (by rw [Tryd.ntmps59]; simp) ?_
  rw [Tryd.ntmps59, Tryd.results59]
  repeat' (first | apply aw_seq | apply aw_block | apply aw_skip | apply aw_blk | (refine aw_exit (by rfl) ?_) | (refine aq_region ?_; generalize hK : KA _ _ _ = K; simp only [pqs.down, tabs.down, ↓reduceIte, Nat.reduceEqDiff, Nat.reduceLT, Nat.reduceLeDiff, Nat.reduceAdd, Nat.reduceSub, eI, eB, eR, Int.reduceBEq]) | (refine aq_drawA (by kernel_rfl) (by decide +kernel) ?_; generalize hK : KA _ _ _ = K; simp only [pqs.down, tabs.down, ↓reduceIte, Nat.reduceEqDiff, Nat.reduceLT, Nat.reduceLeDiff, Nat.reduceAdd, Nat.reduceSub, eI, eB, eR, Int.reduceBEq]) | (refine guardT (fun hg => ?_) (fun hg => ?_) <;> simp only [pqs.down, tabs.down, ↓reduceIte, Nat.reduceEqDiff, Nat.reduceLT, Nat.reduceLeDiff, Nat.reduceAdd, Nat.reduceSub, eI, eB, eR, hg, Int.reduceBEq]) | (refine guardF (fun hg => ?_) (fun hg => ?_) <;> simp only [pqs.down, tabs.down, ↓reduceIte, Nat.reduceEqDiff, Nat.reduceLT, Nat.reduceLeDiff, Nat.reduceAdd, Nat.reduceSub, eI, eB, eR, hg, Int.reduceBEq]) | (refine call_imm (chunk5_con G) (by rfl) ?_; simp only [pqs.down, tabs.down, ↓reduceIte, Nat.reduceEqDiff, Nat.reduceLT, Nat.reduceLeDiff, Nat.reduceAdd, Nat.reduceSub, eI, eB, eR, Int.reduceBEq]) | (with_reducible refine And.intro ?_ ?_; · first | omega | rfl) | (subst hK; refine of_KA ?_) | (refine aw_cond (by simp only [pqs.down, tabs.down, ↓reduceIte, Nat.reduceEqDiff, Nat.reduceLT, Nat.reduceLeDiff, Nat.reduceAdd, Nat.reduceSub, eI, eB, eR, Int.reduceBEq]; exact rfl) (fun hc => ?_) (fun hc => ?_) <;> (try (first | (cases hc; done) | (exact absurd hc (by decide))))) | (refine aw_ret ?_))
  exact ret_cell (o := 0) sh65 rfl rfl (fun j hj => ovr_whole j hj) imm_chunk
set_option maxHeartbeats 4000000 in
set_option maxRecDepth 20000 in
theorem of_at6 (G : Nat → V) : Con Tryd.prog G 59 [eI 6] (.agg 220 (cChunk chunk6)) := by
  refine Con.of_body Tryd.func59 rfl (by kernel_rfl) (by rw [Tryd.ntmps59]; simp) ?_
  rw [Tryd.ntmps59, Tryd.results59]
  repeat' (first | apply aw_seq | apply aw_block | apply aw_skip | apply aw_blk | (refine aw_exit (by rfl) ?_) | (refine aq_region ?_; generalize hK : KA _ _ _ = K; simp only [pqs.down, tabs.down, ↓reduceIte, Nat.reduceEqDiff, Nat.reduceLT, Nat.reduceLeDiff, Nat.reduceAdd, Nat.reduceSub, eI, eB, eR, Int.reduceBEq]) | (refine aq_drawA (by kernel_rfl) (by decide +kernel) ?_; generalize hK : KA _ _ _ = K; simp only [pqs.down, tabs.down, ↓reduceIte, Nat.reduceEqDiff, Nat.reduceLT, Nat.reduceLeDiff, Nat.reduceAdd, Nat.reduceSub, eI, eB, eR, Int.reduceBEq]) | (refine guardT (fun hg => ?_) (fun hg => ?_) <;> simp only [pqs.down, tabs.down, ↓reduceIte, Nat.reduceEqDiff, Nat.reduceLT, Nat.reduceLeDiff, Nat.reduceAdd, Nat.reduceSub, eI, eB, eR, hg, Int.reduceBEq]) | (refine guardF (fun hg => ?_) (fun hg => ?_) <;> simp only [pqs.down, tabs.down, ↓reduceIte, Nat.reduceEqDiff, Nat.reduceLT, Nat.reduceLeDiff, Nat.reduceAdd, Nat.reduceSub, eI, eB, eR, hg, Int.reduceBEq]) | (refine call_imm (chunk6_con G) (by rfl) ?_; simp only [pqs.down, tabs.down, ↓reduceIte, Nat.reduceEqDiff, Nat.reduceLT, Nat.reduceLeDiff, Nat.reduceAdd, Nat.reduceSub, eI, eB, eR, Int.reduceBEq]) | (with_reducible refine And.intro ?_ ?_; · first | omega | rfl) | (subst hK; refine of_KA ?_) | (refine aw_cond (by simp only [pqs.down, tabs.down, ↓reduceIte, Nat.reduceEqDiff, Nat.reduceLT, Nat.reduceLeDiff, Nat.reduceAdd, Nat.reduceSub, eI, eB, eR, Int.reduceBEq]; exact rfl) (fun hc => ?_) (fun hc => ?_) <;> (try (first | (cases hc; done) | (exact absurd hc (by decide))))) | (refine aw_ret ?_))
  exact ret_cell (o := 0) sh65 rfl rfl (fun j hj => ovr_whole j hj) imm_chunk
set_option maxHeartbeats 4000000 in
set_option maxRecDepth 20000 in
theorem of_at7 (G : Nat → V) : Con Tryd.prog G 59 [eI 7] (.agg 220 (cChunk chunk7)) := by
  refine Con.of_body Tryd.func59 rfl (by kernel_rfl) (by rw [Tryd.ntmps59]; simp) ?_
  rw [Tryd.ntmps59, Tryd.results59]
  repeat' (first | apply aw_seq | apply aw_block | apply aw_skip | apply aw_blk | (refine aw_exit (by rfl) ?_) | (refine aq_region ?_; generalize hK : KA _ _ _ = K; simp only [pqs.down, tabs.down, ↓reduceIte, Nat.reduceEqDiff, Nat.reduceLT, Nat.reduceLeDiff, Nat.reduceAdd, Nat.reduceSub, eI, eB, eR, Int.reduceBEq]) | (refine aq_drawA (by kernel_rfl) (by decide +kernel) ?_; generalize hK : KA _ _ _ = K; simp only [pqs.down, tabs.down, ↓reduceIte, Nat.reduceEqDiff, Nat.reduceLT, Nat.reduceLeDiff, Nat.reduceAdd, Nat.reduceSub, eI, eB, eR, Int.reduceBEq]) | (refine guardT (fun hg => ?_) (fun hg => ?_) <;> simp only [pqs.down, tabs.down, ↓reduceIte, Nat.reduceEqDiff, Nat.reduceLT, Nat.reduceLeDiff, Nat.reduceAdd, Nat.reduceSub, eI, eB, eR, hg, Int.reduceBEq]) | (refine guardF (fun hg => ?_) (fun hg => ?_) <;> simp only [pqs.down, tabs.down, ↓reduceIte, Nat.reduceEqDiff, Nat.reduceLT, Nat.reduceLeDiff, Nat.reduceAdd, Nat.reduceSub, eI, eB, eR, hg, Int.reduceBEq]) | (refine call_imm (chunk7_con G) (by rfl) ?_; simp only [pqs.down, tabs.down, ↓reduceIte, Nat.reduceEqDiff, Nat.reduceLT, Nat.reduceLeDiff, Nat.reduceAdd, Nat.reduceSub, eI, eB, eR, Int.reduceBEq]) | (with_reducible refine And.intro ?_ ?_; · first | omega | rfl) | (subst hK; refine of_KA ?_) | (refine aw_cond (by simp only [pqs.down, tabs.down, ↓reduceIte, Nat.reduceEqDiff, Nat.reduceLT, Nat.reduceLeDiff, Nat.reduceAdd, Nat.reduceSub, eI, eB, eR, Int.reduceBEq]; exact rfl) (fun hc => ?_) (fun hc => ?_) <;> (try (first | (cases hc; done) | (exact absurd hc (by decide))))) | (refine aw_ret ?_))
  exact ret_cell (o := 0) sh65 rfl rfl (fun j hj => ovr_whole j hj) imm_chunk
set_option maxHeartbeats 4000000 in
set_option maxRecDepth 20000 in
theorem of_at8 (G : Nat → V) : Con Tryd.prog G 59 [eI 8] (.agg 220 (cChunk chunk8)) := by
  refine Con.of_body Tryd.func59 rfl (by kernel_rfl) (by rw [Tryd.ntmps59]; simp) ?_
  rw [Tryd.ntmps59, Tryd.results59]
  repeat' (first | apply aw_seq | apply aw_block | apply aw_skip | apply aw_blk | (refine aw_exit (by rfl) ?_) | (refine aq_region ?_; generalize hK : KA _ _ _ = K; simp only [pqs.down, tabs.down, ↓reduceIte, Nat.reduceEqDiff, Nat.reduceLT, Nat.reduceLeDiff, Nat.reduceAdd, Nat.reduceSub, eI, eB, eR, Int.reduceBEq]) | (refine aq_drawA (by kernel_rfl) (by decide +kernel) ?_; generalize hK : KA _ _ _ = K; simp only [pqs.down, tabs.down, ↓reduceIte, Nat.reduceEqDiff, Nat.reduceLT, Nat.reduceLeDiff, Nat.reduceAdd, Nat.reduceSub, eI, eB, eR, Int.reduceBEq]) | (refine guardT (fun hg => ?_) (fun hg => ?_) <;> simp only [pqs.down, tabs.down, ↓reduceIte, Nat.reduceEqDiff, Nat.reduceLT, Nat.reduceLeDiff, Nat.reduceAdd, Nat.reduceSub, eI, eB, eR, hg, Int.reduceBEq]) | (refine guardF (fun hg => ?_) (fun hg => ?_) <;> simp only [pqs.down, tabs.down, ↓reduceIte, Nat.reduceEqDiff, Nat.reduceLT, Nat.reduceLeDiff, Nat.reduceAdd, Nat.reduceSub, eI, eB, eR, hg, Int.reduceBEq]) | (refine call_imm (chunk8_con G) (by rfl) ?_; simp only [pqs.down, tabs.down, ↓reduceIte, Nat.reduceEqDiff, Nat.reduceLT, Nat.reduceLeDiff, Nat.reduceAdd, Nat.reduceSub, eI, eB, eR, Int.reduceBEq]) | (with_reducible refine And.intro ?_ ?_; · first | omega | rfl) | (subst hK; refine of_KA ?_) | (refine aw_cond (by simp only [pqs.down, tabs.down, ↓reduceIte, Nat.reduceEqDiff, Nat.reduceLT, Nat.reduceLeDiff, Nat.reduceAdd, Nat.reduceSub, eI, eB, eR, Int.reduceBEq]; exact rfl) (fun hc => ?_) (fun hc => ?_) <;> (try (first | (cases hc; done) | (exact absurd hc (by decide))))) | (refine aw_ret ?_))
  exact ret_cell (o := 0) sh65 rfl rfl (fun j hj => ovr_whole j hj) imm_chunk
set_option maxHeartbeats 4000000 in
set_option maxRecDepth 20000 in
theorem of_at9 (G : Nat → V) : Con Tryd.prog G 59 [eI 9] (.agg 220 (cChunk chunk9)) := by
  refine Con.of_body Tryd.func59 rfl (by kernel_rfl) (by rw [Tryd.ntmps59]; simp) ?_
  rw [Tryd.ntmps59, Tryd.results59]
  repeat' (first | apply aw_seq | apply aw_block | apply aw_skip | apply aw_blk | (refine aw_exit (by rfl) ?_) | (refine aq_region ?_; generalize hK : KA _ _ _ = K; simp only [pqs.down, tabs.down, ↓reduceIte, Nat.reduceEqDiff, Nat.reduceLT, Nat.reduceLeDiff, Nat.reduceAdd, Nat.reduceSub, eI, eB, eR, Int.reduceBEq]) | (refine aq_drawA (by kernel_rfl) (by decide +kernel) ?_; generalize hK : KA _ _ _ = K; simp only [pqs.down, tabs.down, ↓reduceIte, Nat.reduceEqDiff, Nat.reduceLT, Nat.reduceLeDiff, Nat.reduceAdd, Nat.reduceSub, eI, eB, eR, Int.reduceBEq]) | (refine guardT (fun hg => ?_) (fun hg => ?_) <;> simp only [pqs.down, tabs.down, ↓reduceIte, Nat.reduceEqDiff, Nat.reduceLT, Nat.reduceLeDiff, Nat.reduceAdd, Nat.reduceSub, eI, eB, eR, hg, Int.reduceBEq]) | (refine guardF (fun hg => ?_) (fun hg => ?_) <;> simp only [pqs.down, tabs.down, ↓reduceIte, Nat.reduceEqDiff, Nat.reduceLT, Nat.reduceLeDiff, Nat.reduceAdd, Nat.reduceSub, eI, eB, eR, hg, Int.reduceBEq]) | (refine call_imm (chunk9_con G) (by rfl) ?_; simp only [pqs.down, tabs.down, ↓reduceIte, Nat.reduceEqDiff, Nat.reduceLT, Nat.reduceLeDiff, Nat.reduceAdd, Nat.reduceSub, eI, eB, eR, Int.reduceBEq]) | (with_reducible refine And.intro ?_ ?_; · first | omega | rfl) | (subst hK; refine of_KA ?_) | (refine aw_cond (by simp only [pqs.down, tabs.down, ↓reduceIte, Nat.reduceEqDiff, Nat.reduceLT, Nat.reduceLeDiff, Nat.reduceAdd, Nat.reduceSub, eI, eB, eR, Int.reduceBEq]; exact rfl) (fun hc => ?_) (fun hc => ?_) <;> (try (first | (cases hc; done) | (exact absurd hc (by decide))))) | (refine aw_ret ?_))
  exact ret_cell (o := 0) sh65 rfl rfl (fun j hj => ovr_whole j hj) imm_chunk
set_option maxHeartbeats 4000000 in
set_option maxRecDepth 20000 in
theorem of_at10 (G : Nat → V) : Con Tryd.prog G 59 [eI 10] (.agg 220 (cChunk chunk10)) := by
  refine Con.of_body Tryd.func59 rfl (by kernel_rfl) (by rw [Tryd.ntmps59]; simp) ?_
  rw [Tryd.ntmps59, Tryd.results59]
  repeat' (first | apply aw_seq | apply aw_block | apply aw_skip | apply aw_blk | (refine aw_exit (by rfl) ?_) | (refine aq_region ?_; generalize hK : KA _ _ _ = K; simp only [pqs.down, tabs.down, ↓reduceIte, Nat.reduceEqDiff, Nat.reduceLT, Nat.reduceLeDiff, Nat.reduceAdd, Nat.reduceSub, eI, eB, eR, Int.reduceBEq]) | (refine aq_drawA (by kernel_rfl) (by decide +kernel) ?_; generalize hK : KA _ _ _ = K; simp only [pqs.down, tabs.down, ↓reduceIte, Nat.reduceEqDiff, Nat.reduceLT, Nat.reduceLeDiff, Nat.reduceAdd, Nat.reduceSub, eI, eB, eR, Int.reduceBEq]) | (refine guardT (fun hg => ?_) (fun hg => ?_) <;> simp only [pqs.down, tabs.down, ↓reduceIte, Nat.reduceEqDiff, Nat.reduceLT, Nat.reduceLeDiff, Nat.reduceAdd, Nat.reduceSub, eI, eB, eR, hg, Int.reduceBEq]) | (refine guardF (fun hg => ?_) (fun hg => ?_) <;> simp only [pqs.down, tabs.down, ↓reduceIte, Nat.reduceEqDiff, Nat.reduceLT, Nat.reduceLeDiff, Nat.reduceAdd, Nat.reduceSub, eI, eB, eR, hg, Int.reduceBEq]) | (refine call_imm (chunk10_con G) (by rfl) ?_; simp only [pqs.down, tabs.down, ↓reduceIte, Nat.reduceEqDiff, Nat.reduceLT, Nat.reduceLeDiff, Nat.reduceAdd, Nat.reduceSub, eI, eB, eR, Int.reduceBEq]) | (with_reducible refine And.intro ?_ ?_; · first | omega | rfl) | (subst hK; refine of_KA ?_) | (refine aw_cond (by simp only [pqs.down, tabs.down, ↓reduceIte, Nat.reduceEqDiff, Nat.reduceLT, Nat.reduceLeDiff, Nat.reduceAdd, Nat.reduceSub, eI, eB, eR, Int.reduceBEq]; exact rfl) (fun hc => ?_) (fun hc => ?_) <;> (try (first | (cases hc; done) | (exact absurd hc (by decide))))) | (refine aw_ret ?_))
  exact ret_cell (o := 0) sh65 rfl rfl (fun j hj => ovr_whole j hj) imm_chunk
set_option maxHeartbeats 4000000 in
set_option maxRecDepth 20000 in
theorem of_at11 (G : Nat → V) : Con Tryd.prog G 59 [eI 11] (.agg 220 (cChunk chunk11)) := by
  refine Con.of_body Tryd.func59 rfl (by kernel_rfl) (by rw [Tryd.ntmps59]; simp) ?_
  rw [Tryd.ntmps59, Tryd.results59]
  repeat' (first | apply aw_seq | apply aw_block | apply aw_skip | apply aw_blk | (refine aw_exit (by rfl) ?_) | (refine aq_region ?_; generalize hK : KA _ _ _ = K; simp only [pqs.down, tabs.down, ↓reduceIte, Nat.reduceEqDiff, Nat.reduceLT, Nat.reduceLeDiff, Nat.reduceAdd, Nat.reduceSub, eI, eB, eR, Int.reduceBEq]) | (refine aq_drawA (by kernel_rfl) (by decide +kernel) ?_; generalize hK : KA _ _ _ = K; simp only [pqs.down, tabs.down, ↓reduceIte, Nat.reduceEqDiff, Nat.reduceLT, Nat.reduceLeDiff, Nat.reduceAdd, Nat.reduceSub, eI, eB, eR, Int.reduceBEq]) | (refine guardT (fun hg => ?_) (fun hg => ?_) <;> simp only [pqs.down, tabs.down, ↓reduceIte, Nat.reduceEqDiff, Nat.reduceLT, Nat.reduceLeDiff, Nat.reduceAdd, Nat.reduceSub, eI, eB, eR, hg, Int.reduceBEq]) | (refine guardF (fun hg => ?_) (fun hg => ?_) <;> simp only [pqs.down, tabs.down, ↓reduceIte, Nat.reduceEqDiff, Nat.reduceLT, Nat.reduceLeDiff, Nat.reduceAdd, Nat.reduceSub, eI, eB, eR, hg, Int.reduceBEq]) | (refine call_imm (chunk11_con G) (by rfl) ?_; simp only [pqs.down, tabs.down, ↓reduceIte, Nat.reduceEqDiff, Nat.reduceLT, Nat.reduceLeDiff, Nat.reduceAdd, Nat.reduceSub, eI, eB, eR, Int.reduceBEq]) | (with_reducible refine And.intro ?_ ?_; · first | omega | rfl) | (subst hK; refine of_KA ?_) | (refine aw_cond (by simp only [pqs.down, tabs.down, ↓reduceIte, Nat.reduceEqDiff, Nat.reduceLT, Nat.reduceLeDiff, Nat.reduceAdd, Nat.reduceSub, eI, eB, eR, Int.reduceBEq]; exact rfl) (fun hc => ?_) (fun hc => ?_) <;> (try (first | (cases hc; done) | (exact absurd hc (by decide))))) | (refine aw_ret ?_))
  exact ret_cell (o := 0) sh65 rfl rfl (fun j hj => ovr_whole j hj) imm_chunk
set_option maxHeartbeats 4000000 in
set_option maxRecDepth 20000 in
theorem of_at12 (G : Nat → V) : Con Tryd.prog G 59 [eI 12] (.agg 220 (cChunk chunk12)) := by
  refine Con.of_body Tryd.func59 rfl (by kernel_rfl) (by rw [Tryd.ntmps59]; simp) ?_
  rw [Tryd.ntmps59, Tryd.results59]
  repeat' (first | apply aw_seq | apply aw_block | apply aw_skip | apply aw_blk | (refine aw_exit (by rfl) ?_) | (refine aq_region ?_; generalize hK : KA _ _ _ = K; simp only [pqs.down, tabs.down, ↓reduceIte, Nat.reduceEqDiff, Nat.reduceLT, Nat.reduceLeDiff, Nat.reduceAdd, Nat.reduceSub, eI, eB, eR, Int.reduceBEq]) | (refine aq_drawA (by kernel_rfl) (by decide +kernel) ?_; generalize hK : KA _ _ _ = K; simp only [pqs.down, tabs.down, ↓reduceIte, Nat.reduceEqDiff, Nat.reduceLT, Nat.reduceLeDiff, Nat.reduceAdd, Nat.reduceSub, eI, eB, eR, Int.reduceBEq]) | (refine guardT (fun hg => ?_) (fun hg => ?_) <;> simp only [pqs.down, tabs.down, ↓reduceIte, Nat.reduceEqDiff, Nat.reduceLT, Nat.reduceLeDiff, Nat.reduceAdd, Nat.reduceSub, eI, eB, eR, hg, Int.reduceBEq]) | (refine guardF (fun hg => ?_) (fun hg => ?_) <;> simp only [pqs.down, tabs.down, ↓reduceIte, Nat.reduceEqDiff, Nat.reduceLT, Nat.reduceLeDiff, Nat.reduceAdd, Nat.reduceSub, eI, eB, eR, hg, Int.reduceBEq]) | (refine call_imm (chunk12_con G) (by rfl) ?_; simp only [pqs.down, tabs.down, ↓reduceIte, Nat.reduceEqDiff, Nat.reduceLT, Nat.reduceLeDiff, Nat.reduceAdd, Nat.reduceSub, eI, eB, eR, Int.reduceBEq]) | (with_reducible refine And.intro ?_ ?_; · first | omega | rfl) | (subst hK; refine of_KA ?_) | (refine aw_cond (by simp only [pqs.down, tabs.down, ↓reduceIte, Nat.reduceEqDiff, Nat.reduceLT, Nat.reduceLeDiff, Nat.reduceAdd, Nat.reduceSub, eI, eB, eR, Int.reduceBEq]; exact rfl) (fun hc => ?_) (fun hc => ?_) <;> (try (first | (cases hc; done) | (exact absurd hc (by decide))))) | (refine aw_ret ?_))
  exact ret_cell (o := 0) sh65 rfl rfl (fun j hj => ovr_whole j hj) imm_chunk
theorem of_con (G : Nat → V) (k : Nat) (hk : k < 13) : Con Tryd.prog G 59 [eI k] (.agg 220 (cChunk (chunkAt k))) := by
  have h : k = 0 ∨ k = 1 ∨ k = 2 ∨ k = 3 ∨ k = 4 ∨ k = 5 ∨ k = 6 ∨ k = 7 ∨ k = 8 ∨ k = 9 ∨ k = 10 ∨ k = 11 ∨ k = 12 := by omega
  rcases h with rfl | rfl | rfl | rfl | rfl | rfl | rfl | rfl | rfl | rfl | rfl | rfl | rfl
  · exact of_at0 G
  · exact of_at1 G
  · exact of_at2 G
  · exact of_at3 G
  · exact of_at4 G
  · exact of_at5 G
  · exact of_at6 G
  · exact of_at7 G
  · exact of_at8 G
  · exact of_at9 G
  · exact of_at10 G
  · exact of_at11 G
  · exact of_at12 G

def findP (r : Int) : RowL × Bool :=
  match (List.range 260).find? (fun n => decide (r ≤ (rowAt n).to)) with
  | some n => (rowAt n, decide ((rowAt n).fr ≤ r))
  | none => (RowL.d, false)
theorem findP_at {r : Int} {n : Nat} (hn : n < 260) (hlow : ∀ j, j < n → (rowAt j).to < r) (hr : r ≤ (rowAt n).to) : findP r = (rowAt n, decide ((rowAt n).fr ≤ r)) := by
  have : (List.range 260).find? (fun n => decide (r ≤ (rowAt n).to)) = some n := by
    rw [find_at (d := 0) (k := n) (by simpa using hn) (fun j hj => by rw [range_getD _ _ (by omega)]; exact decide_eq_false (by have := hlow j hj; omega)) (by rw [range_getD _ _ hn]; exact decide_eq_true hr), range_getD _ _ hn]
  unfold findP
  rw [this]
theorem findP_none {r : Int} (h : ∀ j, j < 260 → (rowAt j).to < r) : findP r = (RowL.d, false) := by
  have : (List.range 260).find? (fun n => decide (r ≤ (rowAt n).to)) = none := by
    refine find_none (d := 0) fun j hj => ?_
    rw [List.length_range] at hj
    rw [range_getD _ _ hj]
    exact decide_eq_false (by have := h j hj; omega)
  unfold findP
  rw [this]
/-- Either way. -/
theorem findP_cases (r : Int) : (∃ n, n < 260 ∧ (∀ j, j < n → (rowAt j).to < r) ∧ r ≤ (rowAt n).to) ∨ ∀ j, j < 260 → (rowAt j).to < r := by
  by_cases h : ∃ n, n < 260 ∧ r ≤ (rowAt n).to
  · left
    obtain ⟨n, hn, hr⟩ := h
    induction n using Nat.strongRecOn with
    | ind n ih =>
      by_cases h2 : ∃ m, m < n ∧ r ≤ (rowAt m).to
      · obtain ⟨m, hm, hr'⟩ := h2
        exact ih m hm (by omega) hr'
      · exact ⟨n, hn, fun j hj => by
          rcases Int.lt_or_le (rowAt j).to r with h3 | h3
          · exact h3
          · exact absurd ⟨j, hj, h3⟩ h2, hr⟩
  · right
    intro j hj
    rcases Int.lt_or_le (rowAt j).to r with h3 | h3
    · exact h3
    · exact absurd ⟨j, hj, h3⟩ h
theorem rowAt_mem {n : Nat} (h : n < 260) : rowAt n ∈ tall := by
  rw [← tall_at h, List.getD, List.getElem?_eq_getElem (by rw [tall_len]; exact h)]
  exact List.getElem_mem _
theorem propOf_find (r : Int) : propOf r = (if (findP r).2 = true then fixP (findP r).1 r else restP) ∧ ((findP r).2 = true → (findP r).1.p.cl = 13 → (findP r).1.fr ≤ r ∧ r - (findP r).1.fr ≤ 100000) := by
  rcases findP_cases r with ⟨n, hn, hlow, hr⟩ | h
  · rw [findP_at hn hlow hr]
    have hf := find_row hn hlow hr
    refine ⟨?_, fun h1 h2 => ?_⟩
    · unfold propOf
      rw [hf]
      by_cases hfr : (rowAt n).fr ≤ r
      · rw [if_pos hfr]
        simp only [decide_eq_true hfr, if_true]
      · rw [if_neg hfr]
        simp only [decide_eq_false hfr, Bool.false_eq_true, if_false]
    · have h3 := of_decide_eq_true h1
      have h4 := (cl_of (rowAt_mem hn)).2.2 h2
      simp only at h3 h4 ⊢
      omega
  · rw [findP_none h]
    refine ⟨?_, fun h1 => by cases h1⟩
    unfold propOf
    rw [find_row_none h]
    rfl
theorem row_of {c i : Nat} (hi : i < 20) : rowAt (20 * c + i) = (chunkAt c).getD i RowL.d := by
  unfold rowAt
  rw [show (20 * c + i) / 20 = c by omega, show (20 * c + i) % 20 = i by omega]
theorem cell_of {c i j : Nat} (hi : i < 20) (hj : j < 11) : cChunk (chunkAt c) (i * 11 + j) = cRow (rowAt (20 * c + i)) j := by
  unfold cChunk
  rw [row_of hi, show (i * 11 + j) / 11 = i by omega, show (i * 11 + j) % 11 = j by omega]
theorem low_all {r : Int} {c i : Nat} (hc : c < 13) (hi : i < 20) (h1 : ∀ j, j < c → lastAt j < r) (h2 : ∀ j, j < i → (rowAt (20 * c + j)).to < r) : ∀ j, j < 20 * c + i → (rowAt j).to < r := by
  intro j hj
  by_cases h : j < 20 * c
  · have h3 := h1 (j / 20) (by omega)
    rw [last_at (by omega)] at h3
    have h4 := row_to_mono (i := j) (j := 20 * (j / 20) + 19) (by omega) (by omega)
    omega
  · have := h2 (j - 20 * c) (by omega)
    rw [show 20 * c + (j - 20 * c) = j by omega] at this
    exact this
theorem half_nat (a b : Nat) : ((a : Int) + b).tdiv 2 = (((a + b) / 2 : Nat) : Int) := by
  rw [Int.tdiv_eq_ediv_of_nonneg (by omega)]; omega
/-- The package-level table, as it stands. -/
def gLasts : V := .cp 13 fun i => eR (lastAt i)

set_option maxHeartbeats 4000000 in
set_option maxRecDepth 20000 in
theorem find_con (G : Nat → V) (hG : G 0 = gLasts) (r : Int) : Con Tryd.prog G 35 [eR r] (.tup 2 (cl [.agg 11 (cRow (findP r).1), eB (findP r).2])) := by
  refine Con.of_body Tryd.func35 rfl (by kernel_rfl) (by rw [Tryd.ntmps35]; simp) ?_
  rw [Tryd.ntmps35, Tryd.results35]
  (repeat (first | apply aw_seq | apply aw_block | apply aw_skip | apply aw_blk)); refine aq_region ?_; generalize hK : KA _ _ _ = K; simp only [pqs.down, tabs.down, ↓reduceIte, Nat.reduceEqDiff, Nat.reduceLT, Nat.reduceLeDiff, Nat.reduceAdd, Nat.reduceSub, eI, eB, eR]; subst hK; unfold KA
  refine aw_le (st' := St.mk' 54 G [(0, eR r), (2, .ptr 0 0 0)] [.box 57 11 (cRow RowL.d)]) ?_ ?_
  · refine Le.to [some 0] rfl rfl (by decide) (by simp only [pqs.down, tabs.down, ↓reduceIte, Nat.reduceEqDiff, Nat.reduceLT, Nat.reduceLeDiff, Nat.reduceAdd, Nat.reduceSub, eI, eB, eR, RowL.d, cRow]; first | done | rfl | ((repeat' apply And.intro) <;> first | rfl | trivial | (simp; done) | (simp; omega))) ?_; (repeat first | exact os_nil | refine os_box (by simp only [pqs.down, tabs.down, ↓reduceIte, Nat.reduceEqDiff, Nat.reduceLT, Nat.reduceLeDiff, Nat.reduceAdd, Nat.reduceSub, eI, eB, eR, RowL.d, cRow]; first | done | rfl) (by first | (exact fun _ _ => rfl) | (intro j hj; (rcases j with _ | _ | _ | _ | _ | _ | _ | _ | _ | _ | _ | j) <;> first | (simp only [pqs.down, tabs.down, ↓reduceIte, Nat.reduceEqDiff, Nat.reduceLT, Nat.reduceLeDiff, Nat.reduceAdd, Nat.reduceSub, eI, eB, eR, RowL.d, cRow]; first | done | rfl) | omega)) (by rfl) ?_ | refine os_boxR (by simp only [pqs.down, tabs.down, ↓reduceIte, Nat.reduceEqDiff, Nat.reduceLT, Nat.reduceLeDiff, Nat.reduceAdd, Nat.reduceSub, eI, eB, eR, RowL.d, cRow]; first | done | rfl) (by intro j hj; (rcases j with _ | _ | _ | _ | _ | _ | _ | _ | _ | _ | _ | j) <;> first | (simp only [pqs.down, tabs.down, ↓reduceIte, Nat.reduceEqDiff, Nat.reduceLT, Nat.reduceLeDiff, Nat.reduceAdd, Nat.reduceSub, eI, eB, eR, RowL.d, cRow]; first | done | rfl) | omega) ?_ | refine os_none ?_ | refine os_vec' (by simp only [pqs.down, tabs.down, ↓reduceIte, Nat.reduceEqDiff, Nat.reduceLT, Nat.reduceLeDiff, Nat.reduceAdd, Nat.reduceSub, eI, eB, eR, RowL.d, cRow]; first | done | rfl) ?_ (fun _ _ _ _ => rfl) | refine os_vec' (by simp only [pqs.down, tabs.down, ↓reduceIte, Nat.reduceEqDiff, Nat.reduceLT, Nat.reduceLeDiff, Nat.reduceAdd, Nat.reduceSub, eI, eB, eR, RowL.d, cRow]; first | done | rfl) ?_ ?_)
  (repeat (first | apply aw_seq | apply aw_block | apply aw_skip | apply aw_blk)); refine aq_region ?_; generalize hK : KA _ _ _ = K; simp only [pqs.down, tabs.down, ↓reduceIte, Nat.reduceEqDiff, Nat.reduceLT, Nat.reduceLeDiff, Nat.reduceAdd, Nat.reduceSub, eI, eB, eR]; subst hK; unfold KA
  (repeat (first | apply aw_seq | apply aw_block | apply aw_skip | apply aw_blk))
  refine aw_loop (fun x : Nat × Nat => St.mk' 54 G [(0, eR r), (2, .ptr 0 0 0), (4, eI x.1), (5, eI x.2)] [.box 57 11 (cRow RowL.d)]) (fun x => x.1 ≤ x.2 ∧ x.2 ≤ 13 ∧ (∀ j, j < x.1 → lastAt j < r) ∧ ∀ j, x.2 ≤ j → j < 13 → r ≤ lastAt j) (fun x => x.2 - x.1) (0, 13) ⟨by omega, by omega, fun j hj => by simp at hj, fun j h1 h2 => by simp at h1; omega⟩ ?_ ?_
  · refine Le.to [some 0] rfl rfl (by decide) (by simp only [pqs.down, tabs.down, ↓reduceIte, Nat.reduceEqDiff, Nat.reduceLT, Nat.reduceLeDiff, Nat.reduceAdd, Nat.reduceSub, eI, eB, eR, cRow]; first | done | rfl | ((repeat' apply And.intro) <;> first | rfl | trivial | (simp; done) | (simp; omega))) ?_; (repeat first | exact os_nil | refine os_box (by simp only [pqs.down, tabs.down, ↓reduceIte, Nat.reduceEqDiff, Nat.reduceLT, Nat.reduceLeDiff, Nat.reduceAdd, Nat.reduceSub, eI, eB, eR, cRow]; first | done | rfl) (by first | (exact fun _ _ => rfl) | (intro j hj; (rcases j with _ | _ | _ | _ | _ | _ | _ | _ | _ | _ | _ | j) <;> first | (simp only [pqs.down, tabs.down, ↓reduceIte, Nat.reduceEqDiff, Nat.reduceLT, Nat.reduceLeDiff, Nat.reduceAdd, Nat.reduceSub, eI, eB, eR, cRow]; first | done | rfl) | omega)) (by rfl) ?_ | refine os_boxR (by simp only [pqs.down, tabs.down, ↓reduceIte, Nat.reduceEqDiff, Nat.reduceLT, Nat.reduceLeDiff, Nat.reduceAdd, Nat.reduceSub, eI, eB, eR, cRow]; first | done | rfl) (by intro j hj; (rcases j with _ | _ | _ | _ | _ | _ | _ | _ | _ | _ | _ | j) <;> first | (simp only [pqs.down, tabs.down, ↓reduceIte, Nat.reduceEqDiff, Nat.reduceLT, Nat.reduceLeDiff, Nat.reduceAdd, Nat.reduceSub, eI, eB, eR, cRow]; first | done | rfl) | omega) ?_ | refine os_none ?_ | refine os_vec' (by simp only [pqs.down, tabs.down, ↓reduceIte, Nat.reduceEqDiff, Nat.reduceLT, Nat.reduceLeDiff, Nat.reduceAdd, Nat.reduceSub, eI, eB, eR, cRow]; first | done | rfl) ?_ (fun _ _ _ _ => rfl) | refine os_vec' (by simp only [pqs.down, tabs.down, ↓reduceIte, Nat.reduceEqDiff, Nat.reduceLT, Nat.reduceLeDiff, Nat.reduceAdd, Nat.reduceSub, eI, eB, eR, cRow]; first | done | rfl) ?_ ?_)
  · intro ⟨lo, hi⟩ ⟨h1, h2, h3, h4⟩
    simp only at h1 h2 h3 h4 ⊢
    have hw1 := wrap64_id (x := (lo : Int) + hi) (by omega) (by omega)
    have hw2 := half_nat lo hi
    have hw3 := wrap64_id (x := (((lo + hi) / 2 : Nat) : Int)) (by omega) (by omega)
    have hw4 := wrap64_id (x := (((lo + hi) / 2 : Nat) : Int) + 1) (by omega) (by omega)
    (repeat (first | apply aw_seq | apply aw_block | apply aw_skip | apply aw_blk)); refine aq_region ?_; generalize hK : KA _ _ _ = K; simp only [pqs.down, tabs.down, ↓reduceIte, Nat.reduceEqDiff, Nat.reduceLT, Nat.reduceLeDiff, Nat.reduceAdd, Nat.reduceSub, eI, eB, eR]; subst hK; unfold KA
    (repeat (first | apply aw_seq | apply aw_block | apply aw_skip | apply aw_blk)); refine aw_cond (t := decide ((lo : Int) < hi)) (by simp only [pqs.down, tabs.down, ↓reduceIte, Nat.reduceEqDiff, Nat.reduceLT, Nat.reduceLeDiff, Nat.reduceAdd, Nat.reduceSub, eI, eB, eR]) (fun hc => ?_) (fun hc => ?_)
    · have hlt : lo < hi := by have := of_decide_eq_true hc; omega
      have hml : lo ≤ (lo + hi) / 2 := by omega
      have hmh : (lo + hi) / 2 < hi := by omega
      (repeat (first | apply aw_seq | apply aw_block | apply aw_skip | apply aw_blk)); refine aq_region ?_; generalize hK : KA _ _ _ = K; simp only [pqs.down, tabs.down, ↓reduceIte, Nat.reduceEqDiff, Nat.reduceLT, Nat.reduceLeDiff, Nat.reduceAdd, Nat.reduceSub, eI, eB, eR, hw1, hw2, hw3]; subst hK; unfold KA
      refine ⟨by simp, ?_⟩
      generalize hmid : (lo + hi) / 2 = mid at hml hmh hw3 hw4 ⊢
      (repeat (first | apply aw_seq | apply aw_block | apply aw_skip | apply aw_blk)); refine aq_region ?_; generalize hK : KA _ _ _ = K; simp only [pqs.down, tabs.down, ↓reduceIte, Nat.reduceEqDiff, Nat.reduceLT, Nat.reduceLeDiff, Nat.reduceAdd, Nat.reduceSub, eI, eB, eR, hG, gLasts, Nat.mul_one, Nat.add_zero]; subst hK; unfold KA
      (repeat refine ⟨by first | omega | rfl, ?_⟩)
      (repeat (first | apply aw_seq | apply aw_block | apply aw_skip | apply aw_blk)); refine aw_cond (t := decide (lastAt mid < r)) (by simp only [pqs.down, tabs.down, ↓reduceIte, Nat.reduceEqDiff, Nat.reduceLT, Nat.reduceLeDiff, Nat.reduceAdd, Nat.reduceSub, eI, eB, eR]) (fun hc2 => ?_) (fun hc2 => ?_)
      · have hlr := of_decide_eq_true hc2
        (repeat (first | apply aw_seq | apply aw_block | apply aw_skip | apply aw_blk)); refine aq_region ?_; generalize hK : KA _ _ _ = K; simp only [pqs.down, tabs.down, ↓reduceIte, Nat.reduceEqDiff, Nat.reduceLT, Nat.reduceLeDiff, Nat.reduceAdd, Nat.reduceSub, eI, eB, eR, hw4]; subst hK; unfold KA
        (repeat (first | apply aw_seq | apply aw_block | apply aw_skip | apply aw_blk)); refine out_nil ?_
        refine ⟨(mid + 1, hi), ⟨by simp only; omega, h2, fun j hj => ?_, h4⟩, by simp only; omega, ?_⟩
        · simp only at hj
          have e1 := last_at (c := j) (by omega)
          have e2 := last_at (c := mid) (by omega)
          have e3 := row_to_mono (i := 20 * j + 19) (j := 20 * mid + 19) (by omega) (by omega)
          omega
        · refine Le.to [some 0] rfl rfl (by decide) (by simp only [pqs.down, tabs.down, ↓reduceIte, Nat.reduceEqDiff, Nat.reduceLT, Nat.reduceLeDiff, Nat.reduceAdd, Nat.reduceSub, eI, eB, eR, cRow]; first | done | rfl | ((repeat' apply And.intro) <;> first | rfl | trivial | (simp; done) | (simp; omega))) ?_; (repeat first | exact os_nil | refine os_box (by simp only [pqs.down, tabs.down, ↓reduceIte, Nat.reduceEqDiff, Nat.reduceLT, Nat.reduceLeDiff, Nat.reduceAdd, Nat.reduceSub, eI, eB, eR, cRow]; first | done | rfl) (by first | (exact fun _ _ => rfl) | (intro j hj; (rcases j with _ | _ | _ | _ | _ | _ | _ | _ | _ | _ | _ | j) <;> first | (simp only [pqs.down, tabs.down, ↓reduceIte, Nat.reduceEqDiff, Nat.reduceLT, Nat.reduceLeDiff, Nat.reduceAdd, Nat.reduceSub, eI, eB, eR, cRow]; first | done | rfl) | omega)) (by rfl) ?_ | refine os_boxR (by simp only [pqs.down, tabs.down, ↓reduceIte, Nat.reduceEqDiff, Nat.reduceLT, Nat.reduceLeDiff, Nat.reduceAdd, Nat.reduceSub, eI, eB, eR, cRow]; first | done | rfl) (by intro j hj; (rcases j with _ | _ | _ | _ | _ | _ | _ | _ | _ | _ | _ | j) <;> first | (simp only [pqs.down, tabs.down, ↓reduceIte, Nat.reduceEqDiff, Nat.reduceLT, Nat.reduceLeDiff, Nat.reduceAdd, Nat.reduceSub, eI, eB, eR, cRow]; first | done | rfl) | omega) ?_ | refine os_none ?_ | refine os_vec' (by simp only [pqs.down, tabs.down, ↓reduceIte, Nat.reduceEqDiff, Nat.reduceLT, Nat.reduceLeDiff, Nat.reduceAdd, Nat.reduceSub, eI, eB, eR, cRow]; first | done | rfl) ?_ (fun _ _ _ _ => rfl) | refine os_vec' (by simp only [pqs.down, tabs.down, ↓reduceIte, Nat.reduceEqDiff, Nat.reduceLT, Nat.reduceLeDiff, Nat.reduceAdd, Nat.reduceSub, eI, eB, eR, cRow]; first | done | rfl) ?_ ?_)
      · have hlr := of_decide_eq_false hc2
        (repeat (first | apply aw_seq | apply aw_block | apply aw_skip | apply aw_blk)); refine aq_region ?_; generalize hK : KA _ _ _ = K; simp only [pqs.down, tabs.down, ↓reduceIte, Nat.reduceEqDiff, Nat.reduceLT, Nat.reduceLeDiff, Nat.reduceAdd, Nat.reduceSub, eI, eB, eR]; subst hK; unfold KA
        (repeat (first | apply aw_seq | apply aw_block | apply aw_skip | apply aw_blk)); refine out_nil ?_
        refine ⟨(lo, mid), ⟨by simp only; omega, by simp only; omega, h3, fun j hj hj2 => ?_⟩, by simp only; omega, ?_⟩
        · simp only at hj
          have e1 := last_at (c := j) (by omega)
          have e2 := last_at (c := mid) (by omega)
          have e3 := row_to_mono (i := 20 * mid + 19) (j := 20 * j + 19) (by omega) (by omega)
          omega
        · refine Le.to [some 0] rfl rfl (by decide) (by simp only [pqs.down, tabs.down, ↓reduceIte, Nat.reduceEqDiff, Nat.reduceLT, Nat.reduceLeDiff, Nat.reduceAdd, Nat.reduceSub, eI, eB, eR, cRow]; first | done | rfl | ((repeat' apply And.intro) <;> first | rfl | trivial | (simp; done) | (simp; omega))) ?_; (repeat first | exact os_nil | refine os_box (by simp only [pqs.down, tabs.down, ↓reduceIte, Nat.reduceEqDiff, Nat.reduceLT, Nat.reduceLeDiff, Nat.reduceAdd, Nat.reduceSub, eI, eB, eR, cRow]; first | done | rfl) (by first | (exact fun _ _ => rfl) | (intro j hj; (rcases j with _ | _ | _ | _ | _ | _ | _ | _ | _ | _ | _ | j) <;> first | (simp only [pqs.down, tabs.down, ↓reduceIte, Nat.reduceEqDiff, Nat.reduceLT, Nat.reduceLeDiff, Nat.reduceAdd, Nat.reduceSub, eI, eB, eR, cRow]; first | done | rfl) | omega)) (by rfl) ?_ | refine os_boxR (by simp only [pqs.down, tabs.down, ↓reduceIte, Nat.reduceEqDiff, Nat.reduceLT, Nat.reduceLeDiff, Nat.reduceAdd, Nat.reduceSub, eI, eB, eR, cRow]; first | done | rfl) (by intro j hj; (rcases j with _ | _ | _ | _ | _ | _ | _ | _ | _ | _ | _ | j) <;> first | (simp only [pqs.down, tabs.down, ↓reduceIte, Nat.reduceEqDiff, Nat.reduceLT, Nat.reduceLeDiff, Nat.reduceAdd, Nat.reduceSub, eI, eB, eR, cRow]; first | done | rfl) | omega) ?_ | refine os_none ?_ | refine os_vec' (by simp only [pqs.down, tabs.down, ↓reduceIte, Nat.reduceEqDiff, Nat.reduceLT, Nat.reduceLeDiff, Nat.reduceAdd, Nat.reduceSub, eI, eB, eR, cRow]; first | done | rfl) ?_ (fun _ _ _ _ => rfl) | refine os_vec' (by simp only [pqs.down, tabs.down, ↓reduceIte, Nat.reduceEqDiff, Nat.reduceLT, Nat.reduceLeDiff, Nat.reduceAdd, Nat.reduceSub, eI, eB, eR, cRow]; first | done | rfl) ?_ ?_)
    · refine aw_exit_out (by rfl) ?_; (repeat refine out_exit_out (by rfl) ?_); try (refine out_exit (by rfl) ?_)
      have he : lo = hi := by have := of_decide_eq_false hc; omega
      subst he
      (repeat (first | apply aw_seq | apply aw_block | apply aw_skip | apply aw_blk)); refine aq_region ?_; generalize hK : KA _ _ _ = K; simp only [pqs.down, tabs.down, ↓reduceIte, Nat.reduceEqDiff, Nat.reduceLT, Nat.reduceLeDiff, Nat.reduceAdd, Nat.reduceSub, eI, eB, eR]; subst hK; unfold KA
      (repeat (first | apply aw_seq | apply aw_block | apply aw_skip | apply aw_blk)); refine aw_cond (t := ((lo : Int) == 13)) (by simp only [pqs.down, tabs.down, ↓reduceIte, Nat.reduceEqDiff, Nat.reduceLT, Nat.reduceLeDiff, Nat.reduceAdd, Nat.reduceSub, eI, eB, eR]) (fun hc2 => ?_) (fun hc2 => ?_)
      · have hl : lo = 13 := by have := eq_of_beq hc2; omega
        subst hl
        have hn : findP r = (RowL.d, false) := findP_none fun j hj => by
          have e1 := h3 (j / 20) (by omega)
          rw [last_at (by omega)] at e1
          have e2 := row_to_mono (i := j) (j := 20 * (j / 20) + 19) (by omega) (by omega)
          omega
        (repeat (first | apply aw_seq | apply aw_block | apply aw_skip | apply aw_blk)); refine aq_region ?_; generalize hK : KA _ _ _ = K; simp only [pqs.down, tabs.down, ↓reduceIte, Nat.reduceEqDiff, Nat.reduceLT, Nat.reduceLeDiff, Nat.reduceAdd, Nat.reduceSub, eI, eB, eR, cRow]; subst hK; unfold KA
        refine aw_ret ?_; (repeat refine out_ret ?_)
        rw [hn]
        simp only [pqs.down, tabs.down, ↓reduceIte, Nat.reduceEqDiff, Nat.reduceLT, Nat.reduceLeDiff, Nat.reduceAdd, Nat.reduceSub, eI, eB, eR]
        refine VLe.tup fun j hj => ?_
        rcases j with _ | _ | j
        · simp only [pqs.down, tabs.down, ↓reduceIte, Nat.reduceEqDiff, Nat.reduceLT, Nat.reduceLeDiff, Nat.reduceAdd, Nat.reduceSub, eI, eB, eR]
          refine vle_agg fun j hj => ?_
          (rcases j with _ | _ | _ | _ | _ | _ | _ | _ | _ | _ | _ | j) <;> first | rfl | omega
        · exact VLe.refl _
        · omega
      · have hl : lo < 13 := by
          have := beq_eq_false_iff_ne.1 hc2
          omega
        (repeat (first | apply aw_seq | apply aw_block | apply aw_skip | apply aw_blk)); refine aq_region ?_; generalize hK : KA _ _ _ = K; simp only [pqs.down, tabs.down, ↓reduceIte, Nat.reduceEqDiff, Nat.reduceLT, Nat.reduceLeDiff, Nat.reduceAdd, Nat.reduceSub, eI, eB, eR]
        refine call_imm (of_con G lo hl) (by rfl) ?_
        simp only [pqs.down, tabs.down, ↓reduceIte, Nat.reduceEqDiff, Nat.reduceLT, Nat.reduceLeDiff, Nat.reduceAdd, Nat.reduceSub, eI, eB, eR]
        subst hK; unfold KA
        refine aw_le (st' := St.mk' 54 G [(0, eR r), (2, .ptr 0 0 0), (7, .ptr 1 0 0)] [.box 57 11 (cRow RowL.d), .box 65 220 (cChunk (chunkAt lo))]) ?_ ?_
        · refine Le.to [some 0, some 1] rfl rfl (by decide) (by simp only [pqs.down, tabs.down, ↓reduceIte, Nat.reduceEqDiff, Nat.reduceLT, Nat.reduceLeDiff, Nat.reduceAdd, Nat.reduceSub, eI, eB, eR]) ?_
          refine os_box (by simp only [pqs.down, tabs.down, ↓reduceIte, Nat.reduceEqDiff, Nat.reduceLT, Nat.reduceLeDiff, Nat.reduceAdd, Nat.reduceSub, eI, eB, eR]) (fun j hj => rfl) (by rfl) ?_
          exact os_boxR (by simp only [pqs.down, tabs.down, ↓reduceIte, Nat.reduceEqDiff, Nat.reduceLT, Nat.reduceLeDiff, Nat.reduceAdd, Nat.reduceSub, eI, eB, eR]; rfl) (fun j hj => by rw [ovr_whole j hj]; exact ren_imm1 (imm_chunk j hj)) os_nil
        (repeat (first | apply aw_seq | apply aw_block | apply aw_skip | apply aw_blk)); refine aq_region ?_; generalize hK : KA _ _ _ = K; simp only [pqs.down, tabs.down, ↓reduceIte, Nat.reduceEqDiff, Nat.reduceLT, Nat.reduceLeDiff, Nat.reduceAdd, Nat.reduceSub, eI, eB, eR]; subst hK; unfold KA
        (repeat (first | apply aw_seq | apply aw_block | apply aw_skip | apply aw_blk))
        refine aw_loop (fun x : Nat × Nat => St.mk' 54 G [(0, eR r), (2, .ptr 0 0 0), (7, .ptr 1 0 0), (4, eI x.1), (5, eI x.2)] [.box 57 11 (cRow RowL.d), .box 65 220 (cChunk (chunkAt lo))]) (fun x => x.1 ≤ x.2 ∧ x.2 ≤ 19 ∧ (∀ j, j < x.1 → (rowAt (20 * lo + j)).to < r) ∧ ∀ j, x.2 ≤ j → j < 20 → r ≤ (rowAt (20 * lo + j)).to) (fun x => x.2 - x.1) (0, 19) ⟨by omega, by omega, fun j hj => by simp at hj, fun j k1 k2 => ?_⟩ ?_ ?_
        · simp only at k1
          have : j = 19 := by omega
          subst this
          have e1 := h4 lo (by omega) hl
          rw [last_at hl] at e1
          exact e1
        · refine Le.to [some 0, some 1] rfl rfl (by decide) (by simp only [pqs.down, tabs.down, ↓reduceIte, Nat.reduceEqDiff, Nat.reduceLT, Nat.reduceLeDiff, Nat.reduceAdd, Nat.reduceSub, eI, eB, eR, cRow]; first | done | rfl | ((repeat' apply And.intro) <;> first | rfl | trivial | (simp; done) | (simp; omega))) ?_; (repeat first | exact os_nil | refine os_box (by simp only [pqs.down, tabs.down, ↓reduceIte, Nat.reduceEqDiff, Nat.reduceLT, Nat.reduceLeDiff, Nat.reduceAdd, Nat.reduceSub, eI, eB, eR, cRow]; first | done | rfl) (by first | (exact fun _ _ => rfl) | (intro j hj; (rcases j with _ | _ | _ | _ | _ | _ | _ | _ | _ | _ | _ | j) <;> first | (simp only [pqs.down, tabs.down, ↓reduceIte, Nat.reduceEqDiff, Nat.reduceLT, Nat.reduceLeDiff, Nat.reduceAdd, Nat.reduceSub, eI, eB, eR, cRow]; first | done | rfl) | omega)) (by rfl) ?_ | refine os_boxR (by simp only [pqs.down, tabs.down, ↓reduceIte, Nat.reduceEqDiff, Nat.reduceLT, Nat.reduceLeDiff, Nat.reduceAdd, Nat.reduceSub, eI, eB, eR, cRow]; first | done | rfl) (by intro j hj; (rcases j with _ | _ | _ | _ | _ | _ | _ | _ | _ | _ | _ | j) <;> first | (simp only [pqs.down, tabs.down, ↓reduceIte, Nat.reduceEqDiff, Nat.reduceLT, Nat.reduceLeDiff, Nat.reduceAdd, Nat.reduceSub, eI, eB, eR, cRow]; first | done | rfl) | omega) ?_ | refine os_none ?_ | refine os_vec' (by simp only [pqs.down, tabs.down, ↓reduceIte, Nat.reduceEqDiff, Nat.reduceLT, Nat.reduceLeDiff, Nat.reduceAdd, Nat.reduceSub, eI, eB, eR, cRow]; first | done | rfl) ?_ (fun _ _ _ _ => rfl) | refine os_vec' (by simp only [pqs.down, tabs.down, ↓reduceIte, Nat.reduceEqDiff, Nat.reduceLT, Nat.reduceLeDiff, Nat.reduceAdd, Nat.reduceSub, eI, eB, eR, cRow]; first | done | rfl) ?_ ?_)
        · intro ⟨l2, i2⟩ ⟨k1, k2, k3, k4⟩
          simp only at k1 k2 k3 k4 ⊢
          clear hw1 hw2 hw3 hw4
          have hw1 := wrap64_id (x := (l2 : Int) + i2) (by omega) (by omega)
          have hw2 := half_nat l2 i2
          have hw3 := wrap64_id (x := (((l2 + i2) / 2 : Nat) : Int)) (by omega) (by omega)
          have hw4 := wrap64_id (x := (((l2 + i2) / 2 : Nat) : Int) + 1) (by omega) (by omega)
          (repeat (first | apply aw_seq | apply aw_block | apply aw_skip | apply aw_blk)); refine aq_region ?_; generalize hK : KA _ _ _ = K; simp only [pqs.down, tabs.down, ↓reduceIte, Nat.reduceEqDiff, Nat.reduceLT, Nat.reduceLeDiff, Nat.reduceAdd, Nat.reduceSub, eI, eB, eR]; subst hK; unfold KA
          (repeat (first | apply aw_seq | apply aw_block | apply aw_skip | apply aw_blk)); refine aw_cond (t := decide ((l2 : Int) < i2)) (by simp only [pqs.down, tabs.down, ↓reduceIte, Nat.reduceEqDiff, Nat.reduceLT, Nat.reduceLeDiff, Nat.reduceAdd, Nat.reduceSub, eI, eB, eR]) (fun hc => ?_) (fun hc => ?_)
          · have hlt : l2 < i2 := by have := of_decide_eq_true hc; omega
            have hml : l2 ≤ (l2 + i2) / 2 := by omega
            have hmh : (l2 + i2) / 2 < i2 := by omega
            (repeat (first | apply aw_seq | apply aw_block | apply aw_skip | apply aw_blk)); refine aq_region ?_; generalize hK : KA _ _ _ = K; simp only [pqs.down, tabs.down, ↓reduceIte, Nat.reduceEqDiff, Nat.reduceLT, Nat.reduceLeDiff, Nat.reduceAdd, Nat.reduceSub, eI, eB, eR, hw1, hw2, hw3]; subst hK; unfold KA
            refine ⟨by simp, ?_⟩
            generalize hmid : (l2 + i2) / 2 = mid at hml hmh hw3 hw4 ⊢
            have hcell : cChunk (chunkAt lo) (mid * 11 + 1) = eR (rowAt (20 * lo + mid)).to := cell_of (by omega) (by omega)
            (repeat (first | apply aw_seq | apply aw_block | apply aw_skip | apply aw_blk)); refine aq_region ?_; generalize hK : KA _ _ _ = K; simp only [pqs.down, tabs.down, ↓reduceIte, Nat.reduceEqDiff, Nat.reduceLT, Nat.reduceLeDiff, Nat.reduceAdd, Nat.reduceSub, eI, eB, eR, hcell]; subst hK; unfold KA
            refine ⟨by omega, ?_⟩
            refine ⟨by omega, ?_⟩
            (repeat (first | apply aw_seq | apply aw_block | apply aw_skip | apply aw_blk)); refine aw_cond (t := decide ((rowAt (20 * lo + mid)).to < r)) (by simp only [pqs.down, tabs.down, ↓reduceIte, Nat.reduceEqDiff, Nat.reduceLT, Nat.reduceLeDiff, Nat.reduceAdd, Nat.reduceSub, eI, eB, eR]) (fun hc2 => ?_) (fun hc2 => ?_)
            · have hlr := of_decide_eq_true hc2
              (repeat (first | apply aw_seq | apply aw_block | apply aw_skip | apply aw_blk)); refine aq_region ?_; generalize hK : KA _ _ _ = K; simp only [pqs.down, tabs.down, ↓reduceIte, Nat.reduceEqDiff, Nat.reduceLT, Nat.reduceLeDiff, Nat.reduceAdd, Nat.reduceSub, eI, eB, eR, hw4]; subst hK; unfold KA
              (repeat (first | apply aw_seq | apply aw_block | apply aw_skip | apply aw_blk)); refine out_nil ?_
              refine ⟨(mid + 1, i2), ⟨by simp only; omega, k2, fun j hj => ?_, k4⟩, by simp only; omega, ?_⟩
              · simp only at hj
                have e3 := row_to_mono (i := 20 * lo + j) (j := 20 * lo + mid) (by omega) (by omega)
                omega
              · refine Le.to [some 0, some 1] rfl rfl (by decide) (by simp only [pqs.down, tabs.down, ↓reduceIte, Nat.reduceEqDiff, Nat.reduceLT, Nat.reduceLeDiff, Nat.reduceAdd, Nat.reduceSub, eI, eB, eR, cRow]; first | done | rfl | ((repeat' apply And.intro) <;> first | rfl | trivial | (simp; done) | (simp; omega))) ?_; (repeat first | exact os_nil | refine os_box (by simp only [pqs.down, tabs.down, ↓reduceIte, Nat.reduceEqDiff, Nat.reduceLT, Nat.reduceLeDiff, Nat.reduceAdd, Nat.reduceSub, eI, eB, eR, cRow]; first | done | rfl) (by first | (exact fun _ _ => rfl) | (intro j hj; (rcases j with _ | _ | _ | _ | _ | _ | _ | _ | _ | _ | _ | j) <;> first | (simp only [pqs.down, tabs.down, ↓reduceIte, Nat.reduceEqDiff, Nat.reduceLT, Nat.reduceLeDiff, Nat.reduceAdd, Nat.reduceSub, eI, eB, eR, cRow]; first | done | rfl) | omega)) (by rfl) ?_ | refine os_boxR (by simp only [pqs.down, tabs.down, ↓reduceIte, Nat.reduceEqDiff, Nat.reduceLT, Nat.reduceLeDiff, Nat.reduceAdd, Nat.reduceSub, eI, eB, eR, cRow]; first | done | rfl) (by intro j hj; (rcases j with _ | _ | _ | _ | _ | _ | _ | _ | _ | _ | _ | j) <;> first | (simp only [pqs.down, tabs.down, ↓reduceIte, Nat.reduceEqDiff, Nat.reduceLT, Nat.reduceLeDiff, Nat.reduceAdd, Nat.reduceSub, eI, eB, eR, cRow]; first | done | rfl) | omega) ?_ | refine os_none ?_ | refine os_vec' (by simp only [pqs.down, tabs.down, ↓reduceIte, Nat.reduceEqDiff, Nat.reduceLT, Nat.reduceLeDiff, Nat.reduceAdd, Nat.reduceSub, eI, eB, eR, cRow]; first | done | rfl) ?_ (fun _ _ _ _ => rfl) | refine os_vec' (by simp only [pqs.down, tabs.down, ↓reduceIte, Nat.reduceEqDiff, Nat.reduceLT, Nat.reduceLeDiff, Nat.reduceAdd, Nat.reduceSub, eI, eB, eR, cRow]; first | done | rfl) ?_ ?_)
            · have hlr := of_decide_eq_false hc2
              (repeat (first | apply aw_seq | apply aw_block | apply aw_skip | apply aw_blk)); refine aq_region ?_; generalize hK : KA _ _ _ = K; simp only [pqs.down, tabs.down, ↓reduceIte, Nat.reduceEqDiff, Nat.reduceLT, Nat.reduceLeDiff, Nat.reduceAdd, Nat.reduceSub, eI, eB, eR]; subst hK; unfold KA
              (repeat (first | apply aw_seq | apply aw_block | apply aw_skip | apply aw_blk)); refine out_nil ?_
              refine ⟨(l2, mid), ⟨by simp only; omega, by simp only; omega, k3, fun j hj hj2 => ?_⟩, by simp only; omega, ?_⟩
              · simp only at hj
                have e3 := row_to_mono (i := 20 * lo + mid) (j := 20 * lo + j) (by omega) (by omega)
                omega
              · refine Le.to [some 0, some 1] rfl rfl (by decide) (by simp only [pqs.down, tabs.down, ↓reduceIte, Nat.reduceEqDiff, Nat.reduceLT, Nat.reduceLeDiff, Nat.reduceAdd, Nat.reduceSub, eI, eB, eR, cRow]; first | done | rfl | ((repeat' apply And.intro) <;> first | rfl | trivial | (simp; done) | (simp; omega))) ?_; (repeat first | exact os_nil | refine os_box (by simp only [pqs.down, tabs.down, ↓reduceIte, Nat.reduceEqDiff, Nat.reduceLT, Nat.reduceLeDiff, Nat.reduceAdd, Nat.reduceSub, eI, eB, eR, cRow]; first | done | rfl) (by first | (exact fun _ _ => rfl) | (intro j hj; (rcases j with _ | _ | _ | _ | _ | _ | _ | _ | _ | _ | _ | j) <;> first | (simp only [pqs.down, tabs.down, ↓reduceIte, Nat.reduceEqDiff, Nat.reduceLT, Nat.reduceLeDiff, Nat.reduceAdd, Nat.reduceSub, eI, eB, eR, cRow]; first | done | rfl) | omega)) (by rfl) ?_ | refine os_boxR (by simp only [pqs.down, tabs.down, ↓reduceIte, Nat.reduceEqDiff, Nat.reduceLT, Nat.reduceLeDiff, Nat.reduceAdd, Nat.reduceSub, eI, eB, eR, cRow]; first | done | rfl) (by intro j hj; (rcases j with _ | _ | _ | _ | _ | _ | _ | _ | _ | _ | _ | j) <;> first | (simp only [pqs.down, tabs.down, ↓reduceIte, Nat.reduceEqDiff, Nat.reduceLT, Nat.reduceLeDiff, Nat.reduceAdd, Nat.reduceSub, eI, eB, eR, cRow]; first | done | rfl) | omega) ?_ | refine os_none ?_ | refine os_vec' (by simp only [pqs.down, tabs.down, ↓reduceIte, Nat.reduceEqDiff, Nat.reduceLT, Nat.reduceLeDiff, Nat.reduceAdd, Nat.reduceSub, eI, eB, eR, cRow]; first | done | rfl) ?_ (fun _ _ _ _ => rfl) | refine os_vec' (by simp only [pqs.down, tabs.down, ↓reduceIte, Nat.reduceEqDiff, Nat.reduceLT, Nat.reduceLeDiff, Nat.reduceAdd, Nat.reduceSub, eI, eB, eR, cRow]; first | done | rfl) ?_ ?_)
          · refine aw_exit_out (by rfl) ?_; (repeat refine out_exit_out (by rfl) ?_); try (refine out_exit (by rfl) ?_)
            have he : l2 = i2 := by have := of_decide_eq_false hc; omega
            subst he
            have hfd : findP r = (rowAt (20 * lo + l2), decide ((rowAt (20 * lo + l2)).fr ≤ r)) := findP_at (by omega) (low_all hl (by omega) h3 k3) (k4 l2 (by omega) (by omega))
            have hcell : ∀ j, j < 11 → cChunk (chunkAt lo) (l2 * 11 + j) = cRow (rowAt (20 * lo + l2)) j := fun j hj => cell_of (by omega) hj
            have hcell0 : cChunk (chunkAt lo) (l2 * 11) = eR (rowAt (20 * lo + l2)).fr := hcell 0 (by omega)
            (repeat (first | apply aw_seq | apply aw_block | apply aw_skip | apply aw_blk)); refine aq_late 9 0 (by kernel_rfl) (by decide +kernel) ?_
            generalize hK : lateK _ _ _ _ _ _ _ = K
            simp only [nopAt, List.getElem?_toArray, List.getElem?_cons_succ, List.getElem?_cons_zero, List.setIfInBounds_toArray, List.set_cons_succ, List.set_cons_zero]
            simp only [pqs.down, tabs.down, ↓reduceIte, Nat.reduceEqDiff, Nat.reduceLT, Nat.reduceLeDiff, Nat.reduceAdd, Nat.reduceSub, eI, eB, eR, hcell0]
            repeat (refine ⟨by omega, ?_⟩)
            subst hK
            simp only [lateK, List.getElem?_toArray, List.getElem?_cons_succ, List.getElem?_cons_zero, lateO]
            simp only [pqs.down, tabs.down, ↓reduceIte, Nat.reduceEqDiff, Nat.reduceLT, Nat.reduceLeDiff, Nat.reduceAdd, Nat.reduceSub, eI, eB, eR]
            refine ⟨rfl, rfl, rfl, by omega, ?_⟩
            refine aw_ret ?_; (repeat refine out_ret ?_)
            rw [hfd]
            simp only [pqs.down, tabs.down, ↓reduceIte, Nat.reduceEqDiff, Nat.reduceLT, Nat.reduceLeDiff, Nat.reduceAdd, Nat.reduceSub, eI, eB, eR, hcell0]
            refine VLe.tup fun j hj => ?_
            rcases j with _ | _ | j
            · simp only [pqs.down, tabs.down, ↓reduceIte, Nat.reduceEqDiff, Nat.reduceLT, Nat.reduceLeDiff, Nat.reduceAdd, Nat.reduceSub, eI, eB, eR]
              refine vle_agg fun j hj => ?_
              rw [if_pos ⟨by omega, hj⟩, hcell j hj]
              (rcases j with _ | _ | _ | _ | _ | _ | _ | _ | _ | _ | _ | j) <;> first | rfl | omega
            · exact VLe.refl _
            · omega

set_option maxHeartbeats 4000000 in
theorem ofP_con (G : Nat → V) (hG : G 0 = gLasts) (r : Int) : Con Tryd.prog G 29 [eR r] (.agg 9 (cProp (propOf r))) := by
  refine Con.of_body Tryd.func29 rfl (by kernel_rfl) (by rw [Tryd.ntmps29]; simp) ?_
  rw [Tryd.ntmps29, Tryd.results29]
  obtain ⟨h1, h2⟩ := propOf_find r
  have c := find_con G hG r
  generalize findP r = f at c h1 h2
  obtain ⟨w, ok⟩ := f
  simp only at c h1 h2
  cases ok with
  | false =>
    rw [h1]
    simp only [Bool.false_eq_true, if_false]
    repeat' (first | apply aw_seq | apply aw_block | apply aw_skip | apply aw_blk | (refine aw_exit (by rfl) ?_) | (refine aq_region ?_; generalize hK : KA _ _ _ = K; simp only [pqs.down, tabs.down, ↓reduceIte, Nat.reduceEqDiff, Nat.reduceLT, Nat.reduceLeDiff, Nat.reduceAdd, Nat.reduceSub, eI, eB, eR]) | (refine aq_drawA (by kernel_rfl) (by decide +kernel) ?_; generalize hK : KA _ _ _ = K; simp only [pqs.down, tabs.down, ↓reduceIte, Nat.reduceEqDiff, Nat.reduceLT, Nat.reduceLeDiff, Nat.reduceAdd, Nat.reduceSub, eI, eB, eR]) | (refine guardT (fun hg => ?_) (fun hg => ?_) <;> simp only [pqs.down, tabs.down, ↓reduceIte, Nat.reduceEqDiff, Nat.reduceLT, Nat.reduceLeDiff, Nat.reduceAdd, Nat.reduceSub, eI, eB, eR, hg]) | (refine guardF (fun hg => ?_) (fun hg => ?_) <;> simp only [pqs.down, tabs.down, ↓reduceIte, Nat.reduceEqDiff, Nat.reduceLT, Nat.reduceLeDiff, Nat.reduceAdd, Nat.reduceSub, eI, eB, eR, hg]) | (refine call_imm (c) (by rfl) ?_; simp only [pqs.down, tabs.down, ↓reduceIte, Nat.reduceEqDiff, Nat.reduceLT, Nat.reduceLeDiff, Nat.reduceAdd, Nat.reduceSub, eI, eB, eR]) | (refine call_imm (restP_con G) (by rfl) ?_; simp only [pqs.down, tabs.down, ↓reduceIte, Nat.reduceEqDiff, Nat.reduceLT, Nat.reduceLeDiff, Nat.reduceAdd, Nat.reduceSub, eI, eB, eR]) | (with_reducible refine And.intro ?_ ?_; · first | omega | rfl) | (subst hK; refine of_KA ?_) | (refine aw_cond (by simp only [pqs.down, tabs.down, ↓reduceIte, Nat.reduceEqDiff, Nat.reduceLT, Nat.reduceLeDiff, Nat.reduceAdd, Nat.reduceSub, eI, eB, eR]; exact rfl) (fun hc => ?_) (fun hc => ?_) <;> (try (first | (cases hc; done) | (exact absurd hc (by decide))))) | (refine aw_ret ?_))
    simp only [pqs.down, tabs.down, ↓reduceIte, Nat.reduceEqDiff, Nat.reduceLT, Nat.reduceLeDiff, Nat.reduceAdd, Nat.reduceSub, eI, eB, eR, cProp]
    refine vle_agg fun j hj => ?_
    (rcases j with _ | _ | _ | _ | _ | _ | _ | _ | _ | j) <;> first | rfl | omega
  | true =>
    rw [h1]
    simp only [if_true]
    by_cases h13 : w.p.cl = 13
    · obtain ⟨k1, k2⟩ := h2 rfl h13
      have d3 := tmod28 k1 k2
      have d1 : (w.p.cl == 13) = true := by simpa using h13
      by_cases h4 : (r - w.fr) % 28 = 0
      · have d4 : ((r - w.fr) % 28 == 0) = true := by simpa using h4
        have hf : fixP w r = ⟨w.p.bidi, 12, 33, w.p.sc, w.p.jn, w.p.wd, w.p.mir, w.p.par, w.p.opens⟩ := by unfold fixP; rw [d1, d4]; rfl
        rw [hf]
        repeat' (first | apply aw_seq | apply aw_block | apply aw_skip | apply aw_blk | (refine aw_exit (by rfl) ?_) | (refine aq_region ?_; generalize hK : KA _ _ _ = K; simp only [pqs.down, tabs.down, ↓reduceIte, Nat.reduceEqDiff, Nat.reduceLT, Nat.reduceLeDiff, Nat.reduceAdd, Nat.reduceSub, eI, eB, eR, cRow, d1, d3, d4]) | (refine aq_drawA (by kernel_rfl) (by decide +kernel) ?_; generalize hK : KA _ _ _ = K; simp only [pqs.down, tabs.down, ↓reduceIte, Nat.reduceEqDiff, Nat.reduceLT, Nat.reduceLeDiff, Nat.reduceAdd, Nat.reduceSub, eI, eB, eR, cRow, d1, d3, d4]) | (refine guardT (fun hg => ?_) (fun hg => ?_) <;> simp only [pqs.down, tabs.down, ↓reduceIte, Nat.reduceEqDiff, Nat.reduceLT, Nat.reduceLeDiff, Nat.reduceAdd, Nat.reduceSub, eI, eB, eR, hg, cRow, d1, d3, d4]) | (refine guardF (fun hg => ?_) (fun hg => ?_) <;> simp only [pqs.down, tabs.down, ↓reduceIte, Nat.reduceEqDiff, Nat.reduceLT, Nat.reduceLeDiff, Nat.reduceAdd, Nat.reduceSub, eI, eB, eR, hg, cRow, d1, d3, d4]) | (refine call_imm (c) (by rfl) ?_; simp only [pqs.down, tabs.down, ↓reduceIte, Nat.reduceEqDiff, Nat.reduceLT, Nat.reduceLeDiff, Nat.reduceAdd, Nat.reduceSub, eI, eB, eR, cRow, d1, d3, d4]) | (refine call_imm (restP_con G) (by rfl) ?_; simp only [pqs.down, tabs.down, ↓reduceIte, Nat.reduceEqDiff, Nat.reduceLT, Nat.reduceLeDiff, Nat.reduceAdd, Nat.reduceSub, eI, eB, eR, cRow, d1, d3, d4]) | (with_reducible refine And.intro ?_ ?_; · first | omega | rfl) | (subst hK; refine of_KA ?_) | (refine aw_cond (by simp only [pqs.down, tabs.down, ↓reduceIte, Nat.reduceEqDiff, Nat.reduceLT, Nat.reduceLeDiff, Nat.reduceAdd, Nat.reduceSub, eI, eB, eR, cRow, d1, d3, d4]; exact rfl) (fun hc => ?_) (fun hc => ?_) <;> (try (first | (cases hc; done) | (exact absurd hc (by decide))))) | (refine aw_ret ?_))
        simp only [pqs.down, tabs.down, ↓reduceIte, Nat.reduceEqDiff, Nat.reduceLT, Nat.reduceLeDiff, Nat.reduceAdd, Nat.reduceSub, eI, eB, eR, cRow]
        refine vle_agg fun j hj => ?_
        (rcases j with _ | _ | _ | _ | _ | _ | _ | _ | _ | j) <;> first | rfl | omega
      · have d4 : ((r - w.fr) % 28 == 0) = false := by simpa using h4
        have hf : fixP w r = w.p := by unfold fixP; rw [d1, d4]; rfl
        rw [hf]
        repeat' (first | apply aw_seq | apply aw_block | apply aw_skip | apply aw_blk | (refine aw_exit (by rfl) ?_) | (refine aq_region ?_; generalize hK : KA _ _ _ = K; simp only [pqs.down, tabs.down, ↓reduceIte, Nat.reduceEqDiff, Nat.reduceLT, Nat.reduceLeDiff, Nat.reduceAdd, Nat.reduceSub, eI, eB, eR, cRow, d1, d3, d4]) | (refine aq_drawA (by kernel_rfl) (by decide +kernel) ?_; generalize hK : KA _ _ _ = K; simp only [pqs.down, tabs.down, ↓reduceIte, Nat.reduceEqDiff, Nat.reduceLT, Nat.reduceLeDiff, Nat.reduceAdd, Nat.reduceSub, eI, eB, eR, cRow, d1, d3, d4]) | (refine guardT (fun hg => ?_) (fun hg => ?_) <;> simp only [pqs.down, tabs.down, ↓reduceIte, Nat.reduceEqDiff, Nat.reduceLT, Nat.reduceLeDiff, Nat.reduceAdd, Nat.reduceSub, eI, eB, eR, hg, cRow, d1, d3, d4]) | (refine guardF (fun hg => ?_) (fun hg => ?_) <;> simp only [pqs.down, tabs.down, ↓reduceIte, Nat.reduceEqDiff, Nat.reduceLT, Nat.reduceLeDiff, Nat.reduceAdd, Nat.reduceSub, eI, eB, eR, hg, cRow, d1, d3, d4]) | (refine call_imm (c) (by rfl) ?_; simp only [pqs.down, tabs.down, ↓reduceIte, Nat.reduceEqDiff, Nat.reduceLT, Nat.reduceLeDiff, Nat.reduceAdd, Nat.reduceSub, eI, eB, eR, cRow, d1, d3, d4]) | (refine call_imm (restP_con G) (by rfl) ?_; simp only [pqs.down, tabs.down, ↓reduceIte, Nat.reduceEqDiff, Nat.reduceLT, Nat.reduceLeDiff, Nat.reduceAdd, Nat.reduceSub, eI, eB, eR, cRow, d1, d3, d4]) | (with_reducible refine And.intro ?_ ?_; · first | omega | rfl) | (subst hK; refine of_KA ?_) | (refine aw_cond (by simp only [pqs.down, tabs.down, ↓reduceIte, Nat.reduceEqDiff, Nat.reduceLT, Nat.reduceLeDiff, Nat.reduceAdd, Nat.reduceSub, eI, eB, eR, cRow, d1, d3, d4]; exact rfl) (fun hc => ?_) (fun hc => ?_) <;> (try (first | (cases hc; done) | (exact absurd hc (by decide))))) | (refine aw_ret ?_))
        simp only [pqs.down, tabs.down, ↓reduceIte, Nat.reduceEqDiff, Nat.reduceLT, Nat.reduceLeDiff, Nat.reduceAdd, Nat.reduceSub, eI, eB, eR, cRow]
        refine vle_agg fun j hj => ?_
        (rcases j with _ | _ | _ | _ | _ | _ | _ | _ | _ | j) <;> first | rfl | omega
    · have d1 : (w.p.cl == 13) = false := by simpa using h13
      have hf : fixP w r = w.p := by unfold fixP; rw [d1]; rfl
      rw [hf]
      repeat' (first | apply aw_seq | apply aw_block | apply aw_skip | apply aw_blk | (refine aw_exit (by rfl) ?_) | (refine aq_region ?_; generalize hK : KA _ _ _ = K; simp only [pqs.down, tabs.down, ↓reduceIte, Nat.reduceEqDiff, Nat.reduceLT, Nat.reduceLeDiff, Nat.reduceAdd, Nat.reduceSub, eI, eB, eR, cRow, d1]) | (refine aq_drawA (by kernel_rfl) (by decide +kernel) ?_; generalize hK : KA _ _ _ = K; simp only [pqs.down, tabs.down, ↓reduceIte, Nat.reduceEqDiff, Nat.reduceLT, Nat.reduceLeDiff, Nat.reduceAdd, Nat.reduceSub, eI, eB, eR, cRow, d1]) | (refine guardT (fun hg => ?_) (fun hg => ?_) <;> simp only [pqs.down, tabs.down, ↓reduceIte, Nat.reduceEqDiff, Nat.reduceLT, Nat.reduceLeDiff, Nat.reduceAdd, Nat.reduceSub, eI, eB, eR, hg, cRow, d1]) | (refine guardF (fun hg => ?_) (fun hg => ?_) <;> simp only [pqs.down, tabs.down, ↓reduceIte, Nat.reduceEqDiff, Nat.reduceLT, Nat.reduceLeDiff, Nat.reduceAdd, Nat.reduceSub, eI, eB, eR, hg, cRow, d1]) | (refine call_imm (c) (by rfl) ?_; simp only [pqs.down, tabs.down, ↓reduceIte, Nat.reduceEqDiff, Nat.reduceLT, Nat.reduceLeDiff, Nat.reduceAdd, Nat.reduceSub, eI, eB, eR, cRow, d1]) | (refine call_imm (restP_con G) (by rfl) ?_; simp only [pqs.down, tabs.down, ↓reduceIte, Nat.reduceEqDiff, Nat.reduceLT, Nat.reduceLeDiff, Nat.reduceAdd, Nat.reduceSub, eI, eB, eR, cRow, d1]) | (with_reducible refine And.intro ?_ ?_; · first | omega | rfl) | (subst hK; refine of_KA ?_) | (refine aw_cond (by simp only [pqs.down, tabs.down, ↓reduceIte, Nat.reduceEqDiff, Nat.reduceLT, Nat.reduceLeDiff, Nat.reduceAdd, Nat.reduceSub, eI, eB, eR, cRow, d1]; exact rfl) (fun hc => ?_) (fun hc => ?_) <;> (try (first | (cases hc; done) | (exact absurd hc (by decide))))) | (refine aw_ret ?_))
      simp only [pqs.down, tabs.down, ↓reduceIte, Nat.reduceEqDiff, Nat.reduceLT, Nat.reduceLeDiff, Nat.reduceAdd, Nat.reduceSub, eI, eB, eR, cRow]
      refine vle_agg fun j hj => ?_
      (rcases j with _ | _ | _ | _ | _ | _ | _ | _ | _ | j) <;> first | rfl | omega

end Go.Proofs.YtkelageigeoajaaDoor
