/-
  The walk of the law 'PicksLine': it says true.
-/
import Derived.Test.YtkmomjginjkhfaaPLine
import Derived.Test.YtkmomjginjkhfaaRLine
import Derived.Test.YtkmomjginjkhfaaNear
set_option linter.unusedSimpArgs false
set_option linter.unusedVariables false
namespace Go.Proofs.Ytkmomjginjkhfaa
open Go.Proofs.Ytkmomjginjkhfaa.Pg

theorem picksLine_con (G : Nat → V) (l : LayL) (q : Int) : Con Try.prog G 3 [eLay l, eI q] (eB true) := by
  refine Con.of_body Try.func3 rfl (by kernel_rfl) (by rw [Try.ntmps3]; simp) ?_
  rw [Try.ntmps3]
  (repeat (first | apply aw_seq | apply aw_block | apply aw_skip | apply aw_blk)); refine aq_region ?_; generalize hK : KA _ _ _ = K; simp only [pqs.down, tabs.down, List.nil_append, List.cons_append, List.getElem?_cons_zero, List.getElem?_cons_succ, List.getElem?_nil, Option.getD_some, Option.getD_none, Option.bind_some, List.length_cons, List.length_nil, List.map_cons, List.map_nil, List.all_cons, List.all_nil, ↓reduceIte, Nat.reduceEqDiff, Nat.reduceLT, Nat.reduceLeDiff, Nat.reduceAdd, Nat.reduceSub, eI, eB, eLay]; subst hK; unfold KA
  (repeat (first | apply aw_seq | apply aw_block | apply aw_skip | apply aw_blk)); refine aq_region ?_; generalize hK : KA _ _ _ = K; simp only [pqs.down, tabs.down, List.nil_append, List.cons_append, List.getElem?_cons_zero, List.getElem?_cons_succ, List.getElem?_nil, Option.getD_some, Option.getD_none, Option.bind_some, List.length_cons, List.length_nil, List.map_cons, List.map_nil, List.all_cons, List.all_nil, ↓reduceIte, Nat.reduceEqDiff, Nat.reduceLT, Nat.reduceLeDiff, Nat.reduceAdd, Nat.reduceSub, eI, eB, eLay]
  refine call_imm (r := eB (near l)) (near_con G l) (by rfl) ?_
  simp only [pqs.down, tabs.down, List.nil_append, List.cons_append, List.getElem?_cons_zero, List.getElem?_cons_succ, List.getElem?_nil, Option.getD_some, Option.getD_none, Option.bind_some, List.length_cons, List.length_nil, List.map_cons, List.map_nil, List.all_cons, List.all_nil, ↓reduceIte, Nat.reduceEqDiff, Nat.reduceLT, Nat.reduceLeDiff, Nat.reduceAdd, Nat.reduceSub, eI, eB]
  subst hK; unfold KA
  (repeat (first | apply aw_seq | apply aw_block | apply aw_skip | apply aw_blk)); refine aw_cond (t := !near l) (by simp only [pqs.down, tabs.down, List.nil_append, List.cons_append, List.getElem?_cons_zero, List.getElem?_cons_succ, List.getElem?_nil, Option.getD_some, Option.getD_none, Option.bind_some, List.length_cons, List.length_nil, List.map_cons, List.map_nil, List.all_cons, List.all_nil, ↓reduceIte, Nat.reduceEqDiff, Nat.reduceLT, Nat.reduceLeDiff, Nat.reduceAdd, Nat.reduceSub, eI, eB]) (fun hn => ?_) (fun hn => ?_)
  · (repeat (first | apply aw_seq | apply aw_block | apply aw_skip | apply aw_blk)); refine aq_region ?_; generalize hK : KA _ _ _ = K; simp only [pqs.down, tabs.down, List.nil_append, List.cons_append, List.getElem?_cons_zero, List.getElem?_cons_succ, List.getElem?_nil, Option.getD_some, Option.getD_none, Option.bind_some, List.length_cons, List.length_nil, List.map_cons, List.map_nil, List.all_cons, List.all_nil, ↓reduceIte, Nat.reduceEqDiff, Nat.reduceLT, Nat.reduceLeDiff, Nat.reduceAdd, Nat.reduceSub, eI, eB]; subst hK; unfold KA
    refine aw_ret ?_; (repeat refine out_ret ?_)
    rw [Try.results3]
    simp only [pqs.down, tabs.down, List.nil_append, List.cons_append, List.getElem?_cons_zero, List.getElem?_cons_succ, List.getElem?_nil, Option.getD_some, Option.getD_none, Option.bind_some, List.length_cons, List.length_nil, List.map_cons, List.map_nil, List.all_cons, List.all_nil, ↓reduceIte, Nat.reduceEqDiff, Nat.reduceLT, Nat.reduceLeDiff, Nat.reduceAdd, Nat.reduceSub, eI, eB]
    exact VLe.refl _
  · have hl : l.ls.length ≤ 20 := by
      simp only [near, Bool.not_eq_false', Bool.and_eq_true, decide_eq_true_eq] at hn
      exact hn.1
    (repeat (first | apply aw_seq | apply aw_block | apply aw_skip | apply aw_blk)); refine aq_draw 8 (by kernel_rfl) (by decide +kernel) ?_; generalize hK : KA _ _ _ = K; simp only [pqs.down, tabs.down, List.nil_append, List.cons_append, List.getElem?_cons_zero, List.getElem?_cons_succ, List.getElem?_nil, Option.getD_some, Option.getD_none, Option.bind_some, List.length_cons, List.length_nil, List.map_cons, List.map_nil, List.all_cons, List.all_nil, ↓reduceIte, Nat.reduceEqDiff, Nat.reduceLT, Nat.reduceLeDiff, Nat.reduceAdd, Nat.reduceSub, eI, eB, eLay]
    refine call_imm (r := eCut (lineCut l q)) (pline_con G l q hl) (by rfl) ?_
    simp only [pqs.down, tabs.down, List.nil_append, List.cons_append, List.getElem?_cons_zero, List.getElem?_cons_succ, List.getElem?_nil, Option.getD_some, Option.getD_none, Option.bind_some, List.length_cons, List.length_nil, List.map_cons, List.map_nil, List.all_cons, List.all_nil, ↓reduceIte, Nat.reduceEqDiff, Nat.reduceLT, Nat.reduceLeDiff, Nat.reduceAdd, Nat.reduceSub, eI, eB]
    refine call_imm (r := eCut (lineCut l q)) (rline_con G l q hl) (by rfl) ?_
    have hb1 : ((lineCut l q).1 == (lineCut l q).1) = true := by simp
    have hb2 : ((lineCut l q).2 == (lineCut l q).2) = true := by simp
    simp only [pqs.down, tabs.down, List.nil_append, List.cons_append, List.getElem?_cons_zero, List.getElem?_cons_succ, List.getElem?_nil, Option.getD_some, Option.getD_none, Option.bind_some, List.length_cons, List.length_nil, List.map_cons, List.map_nil, List.all_cons, List.all_nil, ↓reduceIte, Nat.reduceEqDiff, Nat.reduceLT, Nat.reduceLeDiff, Nat.reduceAdd, Nat.reduceSub, eI, eB, eCut, hb1, hb2]
    subst hK; unfold KA
    refine aw_ret ?_; (repeat refine out_ret ?_)
    rw [Try.results3]
    simp only [pqs.down, tabs.down, List.nil_append, List.cons_append, List.getElem?_cons_zero, List.getElem?_cons_succ, List.getElem?_nil, Option.getD_some, Option.getD_none, Option.bind_some, List.length_cons, List.length_nil, List.map_cons, List.map_nil, List.all_cons, List.all_nil, ↓reduceIte, Nat.reduceEqDiff, Nat.reduceLT, Nat.reduceLeDiff, Nat.reduceAdd, Nat.reduceSub, eI, eB]
    exact VLe.refl _

end Go.Proofs.Ytkmomjginjkhfaa
