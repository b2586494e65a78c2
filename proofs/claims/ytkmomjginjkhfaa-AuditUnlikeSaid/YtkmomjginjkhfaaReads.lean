/-
  What the statements' types read as: plain data.
-/
import Derived.Test.YtkmomjginjkhfaaData
import Derived.Test.YtkmomjginjkhfaaTab
import Derived.Test.YtkmomjginjkhfaaPg18
set_option linter.unusedSimpArgs false
set_option linter.unusedVariables false
namespace Go.Proofs.Ytkmomjginjkhfaa
open Go.Proofs.Ytkmomjginjkhfaa.Pg Go.ChangeShapes Go.WideShapes Go.RowKit
def noMore {α : Type} (_ : α) : Prop := True
def goodBox (b : BoxL) : Prop := goodSlice PutL.d 32 noMore b.gs
def goodLine (x : LineL) : Prop := goodSlice BoxL.d 64 goodBox x.bx
def goodLay (l : LayL) : Prop := goodSlice LineL.d 80 goodLine l.ls

theorem reads_strip : Reads StripL Try.prog 33 3 cStrip noMore := by
  intro H enc w base spare held fuel cs x h hz
  obtain ⟨a0, k0, h0⟩ := reads_field Try.underlying33 h hz (sz := 3) (by kernel_rfl) 0 (by omega) 0 _ rfl rfl (by kernel_rfl) (reads_int Try.underlying3)
  obtain ⟨a1, k1, h1⟩ := reads_field Try.underlying33 h hz (sz := 3) (by kernel_rfl) 1 (by omega) 1 _ rfl rfl (by kernel_rfl) (reads_int Try.underlying3)
  obtain ⟨a2, k2, h2⟩ := reads_field Try.underlying33 h hz (sz := 3) (by kernel_rfl) 2 (by omega) 2 _ rfl rfl (by kernel_rfl) (reads_int Try.underlying3)
  refine ⟨⟨a0, a1, a2⟩, by first | trivial | exact k2, (reads_len Try.underlying33 h).trans (by kernel_rfl), fun j hj => ?_⟩
  rcases j with _ | _ | _ | j
  · exact h0
  · exact h1
  · exact h2
  · omega

theorem reads_strips : Reads (List StripL) Try.prog 30 1 (fun l => cl [eStrips l]) (goodSlice StripL.d 24 noMore) := reads_slice StripL.d Try.underlying30 (by kernel_rfl) (by kernel_rfl) reads_strip

theorem reads_put : Reads PutL Try.prog 59 4 cPut noMore := by
  intro H enc w base spare held fuel cs x h hz
  obtain ⟨a0, k0, h0⟩ := reads_field Try.underlying59 h hz (sz := 4) (by kernel_rfl) 0 (by omega) 0 _ rfl rfl (by kernel_rfl) (reads_int Try.underlying3)
  obtain ⟨a1, k1, h1⟩ := reads_field Try.underlying59 h hz (sz := 4) (by kernel_rfl) 1 (by omega) 1 _ rfl rfl (by kernel_rfl) (reads_int Try.underlying3)
  obtain ⟨a2, k2, h2⟩ := reads_field Try.underlying59 h hz (sz := 4) (by kernel_rfl) 2 (by omega) 2 _ rfl rfl (by kernel_rfl) (reads_int Try.underlying3)
  obtain ⟨a3, k3, h3⟩ := reads_field Try.underlying59 h hz (sz := 4) (by kernel_rfl) 3 (by omega) 3 _ rfl rfl (by kernel_rfl) (reads_int Try.underlying3)
  refine ⟨⟨a0, a1, a2, a3⟩, by first | trivial | exact k3, (reads_len Try.underlying59 h).trans (by kernel_rfl), fun j hj => ?_⟩
  rcases j with _ | _ | _ | _ | j
  · exact h0
  · exact h1
  · exact h2
  · exact h3
  · omega

theorem reads_puts : Reads (List PutL) Try.prog 53 1 (fun l => cl [ePuts l]) (goodSlice PutL.d 32 noMore) := reads_slice PutL.d Try.underlying53 (by kernel_rfl) (by kernel_rfl) reads_put

theorem reads_box : Reads BoxL Try.prog 55 6 cBox goodBox := by
  intro H enc w base spare held fuel cs x h hz
  obtain ⟨a0, k0, h0⟩ := reads_field Try.underlying55 h hz (sz := 6) (by kernel_rfl) 0 (by omega) 0 _ rfl rfl (by kernel_rfl) (reads_int Try.underlying3)
  obtain ⟨a1, k1, h1⟩ := reads_field Try.underlying55 h hz (sz := 6) (by kernel_rfl) 1 (by omega) 1 _ rfl rfl (by kernel_rfl) (reads_int Try.underlying3)
  obtain ⟨a2, k2, h2⟩ := reads_field Try.underlying55 h hz (sz := 6) (by kernel_rfl) 2 (by omega) 2 _ rfl rfl (by kernel_rfl) (reads_int Try.underlying3)
  obtain ⟨a3, k3, h3⟩ := reads_field Try.underlying55 h hz (sz := 6) (by kernel_rfl) 3 (by omega) 3 _ rfl rfl (by kernel_rfl) (reads_int Try.underlying3)
  obtain ⟨a4, k4, h4⟩ := reads_field Try.underlying55 h hz (sz := 6) (by kernel_rfl) 4 (by omega) 4 _ rfl rfl (by kernel_rfl) (reads_int Try.underlying3)
  obtain ⟨a5, k5, h5⟩ := reads_field Try.underlying55 h hz (sz := 6) (by kernel_rfl) 5 (by omega) 5 _ rfl rfl (by kernel_rfl) reads_puts
  refine ⟨⟨a0, a1, a2, a3, a4, a5⟩, by first | trivial | exact k5, (reads_len Try.underlying55 h).trans (by kernel_rfl), fun j hj => ?_⟩
  rcases j with _ | _ | _ | _ | _ | _ | j
  · exact h0
  · exact h1
  · exact h2
  · exact h3
  · exact h4
  · exact h5
  · omega

theorem reads_boxes : Reads (List BoxL) Try.prog 50 1 (fun l => cl [eBoxes l]) (goodSlice BoxL.d 64 goodBox) := reads_slice BoxL.d Try.underlying50 (by kernel_rfl) (by kernel_rfl) reads_box

theorem reads_line : Reads LineL Try.prog 52 8 cLine goodLine := by
  intro H enc w base spare held fuel cs x h hz
  obtain ⟨a0, k0, h0⟩ := reads_field Try.underlying52 h hz (sz := 8) (by kernel_rfl) 0 (by omega) 0 _ rfl rfl (by kernel_rfl) (reads_int Try.underlying3)
  obtain ⟨a1, k1, h1⟩ := reads_field Try.underlying52 h hz (sz := 8) (by kernel_rfl) 1 (by omega) 1 _ rfl rfl (by kernel_rfl) (reads_int Try.underlying3)
  obtain ⟨a2, k2, h2⟩ := reads_field Try.underlying52 h hz (sz := 8) (by kernel_rfl) 2 (by omega) 2 _ rfl rfl (by kernel_rfl) (reads_int Try.underlying3)
  obtain ⟨a3, k3, h3⟩ := reads_field Try.underlying52 h hz (sz := 8) (by kernel_rfl) 3 (by omega) 3 _ rfl rfl (by kernel_rfl) (reads_int Try.underlying3)
  obtain ⟨a4, k4, h4⟩ := reads_field Try.underlying52 h hz (sz := 8) (by kernel_rfl) 4 (by omega) 4 _ rfl rfl (by kernel_rfl) (reads_int Try.underlying3)
  obtain ⟨a5, k5, h5⟩ := reads_field Try.underlying52 h hz (sz := 8) (by kernel_rfl) 5 (by omega) 5 _ rfl rfl (by kernel_rfl) (reads_int Try.underlying3)
  obtain ⟨a6, k6, h6⟩ := reads_field Try.underlying52 h hz (sz := 8) (by kernel_rfl) 6 (by omega) 6 _ rfl rfl (by kernel_rfl) (reads_bool Try.underlying4)
  obtain ⟨a7, k7, h7⟩ := reads_field Try.underlying52 h hz (sz := 8) (by kernel_rfl) 7 (by omega) 7 _ rfl rfl (by kernel_rfl) reads_boxes
  refine ⟨⟨a0, a1, a2, a3, a4, a5, a6, a7⟩, by first | trivial | exact k7, (reads_len Try.underlying52 h).trans (by kernel_rfl), fun j hj => ?_⟩
  rcases j with _ | _ | _ | _ | _ | _ | _ | _ | j
  · exact h0
  · exact h1
  · exact h2
  · exact h3
  · exact h4
  · exact h5
  · exact h6
  · exact h7
  · omega

theorem reads_lines : Reads (List LineL) Try.prog 22 1 (fun l => cl [eLines l]) (goodSlice LineL.d 80 goodLine) := reads_slice LineL.d Try.underlying22 (by kernel_rfl) (by kernel_rfl) reads_line

theorem reads_lay : Reads LayL Try.prog 24 2 cLay goodLay := by
  intro H enc w base spare held fuel cs x h hz
  obtain ⟨a0, k0, h0⟩ := reads_field Try.underlying24 h hz (sz := 2) (by kernel_rfl) 0 (by omega) 0 _ rfl rfl (by kernel_rfl) (reads_int Try.underlying3)
  obtain ⟨a1, k1, h1⟩ := reads_field Try.underlying24 h hz (sz := 2) (by kernel_rfl) 1 (by omega) 1 _ rfl rfl (by kernel_rfl) reads_lines
  refine ⟨⟨a0, a1⟩, by first | trivial | exact k1, (reads_len Try.underlying24 h).trans (by kernel_rfl), fun j hj => ?_⟩
  rcases j with _ | _ | j
  · exact h0
  · exact h1
  · omega

end Go.Proofs.Ytkmomjginjkhfaa
