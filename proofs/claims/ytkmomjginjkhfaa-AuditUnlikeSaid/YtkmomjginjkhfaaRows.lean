/-
  No cell of these rows narrows 'for every input' (looked for: loops, veiled, ifaces, maps, wideKeys, modest, calm, conditions, laid).
  DERIVED. THE GIVEN ROWS OF THIS SEAT. 4 by the template 'for every input the law returns true; each argument reads behind the call as it read before'; 0 by the template 'total and deterministic' (their statements: YtkmomjginjkhfaaTotals.lean).
  GIVEN WITH THE SEED: the statements are not yours to turn. If you find one false, say at which input.
  Laid BY PROGRAM, IN A SANDBOX (cutbox-rows.mjs): the forced cells as the released guide's own fill.sh prints them over the translation 7c566034717dcea0… (all of the seat's roots in one cut). By AI agents, Wed Nov 11 2026. No macro, syntax, notation, axiom, sorry.
-/
import Derived.Test.YtkmomjginjkhfaaChecked
import GoSem.Claim
import GoSem.ClaimJoined
import GoSem.ClaimMapViews
import Derived.JoinedTies
import Derived.KernelRfl
namespace Go.Proofs.Ytkmomjginjkhfaa
/- THE CELL 'sum', in the pinned program and in every row, IS THE sha256 OF THE DUMP (.gsa) THAT YtkmomjginjkhfaaProg.lean LOADS. Nothing in Lean hashes anything: it is a label: what it is worth is what the hold of that sum in a sandbox is worth. -/
noncomputable def Try.pinned : Pinned := { name := "ytkmomjginjkhfaa", sum := "7c566034717dcea08b1424bbb4cb434719a178df0670549c0538802eee4c34d8", checked := Try.checked }
namespace Rows
def none {H : Type} : Left H := { results := [], args := [] }

/-- 'typecaselaw49.PicksLine': WHATEVER THE INPUT: true; the input reads as it did. -/
def picksLineSpec : ChangeSpec := { name := "picksLine", fn := fun _ => fun
  | [d1, d2] => { results := [.lit (.bool true)], args := [d1, d2] }
  | _ => none }
def picksLineRow : OpenClaim := { program := "ytkmomjginjkhfaa", sum := "7c566034717dcea08b1424bbb4cb434719a178df0670549c0538802eee4c34d8", func := "typecase/typecaselaw49.PicksLine", spec := "picksLine", apart := false }
def PicksLineSaid : Prop := picksLineRow.holds Try.pinned (OpenSpec.ofChange picksLineSpec)

/-- ITS FALSE NEIGHBOUR: 'it returns false'. Refute it at one input. -/
def picksLineWrong : ChangeSpec := { name := "picksLine", fn := fun _ => fun
  | [d1, d2] => { results := [.lit (.bool false)], args := [d1, d2] }
  | _ => none }
def PicksLineWrongFalsely : Prop := picksLineRow.holds Try.pinned (OpenSpec.ofChange picksLineWrong)

/-- 'typecaselaw49.PicksWide': WHATEVER THE INPUT: true; the input reads as it did. -/
def picksWideSpec : ChangeSpec := { name := "picksWide", fn := fun _ => fun
  | [d1, d2, d3] => { results := [.lit (.bool true)], args := [d1, d2, d3] }
  | _ => none }
def picksWideRow : OpenClaim := { program := "ytkmomjginjkhfaa", sum := "7c566034717dcea08b1424bbb4cb434719a178df0670549c0538802eee4c34d8", func := "typecase/typecaselaw49.PicksWide", spec := "picksWide", apart := false }
def PicksWideSaid : Prop := picksWideRow.holds Try.pinned (OpenSpec.ofChange picksWideSpec)

/-- ITS FALSE NEIGHBOUR: 'it returns false'. Refute it at one input. -/
def picksWideWrong : ChangeSpec := { name := "picksWide", fn := fun _ => fun
  | [d1, d2, d3] => { results := [.lit (.bool false)], args := [d1, d2, d3] }
  | _ => none }
def PicksWideWrongFalsely : Prop := picksWideRow.holds Try.pinned (OpenSpec.ofChange picksWideWrong)

/-- 'typecaselaw49.PicksStrips': WHATEVER THE INPUT: true; the input reads as it did. -/
def picksStripsSpec : ChangeSpec := { name := "picksStrips", fn := fun _ => fun
  | [d1, d2, d3] => { results := [.lit (.bool true)], args := [d1, d2, d3] }
  | _ => none }
def picksStripsRow : OpenClaim := { program := "ytkmomjginjkhfaa", sum := "7c566034717dcea08b1424bbb4cb434719a178df0670549c0538802eee4c34d8", func := "typecase/typecaselaw49.PicksStrips", spec := "picksStrips", apart := false }
def PicksStripsSaid : Prop := picksStripsRow.holds Try.pinned (OpenSpec.ofChange picksStripsSpec)

/-- ITS FALSE NEIGHBOUR: 'it returns false'. Refute it at one input. -/
def picksStripsWrong : ChangeSpec := { name := "picksStrips", fn := fun _ => fun
  | [d1, d2, d3] => { results := [.lit (.bool false)], args := [d1, d2, d3] }
  | _ => none }
def PicksStripsWrongFalsely : Prop := picksStripsRow.holds Try.pinned (OpenSpec.ofChange picksStripsWrong)

/-- 'typecaselaw58.AuditUnlike': WHATEVER THE INPUT: true; the input reads as it did. -/
def auditUnlikeSpec : ChangeSpec := { name := "auditUnlike", fn := fun _ => fun
  | [d1, d2, d3] => { results := [.lit (.bool true)], args := [d1, d2, d3] }
  | _ => none }
def auditUnlikeRow : OpenClaim := { program := "ytkmomjginjkhfaa", sum := "7c566034717dcea08b1424bbb4cb434719a178df0670549c0538802eee4c34d8", func := "typecase/typecaselaw58.AuditUnlike", spec := "auditUnlike", unfollowed := true, recurses := true, apart := false }
def AuditUnlikeSaid : Prop := auditUnlikeRow.holds Try.pinned (OpenSpec.ofChange auditUnlikeSpec)

/-- ITS FALSE NEIGHBOUR: 'it returns false'. Refute it at one input. -/
def auditUnlikeWrong : ChangeSpec := { name := "auditUnlike", fn := fun _ => fun
  | [d1, d2, d3] => { results := [.lit (.bool false)], args := [d1, d2, d3] }
  | _ => none }
def AuditUnlikeWrongFalsely : Prop := auditUnlikeRow.holds Try.pinned (OpenSpec.ofChange auditUnlikeWrong)

/- THE SECOND FORM. 'bulk': how many values and letters a reading holds, each counted each time it is reached (what is shared counts as often as it is met; a slice's spare places count too). A statement '..UptoSaid' is the law's where the arguments, and the package variables that the reading takes, are together of bulk at most 1048576: NARROWER than '..Said'. Prove '..Said' where nothing that the law and all that it calls make is longer than what came in: it says more and counts as full. Else prove '..UptoSaid'. A law counts once. -/
mutual
def uptoBulk {H : Type} : DataW H → Nat
  | .lit (.string bytes) => bytes.length + 1
  | .lit _ => 1
  | .nil => 1
  | .ptr d => uptoBulk d + 1
  | .slice elems spare => uptoBulkAll elems + uptoBulkAll spare + 1
  | .agg parts => uptoBulkAll parts + 1
  | .iface _ d => uptoBulk d + 1
  | .map entries => uptoBulkEntries entries + 1
  | .held _ => 1
def uptoBulkAll {H : Type} : List (DataW H) → Nat
  | [] => 0
  | d :: r => uptoBulk d + uptoBulkAll r
def uptoBulkEntries {H : Type} : List (Lit × DataW H) → Nat
  | [] => 0
  | x :: r => uptoBulkEntry x + uptoBulkEntries r
def uptoBulkEntry {H : Type} : Lit × DataW H → Nat
  | (.string bytes, d) => bytes.length + uptoBulk d + 1
  | (_, d) => uptoBulk d + 1
 end
def uptoSmall : (H : Type) → List (DataW H) → Bool := fun _ ds => decide (uptoBulkAll ds ≤ 1048576)
def OpenSpec.upto (s : _root_.Go.ChangeSpec) : _root_.Go.OpenSpec := { _root_.Go.OpenSpec.ofChange s with cond := some uptoSmall }

/-- 'typecaselaw49.PicksLine', WHERE WHAT IT READS IS OF BULK AT MOST 1048576: true; the input reads as it did. -/
def picksLineUptoRow : OpenClaim := { program := "ytkmomjginjkhfaa", sum := "7c566034717dcea08b1424bbb4cb434719a178df0670549c0538802eee4c34d8", func := "typecase/typecaselaw49.PicksLine", spec := "picksLine", apart := false, narrowed := true }
def PicksLineUptoSaid : Prop := picksLineUptoRow.holds Try.pinned (OpenSpec.upto picksLineSpec)

/-- 'typecaselaw49.PicksWide', WHERE WHAT IT READS IS OF BULK AT MOST 1048576: true; the input reads as it did. -/
def picksWideUptoRow : OpenClaim := { program := "ytkmomjginjkhfaa", sum := "7c566034717dcea08b1424bbb4cb434719a178df0670549c0538802eee4c34d8", func := "typecase/typecaselaw49.PicksWide", spec := "picksWide", apart := false, narrowed := true }
def PicksWideUptoSaid : Prop := picksWideUptoRow.holds Try.pinned (OpenSpec.upto picksWideSpec)

/-- 'typecaselaw49.PicksStrips', WHERE WHAT IT READS IS OF BULK AT MOST 1048576: true; the input reads as it did. -/
def picksStripsUptoRow : OpenClaim := { program := "ytkmomjginjkhfaa", sum := "7c566034717dcea08b1424bbb4cb434719a178df0670549c0538802eee4c34d8", func := "typecase/typecaselaw49.PicksStrips", spec := "picksStrips", apart := false, narrowed := true }
def PicksStripsUptoSaid : Prop := picksStripsUptoRow.holds Try.pinned (OpenSpec.upto picksStripsSpec)

/-- 'typecaselaw58.AuditUnlike', WHERE WHAT IT READS IS OF BULK AT MOST 1048576: true; the input reads as it did. -/
def auditUnlikeUptoRow : OpenClaim := { program := "ytkmomjginjkhfaa", sum := "7c566034717dcea08b1424bbb4cb434719a178df0670549c0538802eee4c34d8", func := "typecase/typecaselaw58.AuditUnlike", spec := "auditUnlike", unfollowed := true, recurses := true, apart := false, narrowed := true }
def AuditUnlikeUptoSaid : Prop := auditUnlikeUptoRow.holds Try.pinned (OpenSpec.upto auditUnlikeSpec)

end Rows
end Go.Proofs.Ytkmomjginjkhfaa
