/-
  NARROWER THAN 'FOR EVERY INPUT', by the rows' own cells (each row's printed sentence says how): PicksWord: laid.
  DERIVED. THE GIVEN ROWS OF THIS SEAT. 1 by the template 'for every input the law returns true; each argument reads behind the call as it read before'; 0 by the template 'total and deterministic' (their statements: YtkelageigeoajaaDoorTotals.lean).
  GIVEN WITH THE SEED: the statements are not yours to turn. If you find one false, say at which input.
  Laid BY PROGRAM, IN A SANDBOX (cutbox-rows.mjs): the forced cells as the released guide's own fill.sh prints them over the translation 8debcfedc6407602… (all of the seat's roots in one cut). By AI agents, Wed Nov 11 2026. No macro, syntax, notation, axiom, sorry.
-/
import Derived.Test.YtkelageigeoajaaDoorChecked
import GoSem.Claim
import GoSem.ClaimJoined
import GoSem.ClaimMapViews
import Derived.JoinedTies
import Derived.KernelRfl
namespace Go.Proofs.YtkelageigeoajaaDoor
/- THE CELL 'sum', in the pinned program and in every row, IS THE sha256 OF THE DUMP (.gsa) THAT YtkelageigeoajaaDoorProg.lean LOADS. Nothing in Lean hashes anything: it is a label: what it is worth is what the hold of that sum in a sandbox is worth. -/
noncomputable def Tryd.pinned : Pinned := { name := "ytkelageigeoajaadoor", sum := "8debcfedc640760231cf2170e90543120d11e09dd9aad6494a710ef0c85e04ac", checked := Tryd.checked }
namespace Rows
def none {H : Type} : Left H := { results := [], args := [] }

/- WHAT THE LISTED PACKAGE-LEVEL VARIABLES READ AS WHEN THE CALL BEGINS. Each datum BY PROGRAM (the guide's laid-datum.mjs) off the statement by which the dump's own 'gosem.cut.vars' lays the variable. In a bare row this is a premise. The card (YtkelageigeoajaaDoorCards.lean) ties it to the program's text. -/
def laid_typecase_props_lasts {H : Type} : DataW H := .agg [.lit (.int .i32 42), .lit (.int .i32 96), .lit (.int .i32 180), .lit (.int .i32 1023), .lit (.int .i32 1563), .lit (.int .i32 1644), .lit (.int .i32 1749), .lit (.int .i32 3654), .lit (.int .i32 8232), .lit (.int .i32 8383), .lit (.int .i32 12298), .lit (.int .i32 64335), .lit (.int .i32 917999)]

/-- 'typecaselaw49.PicksWord': WHATEVER THE INPUT: true; the input reads as it did. -/
def picksWordSpec : ChangeSpec := { name := "picksWord", fn := fun _ => fun
  | [d1, d2] => { results := [.lit (.bool true)], args := [d1, d2] }
  | _ => none }
def picksWordRow : OpenClaim := { program := "ytkelageigeoajaadoor", sum := "8debcfedc640760231cf2170e90543120d11e09dd9aad6494a710ef0c85e04ac", func := "typecase/typecaselaw49.PicksWord", spec := "picksWord", named := ["typecase/props.lasts"], apart := false, laid := [("typecase/props.lasts", laid_typecase_props_lasts)] }
def PicksWordSaid : Prop := picksWordRow.holds Tryd.pinned (OpenSpec.ofChange picksWordSpec)

/-- ITS FALSE NEIGHBOUR: 'it returns false'. Refute it at one input. -/
def picksWordWrong : ChangeSpec := { name := "picksWord", fn := fun _ => fun
  | [d1, d2] => { results := [.lit (.bool false)], args := [d1, d2] }
  | _ => none }
def PicksWordWrongFalsely : Prop := picksWordRow.holds Tryd.pinned (OpenSpec.ofChange picksWordWrong)

/- THE SECOND FORM. 'bulk': how many values and letters a reading holds, each counted each time it is reached (what is shared counts as often as it is met; a slice's spare places count too). A statement '..UptoSaid' is the law's where the arguments, and the package variables that the reading takes, are together of bulk at most 1048576: NARROWER than '..Said'. Prove '..Said' where nothing that the law and all that it calls make is longer than what came in: it says more and counts as full. Else prove '..UptoSaid'. A law counts once. -/
mutual
def uptoBulk {H : Type} : DataW H → Nat
  | .lit (.string bytes) => bytes.length + 1
  | .lit _ => 1
  | .nil => 1
  | .ptr d => uptoBulk d + 1
  | .slice elems spare => uptoBulkAll elems + uptoBulkAll spare + 1
  | .agg parts => uptoBulkAll parts + 1
  | .iface _ d => uptoBulk d + 1
  | .map entries => uptoBulkEntries entries + 1
  | .held _ => 1
def uptoBulkAll {H : Type} : List (DataW H) → Nat
  | [] => 0
  | d :: r => uptoBulk d + uptoBulkAll r
def uptoBulkEntries {H : Type} : List (Lit × DataW H) → Nat
  | [] => 0
  | x :: r => uptoBulkEntry x + uptoBulkEntries r
def uptoBulkEntry {H : Type} : Lit × DataW H → Nat
  | (.string bytes, d) => bytes.length + uptoBulk d + 1
  | (_, d) => uptoBulk d + 1
 end
def uptoSmall : (H : Type) → List (DataW H) → Bool := fun _ ds => decide (uptoBulkAll ds ≤ 1048576)
def OpenSpec.upto (s : _root_.Go.ChangeSpec) : _root_.Go.OpenSpec := { _root_.Go.OpenSpec.ofChange s with cond := some uptoSmall }

/-- 'typecaselaw49.PicksWord', WHERE WHAT IT READS IS OF BULK AT MOST 1048576: true; the input reads as it did. -/
def picksWordUptoRow : OpenClaim := { program := "ytkelageigeoajaadoor", sum := "8debcfedc640760231cf2170e90543120d11e09dd9aad6494a710ef0c85e04ac", func := "typecase/typecaselaw49.PicksWord", spec := "picksWord", named := ["typecase/props.lasts"], apart := false, laid := [("typecase/props.lasts", laid_typecase_props_lasts)], narrowed := true }
def PicksWordUptoSaid : Prop := picksWordUptoRow.holds Tryd.pinned (OpenSpec.upto picksWordSpec)

end Rows
end Go.Proofs.YtkelageigeoajaaDoor
