/-
  NARROWER THAN 'FOR EVERY INPUT', by the rows' own cells (each row's printed sentence says how): NesterRects: laid · NesterLess: laid.
  DERIVED. THE GIVEN ROWS OF THIS SEAT. 2 by the template 'for every input the law returns true; each argument reads behind the call as it read before'; 0 by the template 'total and deterministic' (their statements: YtkknnlhhchielaaDoorTotals.lean).
  GIVEN WITH THE SEED: the statements are not yours to turn. If you find one false, say at which input.
  Laid BY PROGRAM, IN A SANDBOX (cutbox-rows.mjs): the forced cells as the released guide's own fill.sh prints them over the translation 3680a9fbf8279699… (all of the seat's roots in one cut). By AI agents, Wed Nov 11 2026. No macro, syntax, notation, axiom, sorry.
-/
import Derived.Test.YtkknnlhhchielaaDoorChecked
import GoSem.Claim
import GoSem.ClaimJoined
import GoSem.ClaimMapViews
import Derived.JoinedTies
import Derived.KernelRfl
namespace Go.Proofs.YtkknnlhhchielaaDoor
/- THE CELL 'sum', in the pinned program and in every row, IS THE sha256 OF THE DUMP (.gsa) THAT YtkknnlhhchielaaDoorProg.lean LOADS. Nothing in Lean hashes anything: it is a label: what it is worth is what the hold of that sum in a sandbox is worth. -/
noncomputable def Tryd.pinned : Pinned := { name := "ytkknnlhhchielaadoor", sum := "3680a9fbf8279699834f3d35c927f6d53d5db250acaa0345f0cb4000ef49407c", checked := Tryd.checked }
namespace Rows
def none {H : Type} : Left H := { results := [], args := [] }

/- WHAT THE LISTED PACKAGE-LEVEL VARIABLES READ AS WHEN THE CALL BEGINS. Each datum BY PROGRAM (the guide's laid-datum.mjs) off the statement by which the dump's own 'gosem.cut.vars' lays the variable. In a bare row this is a premise. The card (YtkknnlhhchielaaDoorCards.lean) ties it to the program's text. -/
def laid_shipyard_nester_budget {H : Type} : DataW H := .agg [.lit (.int .i64 1), .lit (.int .i64 3), .lit (.int .i64 21), .lit (.int .i64 343), .lit (.int .i64 10473)]

/-- 'shipyardlaw24.NesterRects': WHATEVER THE INPUT: true; the input reads as it did. -/
def nesterRectsSpec : ChangeSpec := { name := "nesterRects", fn := fun _ => fun
  | [d1, d2, d3] => { results := [.lit (.bool true)], args := [d1, d2, d3] }
  | _ => none }
def nesterRectsRow : OpenClaim := { program := "ytkknnlhhchielaadoor", sum := "3680a9fbf8279699834f3d35c927f6d53d5db250acaa0345f0cb4000ef49407c", func := "shipyard/shipyardlaw24.NesterRects", spec := "nesterRects", unfollowed := true, recurses := true, named := ["shipyard/nester.budget"], apart := false, laid := [("shipyard/nester.budget", laid_shipyard_nester_budget)] }
def NesterRectsSaid : Prop := nesterRectsRow.holds Tryd.pinned (OpenSpec.ofChange nesterRectsSpec)

/-- ITS FALSE NEIGHBOUR: 'it returns false'. Refute it at one input. -/
def nesterRectsWrong : ChangeSpec := { name := "nesterRects", fn := fun _ => fun
  | [d1, d2, d3] => { results := [.lit (.bool false)], args := [d1, d2, d3] }
  | _ => none }
def NesterRectsWrongFalsely : Prop := nesterRectsRow.holds Tryd.pinned (OpenSpec.ofChange nesterRectsWrong)

/-- 'shipyardlaw24.NesterLess': WHATEVER THE INPUT: true; the input reads as it did. -/
def nesterLessSpec : ChangeSpec := { name := "nesterLess", fn := fun _ => fun
  | [d1, d2] => { results := [.lit (.bool true)], args := [d1, d2] }
  | _ => none }
def nesterLessRow : OpenClaim := { program := "ytkknnlhhchielaadoor", sum := "3680a9fbf8279699834f3d35c927f6d53d5db250acaa0345f0cb4000ef49407c", func := "shipyard/shipyardlaw24.NesterLess", spec := "nesterLess", unfollowed := true, recurses := true, named := ["shipyard/nester.budget"], apart := false, laid := [("shipyard/nester.budget", laid_shipyard_nester_budget)] }
def NesterLessSaid : Prop := nesterLessRow.holds Tryd.pinned (OpenSpec.ofChange nesterLessSpec)

/-- ITS FALSE NEIGHBOUR: 'it returns false'. Refute it at one input. -/
def nesterLessWrong : ChangeSpec := { name := "nesterLess", fn := fun _ => fun
  | [d1, d2] => { results := [.lit (.bool false)], args := [d1, d2] }
  | _ => none }
def NesterLessWrongFalsely : Prop := nesterLessRow.holds Tryd.pinned (OpenSpec.ofChange nesterLessWrong)

/- THE SECOND FORM. 'bulk': how many values and letters a reading holds, each counted each time it is reached (what is shared counts as often as it is met; a slice's spare places count too). A statement '..UptoSaid' is the law's where the arguments, and the package variables that the reading takes, are together of bulk at most 1048576: NARROWER than '..Said'. Prove '..Said' where nothing that the law and all that it calls make is longer than what came in: it says more and counts as full. Else prove '..UptoSaid'. A law counts once. -/
mutual
def uptoBulk {H : Type} : DataW H → Nat
  | .lit (.string bytes) => bytes.length + 1
  | .lit _ => 1
  | .nil => 1
  | .ptr d => uptoBulk d + 1
  | .slice elems spare => uptoBulkAll elems + uptoBulkAll spare + 1
  | .agg parts => uptoBulkAll parts + 1
  | .iface _ d => uptoBulk d + 1
  | .map entries => uptoBulkEntries entries + 1
  | .held _ => 1
def uptoBulkAll {H : Type} : List (DataW H) → Nat
  | [] => 0
  | d :: r => uptoBulk d + uptoBulkAll r
def uptoBulkEntries {H : Type} : List (Lit × DataW H) → Nat
  | [] => 0
  | x :: r => uptoBulkEntry x + uptoBulkEntries r
def uptoBulkEntry {H : Type} : Lit × DataW H → Nat
  | (.string bytes, d) => bytes.length + uptoBulk d + 1
  | (_, d) => uptoBulk d + 1
 end
def uptoSmall : (H : Type) → List (DataW H) → Bool := fun _ ds => decide (uptoBulkAll ds ≤ 1048576)
def OpenSpec.upto (s : _root_.Go.ChangeSpec) : _root_.Go.OpenSpec := { _root_.Go.OpenSpec.ofChange s with cond := some uptoSmall }

/-- 'shipyardlaw24.NesterRects', WHERE WHAT IT READS IS OF BULK AT MOST 1048576: true; the input reads as it did. -/
def nesterRectsUptoRow : OpenClaim := { program := "ytkknnlhhchielaadoor", sum := "3680a9fbf8279699834f3d35c927f6d53d5db250acaa0345f0cb4000ef49407c", func := "shipyard/shipyardlaw24.NesterRects", spec := "nesterRects", unfollowed := true, recurses := true, named := ["shipyard/nester.budget"], apart := false, laid := [("shipyard/nester.budget", laid_shipyard_nester_budget)], narrowed := true }
def NesterRectsUptoSaid : Prop := nesterRectsUptoRow.holds Tryd.pinned (OpenSpec.upto nesterRectsSpec)

/-- 'shipyardlaw24.NesterLess', WHERE WHAT IT READS IS OF BULK AT MOST 1048576: true; the input reads as it did. -/
def nesterLessUptoRow : OpenClaim := { program := "ytkknnlhhchielaadoor", sum := "3680a9fbf8279699834f3d35c927f6d53d5db250acaa0345f0cb4000ef49407c", func := "shipyard/shipyardlaw24.NesterLess", spec := "nesterLess", unfollowed := true, recurses := true, named := ["shipyard/nester.budget"], apart := false, laid := [("shipyard/nester.budget", laid_shipyard_nester_budget)], narrowed := true }
def NesterLessUptoSaid : Prop := nesterLessUptoRow.holds Tryd.pinned (OpenSpec.upto nesterLessSpec)

end Rows
end Go.Proofs.YtkknnlhhchielaaDoor
