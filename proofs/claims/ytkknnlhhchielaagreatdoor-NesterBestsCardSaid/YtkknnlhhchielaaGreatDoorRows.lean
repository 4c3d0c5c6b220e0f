/-
  NARROWER THAN 'FOR EVERY INPUT', by the rows' own cells (each row's printed sentence says how): NesterFills: laid · NesterBests: laid · NesterFull: laid · NesterChecked: laid.
  DERIVED. THE GIVEN ROWS OF THIS SEAT. 4 by the template 'for every input the law returns true; each argument reads behind the call as it read before'; 0 by the template 'total and deterministic' (their statements: YtkknnlhhchielaaGreatDoorTotals.lean).
  GIVEN WITH THE SEED: the statements are not yours to turn. If you find one false, say at which input.
  Laid BY PROGRAM, IN A SANDBOX (cutbox-rows.mjs): the forced cells as the released guide's own fill.sh prints them over the translation 500cdf1e52a7a04f… (all of the seat's roots in one cut). By AI agents, Wed Nov 11 2026. No macro, syntax, notation, axiom, sorry.
-/
import Derived.Test.YtkknnlhhchielaaGreatDoorChecked
import GoSem.Claim
import GoSem.ClaimJoined
import GoSem.ClaimMapViews
import Derived.JoinedTies
import Derived.KernelRfl
namespace Go.Proofs.YtkknnlhhchielaaGreatDoor
/- THE CELL 'sum', in the pinned program and in every row, IS THE sha256 OF THE DUMP (.gsa) THAT YtkknnlhhchielaaGreatDoorProg.lean LOADS. Nothing in Lean hashes anything: it is a label: what it is worth is what the hold of that sum in a sandbox is worth. -/
noncomputable def Tryz.pinned : Pinned := { name := "ytkknnlhhchielaagreatdoor", sum := "500cdf1e52a7a04ff8681d835f3faff0296b26ba7bddd0ce175ad58aced133ff", checked := Tryz.checked }
namespace Rows
def none {H : Type} : Left H := { results := [], args := [] }

/- WHAT THE LISTED PACKAGE-LEVEL VARIABLES READ AS WHEN THE CALL BEGINS. Each datum BY PROGRAM (the guide's laid-datum.mjs) off the statement by which the dump's own 'gosem.cut.vars' lays the variable. In a bare row this is a premise. The card (YtkknnlhhchielaaGreatDoorCards.lean) ties it to the program's text. -/
def laid_shipyard_nester_budget {H : Type} : DataW H := .agg [.lit (.int .i64 1), .lit (.int .i64 3), .lit (.int .i64 21), .lit (.int .i64 343), .lit (.int .i64 10473)]

/-- 'shipyardlaw24.NesterFills': WHATEVER THE INPUT: true; the input reads as it did. -/
def nesterFillsSpec : ChangeSpec := { name := "nesterFills", fn := fun _ => fun
  | [d1, d2, d3] => { results := [.lit (.bool true)], args := [d1, d2, d3] }
  | _ => none }
def nesterFillsRow : OpenClaim := { program := "ytkknnlhhchielaagreatdoor", sum := "500cdf1e52a7a04ff8681d835f3faff0296b26ba7bddd0ce175ad58aced133ff", func := "shipyard/shipyardlaw24.NesterFills", spec := "nesterFills", unfollowed := true, recurses := true, named := ["shipyard/nester.budget"], apart := false, laid := [("shipyard/nester.budget", laid_shipyard_nester_budget)] }
def NesterFillsSaid : Prop := nesterFillsRow.holds Tryz.pinned (OpenSpec.ofChange nesterFillsSpec)

/-- ITS FALSE NEIGHBOUR: 'it returns false'. Refute it at one input. -/
def nesterFillsWrong : ChangeSpec := { name := "nesterFills", fn := fun _ => fun
  | [d1, d2, d3] => { results := [.lit (.bool false)], args := [d1, d2, d3] }
  | _ => none }
def NesterFillsWrongFalsely : Prop := nesterFillsRow.holds Tryz.pinned (OpenSpec.ofChange nesterFillsWrong)

/-- 'shipyardlaw24.NesterBests': WHATEVER THE INPUT: true; the input reads as it did. -/
def nesterBestsSpec : ChangeSpec := { name := "nesterBests", fn := fun _ => fun
  | [d1, d2] => { results := [.lit (.bool true)], args := [d1, d2] }
  | _ => none }
def nesterBestsRow : OpenClaim := { program := "ytkknnlhhchielaagreatdoor", sum := "500cdf1e52a7a04ff8681d835f3faff0296b26ba7bddd0ce175ad58aced133ff", func := "shipyard/shipyardlaw24.NesterBests", spec := "nesterBests", unfollowed := true, recurses := true, named := ["shipyard/nester.budget"], apart := false, laid := [("shipyard/nester.budget", laid_shipyard_nester_budget)] }
def NesterBestsSaid : Prop := nesterBestsRow.holds Tryz.pinned (OpenSpec.ofChange nesterBestsSpec)

/-- ITS FALSE NEIGHBOUR: 'it returns false'. Refute it at one input. -/
def nesterBestsWrong : ChangeSpec := { name := "nesterBests", fn := fun _ => fun
  | [d1, d2] => { results := [.lit (.bool false)], args := [d1, d2] }
  | _ => none }
def NesterBestsWrongFalsely : Prop := nesterBestsRow.holds Tryz.pinned (OpenSpec.ofChange nesterBestsWrong)

/-- 'shipyardlaw24.NesterFull': WHATEVER THE INPUT: true; the input reads as it did. -/
def nesterFullSpec : ChangeSpec := { name := "nesterFull", fn := fun _ => fun
  | [d1, d2] => { results := [.lit (.bool true)], args := [d1, d2] }
  | _ => none }
def nesterFullRow : OpenClaim := { program := "ytkknnlhhchielaagreatdoor", sum := "500cdf1e52a7a04ff8681d835f3faff0296b26ba7bddd0ce175ad58aced133ff", func := "shipyard/shipyardlaw24.NesterFull", spec := "nesterFull", unfollowed := true, recurses := true, named := ["shipyard/nester.budget"], apart := false, laid := [("shipyard/nester.budget", laid_shipyard_nester_budget)] }
def NesterFullSaid : Prop := nesterFullRow.holds Tryz.pinned (OpenSpec.ofChange nesterFullSpec)

/-- ITS FALSE NEIGHBOUR: 'it returns false'. Refute it at one input. -/
def nesterFullWrong : ChangeSpec := { name := "nesterFull", fn := fun _ => fun
  | [d1, d2] => { results := [.lit (.bool false)], args := [d1, d2] }
  | _ => none }
def NesterFullWrongFalsely : Prop := nesterFullRow.holds Tryz.pinned (OpenSpec.ofChange nesterFullWrong)

/-- 'shipyardlaw24.NesterChecked': WHATEVER THE INPUT: true; the input reads as it did. -/
def nesterCheckedSpec : ChangeSpec := { name := "nesterChecked", fn := fun _ => fun
  | [d1, d2] => { results := [.lit (.bool true)], args := [d1, d2] }
  | _ => none }
def nesterCheckedRow : OpenClaim := { program := "ytkknnlhhchielaagreatdoor", sum := "500cdf1e52a7a04ff8681d835f3faff0296b26ba7bddd0ce175ad58aced133ff", func := "shipyard/shipyardlaw24.NesterChecked", spec := "nesterChecked", unfollowed := true, recurses := true, named := ["shipyard/nester.budget"], apart := false, laid := [("shipyard/nester.budget", laid_shipyard_nester_budget)] }
def NesterCheckedSaid : Prop := nesterCheckedRow.holds Tryz.pinned (OpenSpec.ofChange nesterCheckedSpec)

/-- ITS FALSE NEIGHBOUR: 'it returns false'. Refute it at one input. -/
def nesterCheckedWrong : ChangeSpec := { name := "nesterChecked", fn := fun _ => fun
  | [d1, d2] => { results := [.lit (.bool false)], args := [d1, d2] }
  | _ => none }
def NesterCheckedWrongFalsely : Prop := nesterCheckedRow.holds Tryz.pinned (OpenSpec.ofChange nesterCheckedWrong)

/- THE SECOND FORM. 'bulk': how many values and letters a reading holds, each counted each time it is reached (what is shared counts as often as it is met; a slice's spare places count too). A statement '..UptoSaid' is the law's where the arguments, and the package variables that the reading takes, are together of bulk at most 1048576: NARROWER than '..Said'. Prove '..Said' where nothing that the law and all that it calls make is longer than what came in: it says more and counts as full. Else prove '..UptoSaid'. A law counts once. -/
mutual
def uptoBulk {H : Type} : DataW H → Nat
  | .lit (.string bytes) => bytes.length + 1
  | .lit _ => 1
  | .nil => 1
  | .ptr d => uptoBulk d + 1
  | .slice elems spare => uptoBulkAll elems + uptoBulkAll spare + 1
  | .agg parts => uptoBulkAll parts + 1
  | .iface _ d => uptoBulk d + 1
  | .map entries => uptoBulkEntries entries + 1
  | .held _ => 1
def uptoBulkAll {H : Type} : List (DataW H) → Nat
  | [] => 0
  | d :: r => uptoBulk d + uptoBulkAll r
def uptoBulkEntries {H : Type} : List (Lit × DataW H) → Nat
  | [] => 0
  | x :: r => uptoBulkEntry x + uptoBulkEntries r
def uptoBulkEntry {H : Type} : Lit × DataW H → Nat
  | (.string bytes, d) => bytes.length + uptoBulk d + 1
  | (_, d) => uptoBulk d + 1
 end
def uptoSmall : (H : Type) → List (DataW H) → Bool := fun _ ds => decide (uptoBulkAll ds ≤ 1048576)
def OpenSpec.upto (s : _root_.Go.ChangeSpec) : _root_.Go.OpenSpec := { _root_.Go.OpenSpec.ofChange s with cond := some uptoSmall }

/-- 'shipyardlaw24.NesterFills', WHERE WHAT IT READS IS OF BULK AT MOST 1048576: true; the input reads as it did. -/
def nesterFillsUptoRow : OpenClaim := { program := "ytkknnlhhchielaagreatdoor", sum := "500cdf1e52a7a04ff8681d835f3faff0296b26ba7bddd0ce175ad58aced133ff", func := "shipyard/shipyardlaw24.NesterFills", spec := "nesterFills", unfollowed := true, recurses := true, named := ["shipyard/nester.budget"], apart := false, laid := [("shipyard/nester.budget", laid_shipyard_nester_budget)], narrowed := true }
def NesterFillsUptoSaid : Prop := nesterFillsUptoRow.holds Tryz.pinned (OpenSpec.upto nesterFillsSpec)

/-- 'shipyardlaw24.NesterBests', WHERE WHAT IT READS IS OF BULK AT MOST 1048576: true; the input reads as it did. -/
def nesterBestsUptoRow : OpenClaim := { program := "ytkknnlhhchielaagreatdoor", sum := "500cdf1e52a7a04ff8681d835f3faff0296b26ba7bddd0ce175ad58aced133ff", func := "shipyard/shipyardlaw24.NesterBests", spec := "nesterBests", unfollowed := true, recurses := true, named := ["shipyard/nester.budget"], apart := false, laid := [("shipyard/nester.budget", laid_shipyard_nester_budget)], narrowed := true }
def NesterBestsUptoSaid : Prop := nesterBestsUptoRow.holds Tryz.pinned (OpenSpec.upto nesterBestsSpec)

/-- 'shipyardlaw24.NesterFull', WHERE WHAT IT READS IS OF BULK AT MOST 1048576: true; the input reads as it did. -/
def nesterFullUptoRow : OpenClaim := { program := "ytkknnlhhchielaagreatdoor", sum := "500cdf1e52a7a04ff8681d835f3faff0296b26ba7bddd0ce175ad58aced133ff", func := "shipyard/shipyardlaw24.NesterFull", spec := "nesterFull", unfollowed := true, recurses := true, named := ["shipyard/nester.budget"], apart := false, laid := [("shipyard/nester.budget", laid_shipyard_nester_budget)], narrowed := true }
def NesterFullUptoSaid : Prop := nesterFullUptoRow.holds Tryz.pinned (OpenSpec.upto nesterFullSpec)

/-- 'shipyardlaw24.NesterChecked', WHERE WHAT IT READS IS OF BULK AT MOST 1048576: true; the input reads as it did. -/
def nesterCheckedUptoRow : OpenClaim := { program := "ytkknnlhhchielaagreatdoor", sum := "500cdf1e52a7a04ff8681d835f3faff0296b26ba7bddd0ce175ad58aced133ff", func := "shipyard/shipyardlaw24.NesterChecked", spec := "nesterChecked", unfollowed := true, recurses := true, named := ["shipyard/nester.budget"], apart := false, laid := [("shipyard/nester.budget", laid_shipyard_nester_budget)], narrowed := true }
def NesterCheckedUptoSaid : Prop := nesterCheckedUptoRow.holds Tryz.pinned (OpenSpec.upto nesterCheckedSpec)

end Rows
end Go.Proofs.YtkknnlhhchielaaGreatDoor
