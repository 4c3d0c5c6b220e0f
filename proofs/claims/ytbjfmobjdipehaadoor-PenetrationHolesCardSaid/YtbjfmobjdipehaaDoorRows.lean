/-
  NARROWER THAN 'FOR EVERY INPUT', by the rows' own cells (each row's printed sentence says how): PenetrationCrosses: laid · PenetrationCovers: laid · PenetrationHoles: laid · PenetrationBack: laid · PenetrationSmaller: laid · PenetrationMoved: laid.
  DERIVED. THE GIVEN ROWS OF THIS SEAT. 6 by the template 'for every input the law returns true; each argument reads behind the call as it read before'; 0 by the template 'total and deterministic' (their statements: YtbjfmobjdipehaaDoorTotals.lean).
  GIVEN WITH THE SEED: the statements are not yours to turn. If you find one false, say at which input.
  Laid BY PROGRAM, IN A SANDBOX (cutbox-rows.mjs): the forced cells as the released guide's own fill.sh prints them over the translation 3d8e9d44bf2a536b… (all of the seat's roots in one cut). By AI agents, Wed Nov 11 2026. No macro, syntax, notation, axiom, sorry.
-/
import Derived.Test.YtbjfmobjdipehaaDoorChecked
import GoSem.Claim
import GoSem.ClaimJoined
import GoSem.ClaimMapViews
import Derived.JoinedTies
import Derived.KernelRfl
namespace Go.Proofs.YtbjfmobjdipehaaDoor
/- THE CELL 'sum', in the pinned program and in every row, IS THE sha256 OF THE DUMP (.gsa) THAT YtbjfmobjdipehaaDoorProg.lean LOADS. Nothing in Lean hashes anything: it is a label: what it is worth is what the hold of that sum in a sandbox is worth. -/
noncomputable def Tryd.pinned : Pinned := { name := "ytbjfmobjdipehaadoor", sum := "3d8e9d44bf2a536be0308703728596e8693ddced38198f57f839c6d2e0078c7b", checked := Tryd.checked }
namespace Rows
def none {H : Type} : Left H := { results := [], args := [] }

/- WHAT THE LISTED PACKAGE-LEVEL VARIABLES READ AS WHEN THE CALL BEGINS. Each datum BY PROGRAM (the guide's laid-datum.mjs) off the statement by which the dump's own 'gosem.cut.vars' lays the variable. In a bare row this is a premise. The card (YtbjfmobjdipehaaDoorCards.lean) ties it to the program's text. -/
def laid_shipyard_vec_probe {H : Type} : DataW H := .agg [.lit (.int .i64 1), .lit (.int .i64 2), .lit (.int .i64 3)]

/-- 'shipyardlaw46.PenetrationCrosses': WHATEVER THE INPUT: true; the input reads as it did. -/
def penetrationCrossesSpec : ChangeSpec := { name := "penetrationCrosses", fn := fun _ => fun
  | [d1, d2, d3] => { results := [.lit (.bool true)], args := [d1, d2, d3] }
  | _ => none }
def penetrationCrossesRow : OpenClaim := { program := "ytbjfmobjdipehaadoor", sum := "3d8e9d44bf2a536be0308703728596e8693ddced38198f57f839c6d2e0078c7b", func := "shipyard/shipyardlaw46.PenetrationCrosses", spec := "penetrationCrosses", unfollowed := true, recurses := true, named := ["shipyard/vec.probe"], apart := false, laid := [("shipyard/vec.probe", laid_shipyard_vec_probe)] }
def PenetrationCrossesSaid : Prop := penetrationCrossesRow.holds Tryd.pinned (OpenSpec.ofChange penetrationCrossesSpec)

/-- ITS FALSE NEIGHBOUR: 'it returns false'. Refute it at one input. -/
def penetrationCrossesWrong : ChangeSpec := { name := "penetrationCrosses", fn := fun _ => fun
  | [d1, d2, d3] => { results := [.lit (.bool false)], args := [d1, d2, d3] }
  | _ => none }
def PenetrationCrossesWrongFalsely : Prop := penetrationCrossesRow.holds Tryd.pinned (OpenSpec.ofChange penetrationCrossesWrong)

/-- 'shipyardlaw46.PenetrationCovers': WHATEVER THE INPUT: true; the input reads as it did. -/
def penetrationCoversSpec : ChangeSpec := { name := "penetrationCovers", fn := fun _ => fun
  | [d1, d2] => { results := [.lit (.bool true)], args := [d1, d2] }
  | _ => none }
def penetrationCoversRow : OpenClaim := { program := "ytbjfmobjdipehaadoor", sum := "3d8e9d44bf2a536be0308703728596e8693ddced38198f57f839c6d2e0078c7b", func := "shipyard/shipyardlaw46.PenetrationCovers", spec := "penetrationCovers", unfollowed := true, recurses := true, named := ["shipyard/vec.probe"], apart := false, laid := [("shipyard/vec.probe", laid_shipyard_vec_probe)] }
def PenetrationCoversSaid : Prop := penetrationCoversRow.holds Tryd.pinned (OpenSpec.ofChange penetrationCoversSpec)

/-- ITS FALSE NEIGHBOUR: 'it returns false'. Refute it at one input. -/
def penetrationCoversWrong : ChangeSpec := { name := "penetrationCovers", fn := fun _ => fun
  | [d1, d2] => { results := [.lit (.bool false)], args := [d1, d2] }
  | _ => none }
def PenetrationCoversWrongFalsely : Prop := penetrationCoversRow.holds Tryd.pinned (OpenSpec.ofChange penetrationCoversWrong)

/-- 'shipyardlaw46.PenetrationHoles': WHATEVER THE INPUT: true; the input reads as it did. -/
def penetrationHolesSpec : ChangeSpec := { name := "penetrationHoles", fn := fun _ => fun
  | [d1, d2, d3] => { results := [.lit (.bool true)], args := [d1, d2, d3] }
  | _ => none }
def penetrationHolesRow : OpenClaim := { program := "ytbjfmobjdipehaadoor", sum := "3d8e9d44bf2a536be0308703728596e8693ddced38198f57f839c6d2e0078c7b", func := "shipyard/shipyardlaw46.PenetrationHoles", spec := "penetrationHoles", unfollowed := true, recurses := true, named := ["shipyard/vec.probe"], apart := false, laid := [("shipyard/vec.probe", laid_shipyard_vec_probe)] }
def PenetrationHolesSaid : Prop := penetrationHolesRow.holds Tryd.pinned (OpenSpec.ofChange penetrationHolesSpec)

/-- ITS FALSE NEIGHBOUR: 'it returns false'. Refute it at one input. -/
def penetrationHolesWrong : ChangeSpec := { name := "penetrationHoles", fn := fun _ => fun
  | [d1, d2, d3] => { results := [.lit (.bool false)], args := [d1, d2, d3] }
  | _ => none }
def PenetrationHolesWrongFalsely : Prop := penetrationHolesRow.holds Tryd.pinned (OpenSpec.ofChange penetrationHolesWrong)

/-- 'shipyardlaw46.PenetrationBack': WHATEVER THE INPUT: true; the input reads as it did. -/
def penetrationBackSpec : ChangeSpec := { name := "penetrationBack", fn := fun _ => fun
  | [d1, d2, d3] => { results := [.lit (.bool true)], args := [d1, d2, d3] }
  | _ => none }
def penetrationBackRow : OpenClaim := { program := "ytbjfmobjdipehaadoor", sum := "3d8e9d44bf2a536be0308703728596e8693ddced38198f57f839c6d2e0078c7b", func := "shipyard/shipyardlaw46.PenetrationBack", spec := "penetrationBack", unfollowed := true, recurses := true, named := ["shipyard/vec.probe"], apart := false, laid := [("shipyard/vec.probe", laid_shipyard_vec_probe)] }
def PenetrationBackSaid : Prop := penetrationBackRow.holds Tryd.pinned (OpenSpec.ofChange penetrationBackSpec)

/-- ITS FALSE NEIGHBOUR: 'it returns false'. Refute it at one input. -/
def penetrationBackWrong : ChangeSpec := { name := "penetrationBack", fn := fun _ => fun
  | [d1, d2, d3] => { results := [.lit (.bool false)], args := [d1, d2, d3] }
  | _ => none }
def PenetrationBackWrongFalsely : Prop := penetrationBackRow.holds Tryd.pinned (OpenSpec.ofChange penetrationBackWrong)

/-- 'shipyardlaw46.PenetrationSmaller': WHATEVER THE INPUT: true; the input reads as it did. -/
def penetrationSmallerSpec : ChangeSpec := { name := "penetrationSmaller", fn := fun _ => fun
  | [d1, d2, d3] => { results := [.lit (.bool true)], args := [d1, d2, d3] }
  | _ => none }
def penetrationSmallerRow : OpenClaim := { program := "ytbjfmobjdipehaadoor", sum := "3d8e9d44bf2a536be0308703728596e8693ddced38198f57f839c6d2e0078c7b", func := "shipyard/shipyardlaw46.PenetrationSmaller", spec := "penetrationSmaller", unfollowed := true, recurses := true, named := ["shipyard/vec.probe"], apart := false, laid := [("shipyard/vec.probe", laid_shipyard_vec_probe)] }
def PenetrationSmallerSaid : Prop := penetrationSmallerRow.holds Tryd.pinned (OpenSpec.ofChange penetrationSmallerSpec)

/-- ITS FALSE NEIGHBOUR: 'it returns false'. Refute it at one input. -/
def penetrationSmallerWrong : ChangeSpec := { name := "penetrationSmaller", fn := fun _ => fun
  | [d1, d2, d3] => { results := [.lit (.bool false)], args := [d1, d2, d3] }
  | _ => none }
def PenetrationSmallerWrongFalsely : Prop := penetrationSmallerRow.holds Tryd.pinned (OpenSpec.ofChange penetrationSmallerWrong)

/-- 'shipyardlaw46.PenetrationMoved': WHATEVER THE INPUT: true; the input reads as it did. -/
def penetrationMovedSpec : ChangeSpec := { name := "penetrationMoved", fn := fun _ => fun
  | [d] => { results := [.lit (.bool true)], args := [d] }
  | _ => none }
def penetrationMovedRow : OpenClaim := { program := "ytbjfmobjdipehaadoor", sum := "3d8e9d44bf2a536be0308703728596e8693ddced38198f57f839c6d2e0078c7b", func := "shipyard/shipyardlaw46.PenetrationMoved", spec := "penetrationMoved", unfollowed := true, recurses := true, named := ["shipyard/vec.probe"], apart := false, laid := [("shipyard/vec.probe", laid_shipyard_vec_probe)] }
def PenetrationMovedSaid : Prop := penetrationMovedRow.holds Tryd.pinned (OpenSpec.ofChange penetrationMovedSpec)

/-- ITS FALSE NEIGHBOUR: 'it returns false'. Refute it at one input. -/
def penetrationMovedWrong : ChangeSpec := { name := "penetrationMoved", fn := fun _ => fun
  | [d] => { results := [.lit (.bool false)], args := [d] }
  | _ => none }
def PenetrationMovedWrongFalsely : Prop := penetrationMovedRow.holds Tryd.pinned (OpenSpec.ofChange penetrationMovedWrong)

/- THE SECOND FORM. 'bulk': how many values and letters a reading holds, each counted each time it is reached (what is shared counts as often as it is met; a slice's spare places count too). A statement '..UptoSaid' is the law's where the arguments, and the package variables that the reading takes, are together of bulk at most 1048576: NARROWER than '..Said'. Prove '..Said' where nothing that the law and all that it calls make is longer than what came in: it says more and counts as full. Else prove '..UptoSaid'. A law counts once. -/
mutual
def uptoBulk {H : Type} : DataW H → Nat
  | .lit (.string bytes) => bytes.length + 1
  | .lit _ => 1
  | .nil => 1
  | .ptr d => uptoBulk d + 1
  | .slice elems spare => uptoBulkAll elems + uptoBulkAll spare + 1
  | .agg parts => uptoBulkAll parts + 1
  | .iface _ d => uptoBulk d + 1
  | .map entries => uptoBulkEntries entries + 1
  | .held _ => 1
def uptoBulkAll {H : Type} : List (DataW H) → Nat
  | [] => 0
  | d :: r => uptoBulk d + uptoBulkAll r
def uptoBulkEntries {H : Type} : List (Lit × DataW H) → Nat
  | [] => 0
  | x :: r => uptoBulkEntry x + uptoBulkEntries r
def uptoBulkEntry {H : Type} : Lit × DataW H → Nat
  | (.string bytes, d) => bytes.length + uptoBulk d + 1
  | (_, d) => uptoBulk d + 1
 end
def uptoSmall : (H : Type) → List (DataW H) → Bool := fun _ ds => decide (uptoBulkAll ds ≤ 1048576)
def OpenSpec.upto (s : _root_.Go.ChangeSpec) : _root_.Go.OpenSpec := { _root_.Go.OpenSpec.ofChange s with cond := some uptoSmall }

/-- 'shipyardlaw46.PenetrationCrosses', WHERE WHAT IT READS IS OF BULK AT MOST 1048576: true; the input reads as it did. -/
def penetrationCrossesUptoRow : OpenClaim := { program := "ytbjfmobjdipehaadoor", sum := "3d8e9d44bf2a536be0308703728596e8693ddced38198f57f839c6d2e0078c7b", func := "shipyard/shipyardlaw46.PenetrationCrosses", spec := "penetrationCrosses", unfollowed := true, recurses := true, named := ["shipyard/vec.probe"], apart := false, laid := [("shipyard/vec.probe", laid_shipyard_vec_probe)], narrowed := true }
def PenetrationCrossesUptoSaid : Prop := penetrationCrossesUptoRow.holds Tryd.pinned (OpenSpec.upto penetrationCrossesSpec)

/-- 'shipyardlaw46.PenetrationCovers', WHERE WHAT IT READS IS OF BULK AT MOST 1048576: true; the input reads as it did. -/
def penetrationCoversUptoRow : OpenClaim := { program := "ytbjfmobjdipehaadoor", sum := "3d8e9d44bf2a536be0308703728596e8693ddced38198f57f839c6d2e0078c7b", func := "shipyard/shipyardlaw46.PenetrationCovers", spec := "penetrationCovers", unfollowed := true, recurses := true, named := ["shipyard/vec.probe"], apart := false, laid := [("shipyard/vec.probe", laid_shipyard_vec_probe)], narrowed := true }
def PenetrationCoversUptoSaid : Prop := penetrationCoversUptoRow.holds Tryd.pinned (OpenSpec.upto penetrationCoversSpec)

/-- 'shipyardlaw46.PenetrationHoles', WHERE WHAT IT READS IS OF BULK AT MOST 1048576: true; the input reads as it did. -/
def penetrationHolesUptoRow : OpenClaim := { program := "ytbjfmobjdipehaadoor", sum := "3d8e9d44bf2a536be0308703728596e8693ddced38198f57f839c6d2e0078c7b", func := "shipyard/shipyardlaw46.PenetrationHoles", spec := "penetrationHoles", unfollowed := true, recurses := true, named := ["shipyard/vec.probe"], apart := false, laid := [("shipyard/vec.probe", laid_shipyard_vec_probe)], narrowed := true }
def PenetrationHolesUptoSaid : Prop := penetrationHolesUptoRow.holds Tryd.pinned (OpenSpec.upto penetrationHolesSpec)

/-- 'shipyardlaw46.PenetrationBack', WHERE WHAT IT READS IS OF BULK AT MOST 1048576: true; the input reads as it did. -/
def penetrationBackUptoRow : OpenClaim := { program := "ytbjfmobjdipehaadoor", sum := "3d8e9d44bf2a536be0308703728596e8693ddced38198f57f839c6d2e0078c7b", func := "shipyard/shipyardlaw46.PenetrationBack", spec := "penetrationBack", unfollowed := true, recurses := true, named := ["shipyard/vec.probe"], apart := false, laid := [("shipyard/vec.probe", laid_shipyard_vec_probe)], narrowed := true }
def PenetrationBackUptoSaid : Prop := penetrationBackUptoRow.holds Tryd.pinned (OpenSpec.upto penetrationBackSpec)

/-- 'shipyardlaw46.PenetrationSmaller', WHERE WHAT IT READS IS OF BULK AT MOST 1048576: true; the input reads as it did. -/
def penetrationSmallerUptoRow : OpenClaim := { program := "ytbjfmobjdipehaadoor", sum := "3d8e9d44bf2a536be0308703728596e8693ddced38198f57f839c6d2e0078c7b", func := "shipyard/shipyardlaw46.PenetrationSmaller", spec := "penetrationSmaller", unfollowed := true, recurses := true, named := ["shipyard/vec.probe"], apart := false, laid := [("shipyard/vec.probe", laid_shipyard_vec_probe)], narrowed := true }
def PenetrationSmallerUptoSaid : Prop := penetrationSmallerUptoRow.holds Tryd.pinned (OpenSpec.upto penetrationSmallerSpec)

/-- 'shipyardlaw46.PenetrationMoved', WHERE WHAT IT READS IS OF BULK AT MOST 1048576: true; the input reads as it did. -/
def penetrationMovedUptoRow : OpenClaim := { program := "ytbjfmobjdipehaadoor", sum := "3d8e9d44bf2a536be0308703728596e8693ddced38198f57f839c6d2e0078c7b", func := "shipyard/shipyardlaw46.PenetrationMoved", spec := "penetrationMoved", unfollowed := true, recurses := true, named := ["shipyard/vec.probe"], apart := false, laid := [("shipyard/vec.probe", laid_shipyard_vec_probe)], narrowed := true }
def PenetrationMovedUptoSaid : Prop := penetrationMovedUptoRow.holds Tryd.pinned (OpenSpec.upto penetrationMovedSpec)

end Rows
end Go.Proofs.YtbjfmobjdipehaaDoor
