/-
  No cell of these rows narrows 'for every input' (looked for: loops, veiled, ifaces, maps, wideKeys, modest, calm, conditions, laid).
  DERIVED. THE GIVEN ROWS OF THIS SEAT. 7 by the template 'for every input the law returns true; each argument reads behind the call as it read before'; 0 by the template 'total and deterministic' (their statements: YtmpnfnngjeojlaaTotals.lean).
  GIVEN WITH THE SEED: the statements are not yours to turn. If you find one false, say at which input.
  Laid BY PROGRAM, IN A SANDBOX (cutbox-rows.mjs): the forced cells as the released guide's own fill.sh prints them over the translation 97d3f989e3df73d5… (all of the seat's roots in one cut). By AI agents, Wed Nov 11 2026. No macro, syntax, notation, axiom, sorry.
-/
import Derived.Test.YtmpnfnngjeojlaaChecked
import GoSem.Claim
import GoSem.ClaimJoined
import GoSem.ClaimMapViews
import Derived.JoinedTies
import Derived.KernelRfl
namespace Go.Proofs.Ytmpnfnngjeojlaa
/- THE CELL 'sum', in the pinned program and in every row, IS THE sha256 OF THE DUMP (.gsa) THAT YtmpnfnngjeojlaaProg.lean LOADS. Nothing in Lean hashes anything: it is a label: what it is worth is what the hold of that sum in a sandbox is worth. -/
noncomputable def Try.pinned : Pinned := { name := "ytmpnfnngjeojlaa", sum := "97d3f989e3df73d5af9889b057127f843e9172d44a1d9959e99856cadab054f2", checked := Try.checked }
namespace Rows
def none {H : Type} : Left H := { results := [], args := [] }

/-- 'shipyardlaw23.NestChecks': WHATEVER THE INPUT: true; the input reads as it did. -/
def nestChecksSpec : ChangeSpec := { name := "nestChecks", fn := fun _ => fun
  | [d] => { results := [.lit (.bool true)], args := [d] }
  | _ => none }
def nestChecksRow : OpenClaim := { program := "ytmpnfnngjeojlaa", sum := "97d3f989e3df73d5af9889b057127f843e9172d44a1d9959e99856cadab054f2", func := "shipyard/shipyardlaw23.NestChecks", spec := "nestChecks", unfollowed := true, recurses := true, apart := false }
def NestChecksSaid : Prop := nestChecksRow.holds Try.pinned (OpenSpec.ofChange nestChecksSpec)

/-- ITS FALSE NEIGHBOUR: 'it returns false'. Refute it at one input. -/
def nestChecksWrong : ChangeSpec := { name := "nestChecks", fn := fun _ => fun
  | [d] => { results := [.lit (.bool false)], args := [d] }
  | _ => none }
def NestChecksWrongFalsely : Prop := nestChecksRow.holds Try.pinned (OpenSpec.ofChange nestChecksWrong)

/-- 'shipyardlaw23.NestShapes': WHATEVER THE INPUT: true; the input reads as it did. -/
def nestShapesSpec : ChangeSpec := { name := "nestShapes", fn := fun _ => fun
  | [d] => { results := [.lit (.bool true)], args := [d] }
  | _ => none }
def nestShapesRow : OpenClaim := { program := "ytmpnfnngjeojlaa", sum := "97d3f989e3df73d5af9889b057127f843e9172d44a1d9959e99856cadab054f2", func := "shipyard/shipyardlaw23.NestShapes", spec := "nestShapes", unfollowed := true, recurses := true, apart := false }
def NestShapesSaid : Prop := nestShapesRow.holds Try.pinned (OpenSpec.ofChange nestShapesSpec)

/-- ITS FALSE NEIGHBOUR: 'it returns false'. Refute it at one input. -/
def nestShapesWrong : ChangeSpec := { name := "nestShapes", fn := fun _ => fun
  | [d] => { results := [.lit (.bool false)], args := [d] }
  | _ => none }
def NestShapesWrongFalsely : Prop := nestShapesRow.holds Try.pinned (OpenSpec.ofChange nestShapesWrong)

/-- 'shipyardlaw23.NestFewer': WHATEVER THE INPUT: true; the input reads as it did. -/
def nestFewerSpec : ChangeSpec := { name := "nestFewer", fn := fun _ => fun
  | [d1, d2, d3] => { results := [.lit (.bool true)], args := [d1, d2, d3] }
  | _ => none }
def nestFewerRow : OpenClaim := { program := "ytmpnfnngjeojlaa", sum := "97d3f989e3df73d5af9889b057127f843e9172d44a1d9959e99856cadab054f2", func := "shipyard/shipyardlaw23.NestFewer", spec := "nestFewer", unfollowed := true, recurses := true, apart := false }
def NestFewerSaid : Prop := nestFewerRow.holds Try.pinned (OpenSpec.ofChange nestFewerSpec)

/-- ITS FALSE NEIGHBOUR: 'it returns false'. Refute it at one input. -/
def nestFewerWrong : ChangeSpec := { name := "nestFewer", fn := fun _ => fun
  | [d1, d2, d3] => { results := [.lit (.bool false)], args := [d1, d2, d3] }
  | _ => none }
def NestFewerWrongFalsely : Prop := nestFewerRow.holds Try.pinned (OpenSpec.ofChange nestFewerWrong)

/-- 'shipyardlaw23.NestTurned': WHATEVER THE INPUT: true; the input reads as it did. -/
def nestTurnedSpec : ChangeSpec := { name := "nestTurned", fn := fun _ => fun
  | [d] => { results := [.lit (.bool true)], args := [d] }
  | _ => none }
def nestTurnedRow : OpenClaim := { program := "ytmpnfnngjeojlaa", sum := "97d3f989e3df73d5af9889b057127f843e9172d44a1d9959e99856cadab054f2", func := "shipyard/shipyardlaw23.NestTurned", spec := "nestTurned", unfollowed := true, recurses := true, apart := false }
def NestTurnedSaid : Prop := nestTurnedRow.holds Try.pinned (OpenSpec.ofChange nestTurnedSpec)

/-- ITS FALSE NEIGHBOUR: 'it returns false'. Refute it at one input. -/
def nestTurnedWrong : ChangeSpec := { name := "nestTurned", fn := fun _ => fun
  | [d] => { results := [.lit (.bool false)], args := [d] }
  | _ => none }
def NestTurnedWrongFalsely : Prop := nestTurnedRow.holds Try.pinned (OpenSpec.ofChange nestTurnedWrong)

/-- 'shipyardlaw23.NestAdds': WHATEVER THE INPUT: true; the input reads as it did. -/
def nestAddsSpec : ChangeSpec := { name := "nestAdds", fn := fun _ => fun
  | [d1, d2] => { results := [.lit (.bool true)], args := [d1, d2] }
  | _ => none }
def nestAddsRow : OpenClaim := { program := "ytmpnfnngjeojlaa", sum := "97d3f989e3df73d5af9889b057127f843e9172d44a1d9959e99856cadab054f2", func := "shipyard/shipyardlaw23.NestAdds", spec := "nestAdds", unfollowed := true, recurses := true, apart := false }
def NestAddsSaid : Prop := nestAddsRow.holds Try.pinned (OpenSpec.ofChange nestAddsSpec)

/-- ITS FALSE NEIGHBOUR: 'it returns false'. Refute it at one input. -/
def nestAddsWrong : ChangeSpec := { name := "nestAdds", fn := fun _ => fun
  | [d1, d2] => { results := [.lit (.bool false)], args := [d1, d2] }
  | _ => none }
def NestAddsWrongFalsely : Prop := nestAddsRow.holds Try.pinned (OpenSpec.ofChange nestAddsWrong)

/-- 'shipyardlaw23.NestErrors': WHATEVER THE INPUT: true; the input reads as it did. -/
def nestErrorsSpec : ChangeSpec := { name := "nestErrors", fn := fun _ => fun
  | [d1, d2] => { results := [.lit (.bool true)], args := [d1, d2] }
  | _ => none }
def nestErrorsRow : OpenClaim := { program := "ytmpnfnngjeojlaa", sum := "97d3f989e3df73d5af9889b057127f843e9172d44a1d9959e99856cadab054f2", func := "shipyard/shipyardlaw23.NestErrors", spec := "nestErrors", unfollowed := true, recurses := true, apart := false }
def NestErrorsSaid : Prop := nestErrorsRow.holds Try.pinned (OpenSpec.ofChange nestErrorsSpec)

/-- ITS FALSE NEIGHBOUR: 'it returns false'. Refute it at one input. -/
def nestErrorsWrong : ChangeSpec := { name := "nestErrors", fn := fun _ => fun
  | [d1, d2] => { results := [.lit (.bool false)], args := [d1, d2] }
  | _ => none }
def NestErrorsWrongFalsely : Prop := nestErrorsRow.holds Try.pinned (OpenSpec.ofChange nestErrorsWrong)

/-- 'shipyardlaw23.NestApart': WHATEVER THE INPUT: true; the input reads as it did. -/
def nestApartSpec : ChangeSpec := { name := "nestApart", fn := fun _ => fun
  | [d1, d2] => { results := [.lit (.bool true)], args := [d1, d2] }
  | _ => none }
def nestApartRow : OpenClaim := { program := "ytmpnfnngjeojlaa", sum := "97d3f989e3df73d5af9889b057127f843e9172d44a1d9959e99856cadab054f2", func := "shipyard/shipyardlaw23.NestApart", spec := "nestApart", unfollowed := true, recurses := true, apart := false }
def NestApartSaid : Prop := nestApartRow.holds Try.pinned (OpenSpec.ofChange nestApartSpec)

/-- ITS FALSE NEIGHBOUR: 'it returns false'. Refute it at one input. -/
def nestApartWrong : ChangeSpec := { name := "nestApart", fn := fun _ => fun
  | [d1, d2] => { results := [.lit (.bool false)], args := [d1, d2] }
  | _ => none }
def NestApartWrongFalsely : Prop := nestApartRow.holds Try.pinned (OpenSpec.ofChange nestApartWrong)

/- THE SECOND FORM. 'bulk': how many values and letters a reading holds, each counted each time it is reached (what is shared counts as often as it is met; a slice's spare places count too). A statement '..UptoSaid' is the law's where the arguments, and the package variables that the reading takes, are together of bulk at most 1048576: NARROWER than '..Said'. Prove '..Said' where nothing that the law and all that it calls make is longer than what came in: it says more and counts as full. Else prove '..UptoSaid'. A law counts once. -/
mutual
def uptoBulk {H : Type} : DataW H → Nat
  | .lit (.string bytes) => bytes.length + 1
  | .lit _ => 1
  | .nil => 1
  | .ptr d => uptoBulk d + 1
  | .slice elems spare => uptoBulkAll elems + uptoBulkAll spare + 1
  | .agg parts => uptoBulkAll parts + 1
  | .iface _ d => uptoBulk d + 1
  | .map entries => uptoBulkEntries entries + 1
  | .held _ => 1
def uptoBulkAll {H : Type} : List (DataW H) → Nat
  | [] => 0
  | d :: r => uptoBulk d + uptoBulkAll r
def uptoBulkEntries {H : Type} : List (Lit × DataW H) → Nat
  | [] => 0
  | x :: r => uptoBulkEntry x + uptoBulkEntries r
def uptoBulkEntry {H : Type} : Lit × DataW H → Nat
  | (.string bytes, d) => bytes.length + uptoBulk d + 1
  | (_, d) => uptoBulk d + 1
 end
def uptoSmall : (H : Type) → List (DataW H) → Bool := fun _ ds => decide (uptoBulkAll ds ≤ 1048576)
def OpenSpec.upto (s : _root_.Go.ChangeSpec) : _root_.Go.OpenSpec := { _root_.Go.OpenSpec.ofChange s with cond := some uptoSmall }

/-- 'shipyardlaw23.NestChecks', WHERE WHAT IT READS IS OF BULK AT MOST 1048576: true; the input reads as it did. -/
def nestChecksUptoRow : OpenClaim := { program := "ytmpnfnngjeojlaa", sum := "97d3f989e3df73d5af9889b057127f843e9172d44a1d9959e99856cadab054f2", func := "shipyard/shipyardlaw23.NestChecks", spec := "nestChecks", unfollowed := true, recurses := true, apart := false, narrowed := true }
def NestChecksUptoSaid : Prop := nestChecksUptoRow.holds Try.pinned (OpenSpec.upto nestChecksSpec)

/-- 'shipyardlaw23.NestShapes', WHERE WHAT IT READS IS OF BULK AT MOST 1048576: true; the input reads as it did. -/
def nestShapesUptoRow : OpenClaim := { program := "ytmpnfnngjeojlaa", sum := "97d3f989e3df73d5af9889b057127f843e9172d44a1d9959e99856cadab054f2", func := "shipyard/shipyardlaw23.NestShapes", spec := "nestShapes", unfollowed := true, recurses := true, apart := false, narrowed := true }
def NestShapesUptoSaid : Prop := nestShapesUptoRow.holds Try.pinned (OpenSpec.upto nestShapesSpec)

/-- 'shipyardlaw23.NestFewer', WHERE WHAT IT READS IS OF BULK AT MOST 1048576: true; the input reads as it did. -/
def nestFewerUptoRow : OpenClaim := { program := "ytmpnfnngjeojlaa", sum := "97d3f989e3df73d5af9889b057127f843e9172d44a1d9959e99856cadab054f2", func := "shipyard/shipyardlaw23.NestFewer", spec := "nestFewer", unfollowed := true, recurses := true, apart := false, narrowed := true }
def NestFewerUptoSaid : Prop := nestFewerUptoRow.holds Try.pinned (OpenSpec.upto nestFewerSpec)

/-- 'shipyardlaw23.NestTurned', WHERE WHAT IT READS IS OF BULK AT MOST 1048576: true; the input reads as it did. -/
def nestTurnedUptoRow : OpenClaim := { program := "ytmpnfnngjeojlaa", sum := "97d3f989e3df73d5af9889b057127f843e9172d44a1d9959e99856cadab054f2", func := "shipyard/shipyardlaw23.NestTurned", spec := "nestTurned", unfollowed := true, recurses := true, apart := false, narrowed := true }
def NestTurnedUptoSaid : Prop := nestTurnedUptoRow.holds Try.pinned (OpenSpec.upto nestTurnedSpec)

/-- 'shipyardlaw23.NestAdds', WHERE WHAT IT READS IS OF BULK AT MOST 1048576: true; the input reads as it did. -/
def nestAddsUptoRow : OpenClaim := { program := "ytmpnfnngjeojlaa", sum := "97d3f989e3df73d5af9889b057127f843e9172d44a1d9959e99856cadab054f2", func := "shipyard/shipyardlaw23.NestAdds", spec := "nestAdds", unfollowed := true, recurses := true, apart := false, narrowed := true }
def NestAddsUptoSaid : Prop := nestAddsUptoRow.holds Try.pinned (OpenSpec.upto nestAddsSpec)

/-- 'shipyardlaw23.NestErrors', WHERE WHAT IT READS IS OF BULK AT MOST 1048576: true; the input reads as it did. -/
def nestErrorsUptoRow : OpenClaim := { program := "ytmpnfnngjeojlaa", sum := "97d3f989e3df73d5af9889b057127f843e9172d44a1d9959e99856cadab054f2", func := "shipyard/shipyardlaw23.NestErrors", spec := "nestErrors", unfollowed := true, recurses := true, apart := false, narrowed := true }
def NestErrorsUptoSaid : Prop := nestErrorsUptoRow.holds Try.pinned (OpenSpec.upto nestErrorsSpec)

/-- 'shipyardlaw23.NestApart', WHERE WHAT IT READS IS OF BULK AT MOST 1048576: true; the input reads as it did. -/
def nestApartUptoRow : OpenClaim := { program := "ytmpnfnngjeojlaa", sum := "97d3f989e3df73d5af9889b057127f843e9172d44a1d9959e99856cadab054f2", func := "shipyard/shipyardlaw23.NestApart", spec := "nestApart", unfollowed := true, recurses := true, apart := false, narrowed := true }
def NestApartUptoSaid : Prop := nestApartUptoRow.holds Try.pinned (OpenSpec.upto nestApartSpec)

end Rows
end Go.Proofs.Ytmpnfnngjeojlaa
