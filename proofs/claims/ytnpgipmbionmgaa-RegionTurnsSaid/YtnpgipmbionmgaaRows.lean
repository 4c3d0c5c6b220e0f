/-
  No cell of these rows narrows 'for every input' (looked for: loops, veiled, ifaces, maps, wideKeys, modest, calm, conditions, laid).
  DERIVED. THE GIVEN ROWS OF THIS SEAT. 9 by the template 'for every input the law returns true; each argument reads behind the call as it read before'; 0 by the template 'total and deterministic' (their statements: YtnpgipmbionmgaaTotals.lean).
  GIVEN WITH THE SEED: the statements are not yours to turn. If you find one false, say at which input.
  Laid BY PROGRAM, IN A SANDBOX (cutbox-rows.mjs): the forced cells as the released guide's own fill.sh prints them over the translation 66e651467a599228… (all of the seat's roots in one cut). By AI agents, Wed Nov 11 2026. No macro, syntax, notation, axiom, sorry.
-/
import Derived.Test.YtnpgipmbionmgaaChecked
import GoSem.Claim
import GoSem.ClaimJoined
import GoSem.ClaimMapViews
import Derived.JoinedTies
import Derived.KernelRfl
namespace Go.Proofs.Ytnpgipmbionmgaa
/- THE CELL 'sum', in the pinned program and in every row, IS THE sha256 OF THE DUMP (.gsa) THAT YtnpgipmbionmgaaProg.lean LOADS. Nothing in Lean hashes anything: it is a label: what it is worth is what the hold of that sum in a sandbox is worth. -/
noncomputable def Try.pinned : Pinned := { name := "ytnpgipmbionmgaa", sum := "66e651467a599228394a512f40e071269961a63e29ed14c79339ce4845627000", checked := Try.checked }
namespace Rows
def none {H : Type} : Left H := { results := [], args := [] }

/-- 'shipyardlaw13.RegionChecks': WHATEVER THE INPUT: true; the input reads as it did. -/
def regionChecksSpec : ChangeSpec := { name := "regionChecks", fn := fun _ => fun
  | [d] => { results := [.lit (.bool true)], args := [d] }
  | _ => none }
def regionChecksRow : OpenClaim := { program := "ytnpgipmbionmgaa", sum := "66e651467a599228394a512f40e071269961a63e29ed14c79339ce4845627000", func := "shipyard/shipyardlaw13.RegionChecks", spec := "regionChecks", unfollowed := true, recurses := true, apart := false }
def RegionChecksSaid : Prop := regionChecksRow.holds Try.pinned (OpenSpec.ofChange regionChecksSpec)

/-- ITS FALSE NEIGHBOUR: 'it returns false'. Refute it at one input. -/
def regionChecksWrong : ChangeSpec := { name := "regionChecks", fn := fun _ => fun
  | [d] => { results := [.lit (.bool false)], args := [d] }
  | _ => none }
def RegionChecksWrongFalsely : Prop := regionChecksRow.holds Try.pinned (OpenSpec.ofChange regionChecksWrong)

/-- 'shipyardlaw13.RegionSums': WHATEVER THE INPUT: true; the input reads as it did. -/
def regionSumsSpec : ChangeSpec := { name := "regionSums", fn := fun _ => fun
  | [d] => { results := [.lit (.bool true)], args := [d] }
  | _ => none }
def regionSumsRow : OpenClaim := { program := "ytnpgipmbionmgaa", sum := "66e651467a599228394a512f40e071269961a63e29ed14c79339ce4845627000", func := "shipyard/shipyardlaw13.RegionSums", spec := "regionSums", unfollowed := true, recurses := true, apart := false }
def RegionSumsSaid : Prop := regionSumsRow.holds Try.pinned (OpenSpec.ofChange regionSumsSpec)

/-- ITS FALSE NEIGHBOUR: 'it returns false'. Refute it at one input. -/
def regionSumsWrong : ChangeSpec := { name := "regionSums", fn := fun _ => fun
  | [d] => { results := [.lit (.bool false)], args := [d] }
  | _ => none }
def RegionSumsWrongFalsely : Prop := regionSumsRow.holds Try.pinned (OpenSpec.ofChange regionSumsWrong)

/-- 'shipyardlaw13.RegionWheres': WHATEVER THE INPUT: true; the input reads as it did. -/
def regionWheresSpec : ChangeSpec := { name := "regionWheres", fn := fun _ => fun
  | [d1, d2] => { results := [.lit (.bool true)], args := [d1, d2] }
  | _ => none }
def regionWheresRow : OpenClaim := { program := "ytnpgipmbionmgaa", sum := "66e651467a599228394a512f40e071269961a63e29ed14c79339ce4845627000", func := "shipyard/shipyardlaw13.RegionWheres", spec := "regionWheres", unfollowed := true, recurses := true, apart := false }
def RegionWheresSaid : Prop := regionWheresRow.holds Try.pinned (OpenSpec.ofChange regionWheresSpec)

/-- ITS FALSE NEIGHBOUR: 'it returns false'. Refute it at one input. -/
def regionWheresWrong : ChangeSpec := { name := "regionWheres", fn := fun _ => fun
  | [d1, d2] => { results := [.lit (.bool false)], args := [d1, d2] }
  | _ => none }
def RegionWheresWrongFalsely : Prop := regionWheresRow.holds Try.pinned (OpenSpec.ofChange regionWheresWrong)

/-- 'shipyardlaw13.RegionMoves': WHATEVER THE INPUT: true; the input reads as it did. -/
def regionMovesSpec : ChangeSpec := { name := "regionMoves", fn := fun _ => fun
  | [d1, d2] => { results := [.lit (.bool true)], args := [d1, d2] }
  | _ => none }
def regionMovesRow : OpenClaim := { program := "ytnpgipmbionmgaa", sum := "66e651467a599228394a512f40e071269961a63e29ed14c79339ce4845627000", func := "shipyard/shipyardlaw13.RegionMoves", spec := "regionMoves", unfollowed := true, recurses := true, apart := false }
def RegionMovesSaid : Prop := regionMovesRow.holds Try.pinned (OpenSpec.ofChange regionMovesSpec)

/-- ITS FALSE NEIGHBOUR: 'it returns false'. Refute it at one input. -/
def regionMovesWrong : ChangeSpec := { name := "regionMoves", fn := fun _ => fun
  | [d1, d2] => { results := [.lit (.bool false)], args := [d1, d2] }
  | _ => none }
def RegionMovesWrongFalsely : Prop := regionMovesRow.holds Try.pinned (OpenSpec.ofChange regionMovesWrong)

/-- 'shipyardlaw13.RegionClears': WHATEVER THE INPUT: true; the input reads as it did. -/
def regionClearsSpec : ChangeSpec := { name := "regionClears", fn := fun _ => fun
  | [d1, d2, d3] => { results := [.lit (.bool true)], args := [d1, d2, d3] }
  | _ => none }
def regionClearsRow : OpenClaim := { program := "ytnpgipmbionmgaa", sum := "66e651467a599228394a512f40e071269961a63e29ed14c79339ce4845627000", func := "shipyard/shipyardlaw13.RegionClears", spec := "regionClears", unfollowed := true, recurses := true, apart := false }
def RegionClearsSaid : Prop := regionClearsRow.holds Try.pinned (OpenSpec.ofChange regionClearsSpec)

/-- ITS FALSE NEIGHBOUR: 'it returns false'. Refute it at one input. -/
def regionClearsWrong : ChangeSpec := { name := "regionClears", fn := fun _ => fun
  | [d1, d2, d3] => { results := [.lit (.bool false)], args := [d1, d2, d3] }
  | _ => none }
def RegionClearsWrongFalsely : Prop := regionClearsRow.holds Try.pinned (OpenSpec.ofChange regionClearsWrong)

/-- 'shipyardlaw13.RegionWithins': WHATEVER THE INPUT: true; the input reads as it did. -/
def regionWithinsSpec : ChangeSpec := { name := "regionWithins", fn := fun _ => fun
  | [d1, d2] => { results := [.lit (.bool true)], args := [d1, d2] }
  | _ => none }
def regionWithinsRow : OpenClaim := { program := "ytnpgipmbionmgaa", sum := "66e651467a599228394a512f40e071269961a63e29ed14c79339ce4845627000", func := "shipyard/shipyardlaw13.RegionWithins", spec := "regionWithins", unfollowed := true, recurses := true, apart := false }
def RegionWithinsSaid : Prop := regionWithinsRow.holds Try.pinned (OpenSpec.ofChange regionWithinsSpec)

/-- ITS FALSE NEIGHBOUR: 'it returns false'. Refute it at one input. -/
def regionWithinsWrong : ChangeSpec := { name := "regionWithins", fn := fun _ => fun
  | [d1, d2] => { results := [.lit (.bool false)], args := [d1, d2] }
  | _ => none }
def RegionWithinsWrongFalsely : Prop := regionWithinsRow.holds Try.pinned (OpenSpec.ofChange regionWithinsWrong)

/-- 'shipyardlaw13.RegionTurns': WHATEVER THE INPUT: true; the input reads as it did. -/
def regionTurnsSpec : ChangeSpec := { name := "regionTurns", fn := fun _ => fun
  | [d1, d2, d3] => { results := [.lit (.bool true)], args := [d1, d2, d3] }
  | _ => none }
def regionTurnsRow : OpenClaim := { program := "ytnpgipmbionmgaa", sum := "66e651467a599228394a512f40e071269961a63e29ed14c79339ce4845627000", func := "shipyard/shipyardlaw13.RegionTurns", spec := "regionTurns", unfollowed := true, recurses := true, apart := false }
def RegionTurnsSaid : Prop := regionTurnsRow.holds Try.pinned (OpenSpec.ofChange regionTurnsSpec)

/-- ITS FALSE NEIGHBOUR: 'it returns false'. Refute it at one input. -/
def regionTurnsWrong : ChangeSpec := { name := "regionTurns", fn := fun _ => fun
  | [d1, d2, d3] => { results := [.lit (.bool false)], args := [d1, d2, d3] }
  | _ => none }
def RegionTurnsWrongFalsely : Prop := regionTurnsRow.holds Try.pinned (OpenSpec.ofChange regionTurnsWrong)

/-- 'shipyardlaw13.RegionApart': WHATEVER THE INPUT: true; the input reads as it did. -/
def regionApartSpec : ChangeSpec := { name := "regionApart", fn := fun _ => fun
  | [d1, d2, d3] => { results := [.lit (.bool true)], args := [d1, d2, d3] }
  | _ => none }
def regionApartRow : OpenClaim := { program := "ytnpgipmbionmgaa", sum := "66e651467a599228394a512f40e071269961a63e29ed14c79339ce4845627000", func := "shipyard/shipyardlaw13.RegionApart", spec := "regionApart", unfollowed := true, recurses := true, apart := false }
def RegionApartSaid : Prop := regionApartRow.holds Try.pinned (OpenSpec.ofChange regionApartSpec)

/-- ITS FALSE NEIGHBOUR: 'it returns false'. Refute it at one input. -/
def regionApartWrong : ChangeSpec := { name := "regionApart", fn := fun _ => fun
  | [d1, d2, d3] => { results := [.lit (.bool false)], args := [d1, d2, d3] }
  | _ => none }
def RegionApartWrongFalsely : Prop := regionApartRow.holds Try.pinned (OpenSpec.ofChange regionApartWrong)

/-- 'shipyardlaw13.RegionHoles': WHATEVER THE INPUT: true; the input reads as it did. -/
def regionHolesSpec : ChangeSpec := { name := "regionHoles", fn := fun _ => fun
  | [d1, d2, d3] => { results := [.lit (.bool true)], args := [d1, d2, d3] }
  | _ => none }
def regionHolesRow : OpenClaim := { program := "ytnpgipmbionmgaa", sum := "66e651467a599228394a512f40e071269961a63e29ed14c79339ce4845627000", func := "shipyard/shipyardlaw13.RegionHoles", spec := "regionHoles", unfollowed := true, recurses := true, apart := false }
def RegionHolesSaid : Prop := regionHolesRow.holds Try.pinned (OpenSpec.ofChange regionHolesSpec)

/-- ITS FALSE NEIGHBOUR: 'it returns false'. Refute it at one input. -/
def regionHolesWrong : ChangeSpec := { name := "regionHoles", fn := fun _ => fun
  | [d1, d2, d3] => { results := [.lit (.bool false)], args := [d1, d2, d3] }
  | _ => none }
def RegionHolesWrongFalsely : Prop := regionHolesRow.holds Try.pinned (OpenSpec.ofChange regionHolesWrong)

/- THE SECOND FORM. 'bulk': how many values and letters a reading holds, each counted each time it is reached (what is shared counts as often as it is met; a slice's spare places count too). A statement '..UptoSaid' is the law's where the arguments, and the package variables that the reading takes, are together of bulk at most 1048576: NARROWER than '..Said'. Prove '..Said' where nothing that the law and all that it calls make is longer than what came in: it says more and counts as full. Else prove '..UptoSaid'. A law counts once. -/
mutual
def uptoBulk {H : Type} : DataW H → Nat
  | .lit (.string bytes) => bytes.length + 1
  | .lit _ => 1
  | .nil => 1
  | .ptr d => uptoBulk d + 1
  | .slice elems spare => uptoBulkAll elems + uptoBulkAll spare + 1
  | .agg parts => uptoBulkAll parts + 1
  | .iface _ d => uptoBulk d + 1
  | .map entries => uptoBulkEntries entries + 1
  | .held _ => 1
def uptoBulkAll {H : Type} : List (DataW H) → Nat
  | [] => 0
  | d :: r => uptoBulk d + uptoBulkAll r
def uptoBulkEntries {H : Type} : List (Lit × DataW H) → Nat
  | [] => 0
  | x :: r => uptoBulkEntry x + uptoBulkEntries r
def uptoBulkEntry {H : Type} : Lit × DataW H → Nat
  | (.string bytes, d) => bytes.length + uptoBulk d + 1
  | (_, d) => uptoBulk d + 1
 end
def uptoSmall : (H : Type) → List (DataW H) → Bool := fun _ ds => decide (uptoBulkAll ds ≤ 1048576)
def OpenSpec.upto (s : _root_.Go.ChangeSpec) : _root_.Go.OpenSpec := { _root_.Go.OpenSpec.ofChange s with cond := some uptoSmall }

/-- 'shipyardlaw13.RegionChecks', WHERE WHAT IT READS IS OF BULK AT MOST 1048576: true; the input reads as it did. -/
def regionChecksUptoRow : OpenClaim := { program := "ytnpgipmbionmgaa", sum := "66e651467a599228394a512f40e071269961a63e29ed14c79339ce4845627000", func := "shipyard/shipyardlaw13.RegionChecks", spec := "regionChecks", unfollowed := true, recurses := true, apart := false, narrowed := true }
def RegionChecksUptoSaid : Prop := regionChecksUptoRow.holds Try.pinned (OpenSpec.upto regionChecksSpec)

/-- 'shipyardlaw13.RegionSums', WHERE WHAT IT READS IS OF BULK AT MOST 1048576: true; the input reads as it did. -/
def regionSumsUptoRow : OpenClaim := { program := "ytnpgipmbionmgaa", sum := "66e651467a599228394a512f40e071269961a63e29ed14c79339ce4845627000", func := "shipyard/shipyardlaw13.RegionSums", spec := "regionSums", unfollowed := true, recurses := true, apart := false, narrowed := true }
def RegionSumsUptoSaid : Prop := regionSumsUptoRow.holds Try.pinned (OpenSpec.upto regionSumsSpec)

/-- 'shipyardlaw13.RegionWheres', WHERE WHAT IT READS IS OF BULK AT MOST 1048576: true; the input reads as it did. -/
def regionWheresUptoRow : OpenClaim := { program := "ytnpgipmbionmgaa", sum := "66e651467a599228394a512f40e071269961a63e29ed14c79339ce4845627000", func := "shipyard/shipyardlaw13.RegionWheres", spec := "regionWheres", unfollowed := true, recurses := true, apart := false, narrowed := true }
def RegionWheresUptoSaid : Prop := regionWheresUptoRow.holds Try.pinned (OpenSpec.upto regionWheresSpec)

/-- 'shipyardlaw13.RegionMoves', WHERE WHAT IT READS IS OF BULK AT MOST 1048576: true; the input reads as it did. -/
def regionMovesUptoRow : OpenClaim := { program := "ytnpgipmbionmgaa", sum := "66e651467a599228394a512f40e071269961a63e29ed14c79339ce4845627000", func := "shipyard/shipyardlaw13.RegionMoves", spec := "regionMoves", unfollowed := true, recurses := true, apart := false, narrowed := true }
def RegionMovesUptoSaid : Prop := regionMovesUptoRow.holds Try.pinned (OpenSpec.upto regionMovesSpec)

/-- 'shipyardlaw13.RegionClears', WHERE WHAT IT READS IS OF BULK AT MOST 1048576: true; the input reads as it did. -/
def regionClearsUptoRow : OpenClaim := { program := "ytnpgipmbionmgaa", sum := "66e651467a599228394a512f40e071269961a63e29ed14c79339ce4845627000", func := "shipyard/shipyardlaw13.RegionClears", spec := "regionClears", unfollowed := true, recurses := true, apart := false, narrowed := true }
def RegionClearsUptoSaid : Prop := regionClearsUptoRow.holds Try.pinned (OpenSpec.upto regionClearsSpec)

/-- 'shipyardlaw13.RegionWithins', WHERE WHAT IT READS IS OF BULK AT MOST 1048576: true; the input reads as it did. -/
def regionWithinsUptoRow : OpenClaim := { program := "ytnpgipmbionmgaa", sum := "66e651467a599228394a512f40e071269961a63e29ed14c79339ce4845627000", func := "shipyard/shipyardlaw13.RegionWithins", spec := "regionWithins", unfollowed := true, recurses := true, apart := false, narrowed := true }
def RegionWithinsUptoSaid : Prop := regionWithinsUptoRow.holds Try.pinned (OpenSpec.upto regionWithinsSpec)

/-- 'shipyardlaw13.RegionTurns', WHERE WHAT IT READS IS OF BULK AT MOST 1048576: true; the input reads as it did. -/
def regionTurnsUptoRow : OpenClaim := { program := "ytnpgipmbionmgaa", sum := "66e651467a599228394a512f40e071269961a63e29ed14c79339ce4845627000", func := "shipyard/shipyardlaw13.RegionTurns", spec := "regionTurns", unfollowed := true, recurses := true, apart := false, narrowed := true }
def RegionTurnsUptoSaid : Prop := regionTurnsUptoRow.holds Try.pinned (OpenSpec.upto regionTurnsSpec)

/-- 'shipyardlaw13.RegionApart', WHERE WHAT IT READS IS OF BULK AT MOST 1048576: true; the input reads as it did. -/
def regionApartUptoRow : OpenClaim := { program := "ytnpgipmbionmgaa", sum := "66e651467a599228394a512f40e071269961a63e29ed14c79339ce4845627000", func := "shipyard/shipyardlaw13.RegionApart", spec := "regionApart", unfollowed := true, recurses := true, apart := false, narrowed := true }
def RegionApartUptoSaid : Prop := regionApartUptoRow.holds Try.pinned (OpenSpec.upto regionApartSpec)

/-- 'shipyardlaw13.RegionHoles', WHERE WHAT IT READS IS OF BULK AT MOST 1048576: true; the input reads as it did. -/
def regionHolesUptoRow : OpenClaim := { program := "ytnpgipmbionmgaa", sum := "66e651467a599228394a512f40e071269961a63e29ed14c79339ce4845627000", func := "shipyard/shipyardlaw13.RegionHoles", spec := "regionHoles", unfollowed := true, recurses := true, apart := false, narrowed := true }
def RegionHolesUptoSaid : Prop := regionHolesUptoRow.holds Try.pinned (OpenSpec.upto regionHolesSpec)

end Rows
end Go.Proofs.Ytnpgipmbionmgaa
