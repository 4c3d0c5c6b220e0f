/-
  No cell of these rows narrows 'for every input' (looked for: loops, veiled, ifaces, maps, wideKeys, modest, calm, conditions, laid).
  DERIVED. THE GIVEN ROWS OF THIS SEAT. 9 by the template 'for every input the law returns true; each argument reads behind the call as it read before'; 0 by the template 'total and deterministic' (their statements: YtngjgbhdhaopmaaTotals.lean).
  GIVEN WITH THE SEED: the statements are not yours to turn. If you find one false, say at which input.
  Laid BY PROGRAM, IN A SANDBOX (cutbox-rows.mjs): the forced cells as the released guide's own fill.sh prints them over the translation 4c0b15e104109691… (all of the seat's roots in one cut). By AI agents, Wed Nov 11 2026. No macro, syntax, notation, axiom, sorry.
-/
import Derived.Test.YtngjgbhdhaopmaaChecked
import GoSem.Claim
import GoSem.ClaimJoined
import GoSem.ClaimMapViews
import Derived.JoinedTies
import Derived.KernelRfl
namespace Go.Proofs.Ytngjgbhdhaopmaa
/- THE CELL 'sum', in the pinned program and in every row, IS THE sha256 OF THE DUMP (.gsa) THAT YtngjgbhdhaopmaaProg.lean LOADS. Nothing in Lean hashes anything: it is a label: what it is worth is what the hold of that sum in a sandbox is worth. -/
noncomputable def Try.pinned : Pinned := { name := "ytngjgbhdhaopmaa", sum := "4c0b15e10410969172dd72cf48ee253c2d642249ac57edc078a06ae35da52e0b", checked := Try.checked }
namespace Rows
def none {H : Type} : Left H := { results := [], args := [] }

/-- 'shipyardlaw12.PolyChecks': WHATEVER THE INPUT: true; the input reads as it did. -/
def polyChecksSpec : ChangeSpec := { name := "polyChecks", fn := fun _ => fun
  | [d] => { results := [.lit (.bool true)], args := [d] }
  | _ => none }
def polyChecksRow : OpenClaim := { program := "ytngjgbhdhaopmaa", sum := "4c0b15e10410969172dd72cf48ee253c2d642249ac57edc078a06ae35da52e0b", func := "shipyard/shipyardlaw12.PolyChecks", spec := "polyChecks", unfollowed := true, recurses := true, apart := false }
def PolyChecksSaid : Prop := polyChecksRow.holds Try.pinned (OpenSpec.ofChange polyChecksSpec)

/-- ITS FALSE NEIGHBOUR: 'it returns false'. Refute it at one input. -/
def polyChecksWrong : ChangeSpec := { name := "polyChecks", fn := fun _ => fun
  | [d] => { results := [.lit (.bool false)], args := [d] }
  | _ => none }
def PolyChecksWrongFalsely : Prop := polyChecksRow.holds Try.pinned (OpenSpec.ofChange polyChecksWrong)

/-- 'shipyardlaw12.PolyAreas': WHATEVER THE INPUT: true; the input reads as it did. -/
def polyAreasSpec : ChangeSpec := { name := "polyAreas", fn := fun _ => fun
  | [d] => { results := [.lit (.bool true)], args := [d] }
  | _ => none }
def polyAreasRow : OpenClaim := { program := "ytngjgbhdhaopmaa", sum := "4c0b15e10410969172dd72cf48ee253c2d642249ac57edc078a06ae35da52e0b", func := "shipyard/shipyardlaw12.PolyAreas", spec := "polyAreas", unfollowed := true, recurses := true, apart := false }
def PolyAreasSaid : Prop := polyAreasRow.holds Try.pinned (OpenSpec.ofChange polyAreasSpec)

/-- ITS FALSE NEIGHBOUR: 'it returns false'. Refute it at one input. -/
def polyAreasWrong : ChangeSpec := { name := "polyAreas", fn := fun _ => fun
  | [d] => { results := [.lit (.bool false)], args := [d] }
  | _ => none }
def PolyAreasWrongFalsely : Prop := polyAreasRow.holds Try.pinned (OpenSpec.ofChange polyAreasWrong)

/-- 'shipyardlaw12.PolyWheres': WHATEVER THE INPUT: true; the input reads as it did. -/
def polyWheresSpec : ChangeSpec := { name := "polyWheres", fn := fun _ => fun
  | [d1, d2] => { results := [.lit (.bool true)], args := [d1, d2] }
  | _ => none }
def polyWheresRow : OpenClaim := { program := "ytngjgbhdhaopmaa", sum := "4c0b15e10410969172dd72cf48ee253c2d642249ac57edc078a06ae35da52e0b", func := "shipyard/shipyardlaw12.PolyWheres", spec := "polyWheres", unfollowed := true, recurses := true, apart := false }
def PolyWheresSaid : Prop := polyWheresRow.holds Try.pinned (OpenSpec.ofChange polyWheresSpec)

/-- ITS FALSE NEIGHBOUR: 'it returns false'. Refute it at one input. -/
def polyWheresWrong : ChangeSpec := { name := "polyWheres", fn := fun _ => fun
  | [d1, d2] => { results := [.lit (.bool false)], args := [d1, d2] }
  | _ => none }
def PolyWheresWrongFalsely : Prop := polyWheresRow.holds Try.pinned (OpenSpec.ofChange polyWheresWrong)

/-- 'shipyardlaw12.PolyHulls': WHATEVER THE INPUT: true; the input reads as it did. -/
def polyHullsSpec : ChangeSpec := { name := "polyHulls", fn := fun _ => fun
  | [d] => { results := [.lit (.bool true)], args := [d] }
  | _ => none }
def polyHullsRow : OpenClaim := { program := "ytngjgbhdhaopmaa", sum := "4c0b15e10410969172dd72cf48ee253c2d642249ac57edc078a06ae35da52e0b", func := "shipyard/shipyardlaw12.PolyHulls", spec := "polyHulls", unfollowed := true, recurses := true, apart := false }
def PolyHullsSaid : Prop := polyHullsRow.holds Try.pinned (OpenSpec.ofChange polyHullsSpec)

/-- ITS FALSE NEIGHBOUR: 'it returns false'. Refute it at one input. -/
def polyHullsWrong : ChangeSpec := { name := "polyHulls", fn := fun _ => fun
  | [d] => { results := [.lit (.bool false)], args := [d] }
  | _ => none }
def PolyHullsWrongFalsely : Prop := polyHullsRow.holds Try.pinned (OpenSpec.ofChange polyHullsWrong)

/-- 'shipyardlaw12.PolyTurns': WHATEVER THE INPUT: true; the input reads as it did. -/
def polyTurnsSpec : ChangeSpec := { name := "polyTurns", fn := fun _ => fun
  | [d1, d2, d3] => { results := [.lit (.bool true)], args := [d1, d2, d3] }
  | _ => none }
def polyTurnsRow : OpenClaim := { program := "ytngjgbhdhaopmaa", sum := "4c0b15e10410969172dd72cf48ee253c2d642249ac57edc078a06ae35da52e0b", func := "shipyard/shipyardlaw12.PolyTurns", spec := "polyTurns", unfollowed := true, recurses := true, apart := false }
def PolyTurnsSaid : Prop := polyTurnsRow.holds Try.pinned (OpenSpec.ofChange polyTurnsSpec)

/-- ITS FALSE NEIGHBOUR: 'it returns false'. Refute it at one input. -/
def polyTurnsWrong : ChangeSpec := { name := "polyTurns", fn := fun _ => fun
  | [d1, d2, d3] => { results := [.lit (.bool false)], args := [d1, d2, d3] }
  | _ => none }
def PolyTurnsWrongFalsely : Prop := polyTurnsRow.holds Try.pinned (OpenSpec.ofChange polyTurnsWrong)

/-- 'shipyardlaw12.PolyMoves': WHATEVER THE INPUT: true; the input reads as it did. -/
def polyMovesSpec : ChangeSpec := { name := "polyMoves", fn := fun _ => fun
  | [d1, d2, d3] => { results := [.lit (.bool true)], args := [d1, d2, d3] }
  | _ => none }
def polyMovesRow : OpenClaim := { program := "ytngjgbhdhaopmaa", sum := "4c0b15e10410969172dd72cf48ee253c2d642249ac57edc078a06ae35da52e0b", func := "shipyard/shipyardlaw12.PolyMoves", spec := "polyMoves", unfollowed := true, recurses := true, apart := false }
def PolyMovesSaid : Prop := polyMovesRow.holds Try.pinned (OpenSpec.ofChange polyMovesSpec)

/-- ITS FALSE NEIGHBOUR: 'it returns false'. Refute it at one input. -/
def polyMovesWrong : ChangeSpec := { name := "polyMoves", fn := fun _ => fun
  | [d1, d2, d3] => { results := [.lit (.bool false)], args := [d1, d2, d3] }
  | _ => none }
def PolyMovesWrongFalsely : Prop := polyMovesRow.holds Try.pinned (OpenSpec.ofChange polyMovesWrong)

/-- 'shipyardlaw12.PolyPicks': WHATEVER THE INPUT: true; the input reads as it did. -/
def polyPicksSpec : ChangeSpec := { name := "polyPicks", fn := fun _ => fun
  | [d] => { results := [.lit (.bool true)], args := [d] }
  | _ => none }
def polyPicksRow : OpenClaim := { program := "ytngjgbhdhaopmaa", sum := "4c0b15e10410969172dd72cf48ee253c2d642249ac57edc078a06ae35da52e0b", func := "shipyard/shipyardlaw12.PolyPicks", spec := "polyPicks", unfollowed := true, recurses := true, apart := false }
def PolyPicksSaid : Prop := polyPicksRow.holds Try.pinned (OpenSpec.ofChange polyPicksSpec)

/-- ITS FALSE NEIGHBOUR: 'it returns false'. Refute it at one input. -/
def polyPicksWrong : ChangeSpec := { name := "polyPicks", fn := fun _ => fun
  | [d] => { results := [.lit (.bool false)], args := [d] }
  | _ => none }
def PolyPicksWrongFalsely : Prop := polyPicksRow.holds Try.pinned (OpenSpec.ofChange polyPicksWrong)

/-- 'shipyardlaw12.PolyWraps': WHATEVER THE INPUT: true; the input reads as it did. -/
def polyWrapsSpec : ChangeSpec := { name := "polyWraps", fn := fun _ => fun
  | [d] => { results := [.lit (.bool true)], args := [d] }
  | _ => none }
def polyWrapsRow : OpenClaim := { program := "ytngjgbhdhaopmaa", sum := "4c0b15e10410969172dd72cf48ee253c2d642249ac57edc078a06ae35da52e0b", func := "shipyard/shipyardlaw12.PolyWraps", spec := "polyWraps", unfollowed := true, recurses := true, apart := false }
def PolyWrapsSaid : Prop := polyWrapsRow.holds Try.pinned (OpenSpec.ofChange polyWrapsSpec)

/-- ITS FALSE NEIGHBOUR: 'it returns false'. Refute it at one input. -/
def polyWrapsWrong : ChangeSpec := { name := "polyWraps", fn := fun _ => fun
  | [d] => { results := [.lit (.bool false)], args := [d] }
  | _ => none }
def PolyWrapsWrongFalsely : Prop := polyWrapsRow.holds Try.pinned (OpenSpec.ofChange polyWrapsWrong)

/-- 'shipyardlaw12.PolyCentres': WHATEVER THE INPUT: true; the input reads as it did. -/
def polyCentresSpec : ChangeSpec := { name := "polyCentres", fn := fun _ => fun
  | [d] => { results := [.lit (.bool true)], args := [d] }
  | _ => none }
def polyCentresRow : OpenClaim := { program := "ytngjgbhdhaopmaa", sum := "4c0b15e10410969172dd72cf48ee253c2d642249ac57edc078a06ae35da52e0b", func := "shipyard/shipyardlaw12.PolyCentres", spec := "polyCentres", unfollowed := true, recurses := true, apart := false }
def PolyCentresSaid : Prop := polyCentresRow.holds Try.pinned (OpenSpec.ofChange polyCentresSpec)

/-- ITS FALSE NEIGHBOUR: 'it returns false'. Refute it at one input. -/
def polyCentresWrong : ChangeSpec := { name := "polyCentres", fn := fun _ => fun
  | [d] => { results := [.lit (.bool false)], args := [d] }
  | _ => none }
def PolyCentresWrongFalsely : Prop := polyCentresRow.holds Try.pinned (OpenSpec.ofChange polyCentresWrong)

/- THE SECOND FORM. 'bulk': how many values and letters a reading holds, each counted each time it is reached (what is shared counts as often as it is met; a slice's spare places count too). A statement '..UptoSaid' is the law's where the arguments, and the package variables that the reading takes, are together of bulk at most 1048576: NARROWER than '..Said'. Prove '..Said' where nothing that the law and all that it calls make is longer than what came in: it says more and counts as full. Else prove '..UptoSaid'. A law counts once. -/
mutual
def uptoBulk {H : Type} : DataW H → Nat
  | .lit (.string bytes) => bytes.length + 1
  | .lit _ => 1
  | .nil => 1
  | .ptr d => uptoBulk d + 1
  | .slice elems spare => uptoBulkAll elems + uptoBulkAll spare + 1
  | .agg parts => uptoBulkAll parts + 1
  | .iface _ d => uptoBulk d + 1
  | .map entries => uptoBulkEntries entries + 1
  | .held _ => 1
def uptoBulkAll {H : Type} : List (DataW H) → Nat
  | [] => 0
  | d :: r => uptoBulk d + uptoBulkAll r
def uptoBulkEntries {H : Type} : List (Lit × DataW H) → Nat
  | [] => 0
  | x :: r => uptoBulkEntry x + uptoBulkEntries r
def uptoBulkEntry {H : Type} : Lit × DataW H → Nat
  | (.string bytes, d) => bytes.length + uptoBulk d + 1
  | (_, d) => uptoBulk d + 1
 end
def uptoSmall : (H : Type) → List (DataW H) → Bool := fun _ ds => decide (uptoBulkAll ds ≤ 1048576)
def OpenSpec.upto (s : _root_.Go.ChangeSpec) : _root_.Go.OpenSpec := { _root_.Go.OpenSpec.ofChange s with cond := some uptoSmall }

/-- 'shipyardlaw12.PolyChecks', WHERE WHAT IT READS IS OF BULK AT MOST 1048576: true; the input reads as it did. -/
def polyChecksUptoRow : OpenClaim := { program := "ytngjgbhdhaopmaa", sum := "4c0b15e10410969172dd72cf48ee253c2d642249ac57edc078a06ae35da52e0b", func := "shipyard/shipyardlaw12.PolyChecks", spec := "polyChecks", unfollowed := true, recurses := true, apart := false, narrowed := true }
def PolyChecksUptoSaid : Prop := polyChecksUptoRow.holds Try.pinned (OpenSpec.upto polyChecksSpec)

/-- 'shipyardlaw12.PolyAreas', WHERE WHAT IT READS IS OF BULK AT MOST 1048576: true; the input reads as it did. -/
def polyAreasUptoRow : OpenClaim := { program := "ytngjgbhdhaopmaa", sum := "4c0b15e10410969172dd72cf48ee253c2d642249ac57edc078a06ae35da52e0b", func := "shipyard/shipyardlaw12.PolyAreas", spec := "polyAreas", unfollowed := true, recurses := true, apart := false, narrowed := true }
def PolyAreasUptoSaid : Prop := polyAreasUptoRow.holds Try.pinned (OpenSpec.upto polyAreasSpec)

/-- 'shipyardlaw12.PolyWheres', WHERE WHAT IT READS IS OF BULK AT MOST 1048576: true; the input reads as it did. -/
def polyWheresUptoRow : OpenClaim := { program := "ytngjgbhdhaopmaa", sum := "4c0b15e10410969172dd72cf48ee253c2d642249ac57edc078a06ae35da52e0b", func := "shipyard/shipyardlaw12.PolyWheres", spec := "polyWheres", unfollowed := true, recurses := true, apart := false, narrowed := true }
def PolyWheresUptoSaid : Prop := polyWheresUptoRow.holds Try.pinned (OpenSpec.upto polyWheresSpec)

/-- 'shipyardlaw12.PolyHulls', WHERE WHAT IT READS IS OF BULK AT MOST 1048576: true; the input reads as it did. -/
def polyHullsUptoRow : OpenClaim := { program := "ytngjgbhdhaopmaa", sum := "4c0b15e10410969172dd72cf48ee253c2d642249ac57edc078a06ae35da52e0b", func := "shipyard/shipyardlaw12.PolyHulls", spec := "polyHulls", unfollowed := true, recurses := true, apart := false, narrowed := true }
def PolyHullsUptoSaid : Prop := polyHullsUptoRow.holds Try.pinned (OpenSpec.upto polyHullsSpec)

/-- 'shipyardlaw12.PolyTurns', WHERE WHAT IT READS IS OF BULK AT MOST 1048576: true; the input reads as it did. -/
def polyTurnsUptoRow : OpenClaim := { program := "ytngjgbhdhaopmaa", sum := "4c0b15e10410969172dd72cf48ee253c2d642249ac57edc078a06ae35da52e0b", func := "shipyard/shipyardlaw12.PolyTurns", spec := "polyTurns", unfollowed := true, recurses := true, apart := false, narrowed := true }
def PolyTurnsUptoSaid : Prop := polyTurnsUptoRow.holds Try.pinned (OpenSpec.upto polyTurnsSpec)

/-- 'shipyardlaw12.PolyMoves', WHERE WHAT IT READS IS OF BULK AT MOST 1048576: true; the input reads as it did. -/
def polyMovesUptoRow : OpenClaim := { program := "ytngjgbhdhaopmaa", sum := "4c0b15e10410969172dd72cf48ee253c2d642249ac57edc078a06ae35da52e0b", func := "shipyard/shipyardlaw12.PolyMoves", spec := "polyMoves", unfollowed := true, recurses := true, apart := false, narrowed := true }
def PolyMovesUptoSaid : Prop := polyMovesUptoRow.holds Try.pinned (OpenSpec.upto polyMovesSpec)

/-- 'shipyardlaw12.PolyPicks', WHERE WHAT IT READS IS OF BULK AT MOST 1048576: true; the input reads as it did. -/
def polyPicksUptoRow : OpenClaim := { program := "ytngjgbhdhaopmaa", sum := "4c0b15e10410969172dd72cf48ee253c2d642249ac57edc078a06ae35da52e0b", func := "shipyard/shipyardlaw12.PolyPicks", spec := "polyPicks", unfollowed := true, recurses := true, apart := false, narrowed := true }
def PolyPicksUptoSaid : Prop := polyPicksUptoRow.holds Try.pinned (OpenSpec.upto polyPicksSpec)

/-- 'shipyardlaw12.PolyWraps', WHERE WHAT IT READS IS OF BULK AT MOST 1048576: true; the input reads as it did. -/
def polyWrapsUptoRow : OpenClaim := { program := "ytngjgbhdhaopmaa", sum := "4c0b15e10410969172dd72cf48ee253c2d642249ac57edc078a06ae35da52e0b", func := "shipyard/shipyardlaw12.PolyWraps", spec := "polyWraps", unfollowed := true, recurses := true, apart := false, narrowed := true }
def PolyWrapsUptoSaid : Prop := polyWrapsUptoRow.holds Try.pinned (OpenSpec.upto polyWrapsSpec)

/-- 'shipyardlaw12.PolyCentres', WHERE WHAT IT READS IS OF BULK AT MOST 1048576: true; the input reads as it did. -/
def polyCentresUptoRow : OpenClaim := { program := "ytngjgbhdhaopmaa", sum := "4c0b15e10410969172dd72cf48ee253c2d642249ac57edc078a06ae35da52e0b", func := "shipyard/shipyardlaw12.PolyCentres", spec := "polyCentres", unfollowed := true, recurses := true, apart := false, narrowed := true }
def PolyCentresUptoSaid : Prop := polyCentresUptoRow.holds Try.pinned (OpenSpec.upto polyCentresSpec)

end Rows
end Go.Proofs.Ytngjgbhdhaopmaa
