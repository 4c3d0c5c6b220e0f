/-
  No cell of these rows narrows 'for every input' (looked for: loops, veiled, ifaces, maps, wideKeys, modest, calm, conditions, laid).
  DERIVED. THE GIVEN ROWS OF THIS SEAT. 7 by the template 'for every input the law returns true; each argument reads behind the call as it read before'; 0 by the template 'total and deterministic' (their statements: YtnfphfkgbhpikaaTotals.lean).
  GIVEN WITH THE SEED: the statements are not yours to turn. If you find one false, say at which input.
  Laid BY PROGRAM, IN A SANDBOX (cutbox-rows.mjs): the forced cells as the released guide's own fill.sh prints them over the translation a158cde60021c44b… (all of the seat's roots in one cut). By AI agents, Wed Nov 11 2026. No macro, syntax, notation, axiom, sorry.
-/
import Derived.Test.YtnfphfkgbhpikaaChecked
import GoSem.Claim
import GoSem.ClaimJoined
import GoSem.ClaimMapViews
import Derived.JoinedTies
import Derived.KernelRfl
namespace Go.Proofs.Ytnfphfkgbhpikaa
/- THE CELL 'sum', in the pinned program and in every row, IS THE sha256 OF THE DUMP (.gsa) THAT YtnfphfkgbhpikaaProg.lean LOADS. Nothing in Lean hashes anything: it is a label: what it is worth is what the hold of that sum in a sandbox is worth. -/
noncomputable def Try.pinned : Pinned := { name := "ytnfphfkgbhpikaa", sum := "a158cde60021c44b57c6fb3d6ab3519324c3696f06e091fa149b2237123d9b62", checked := Try.checked }
namespace Rows
def none {H : Type} : Left H := { results := [], args := [] }

/-- 'shipyardlaw52.SchedChecks': WHATEVER THE INPUT: true; the input reads as it did. -/
def schedChecksSpec : ChangeSpec := { name := "schedChecks", fn := fun _ => fun
  | [d1, d2] => { results := [.lit (.bool true)], args := [d1, d2] }
  | _ => none }
def schedChecksRow : OpenClaim := { program := "ytnfphfkgbhpikaa", sum := "a158cde60021c44b57c6fb3d6ab3519324c3696f06e091fa149b2237123d9b62", func := "shipyard/shipyardlaw52.SchedChecks", spec := "schedChecks", unfollowed := true, recurses := true, plainKeys := false, apart := false }
def SchedChecksSaid : Prop := schedChecksRow.holds Try.pinned (OpenSpec.ofChange schedChecksSpec)

/-- ITS FALSE NEIGHBOUR: 'it returns false'. Refute it at one input. -/
def schedChecksWrong : ChangeSpec := { name := "schedChecks", fn := fun _ => fun
  | [d1, d2] => { results := [.lit (.bool false)], args := [d1, d2] }
  | _ => none }
def SchedChecksWrongFalsely : Prop := schedChecksRow.holds Try.pinned (OpenSpec.ofChange schedChecksWrong)

/-- 'shipyardlaw52.SchedGreedy': WHATEVER THE INPUT: true; the input reads as it did. -/
def schedGreedySpec : ChangeSpec := { name := "schedGreedy", fn := fun _ => fun
  | [d1, d2, d3] => { results := [.lit (.bool true)], args := [d1, d2, d3] }
  | _ => none }
def schedGreedyRow : OpenClaim := { program := "ytnfphfkgbhpikaa", sum := "a158cde60021c44b57c6fb3d6ab3519324c3696f06e091fa149b2237123d9b62", func := "shipyard/shipyardlaw52.SchedGreedy", spec := "schedGreedy", unfollowed := true, recurses := true, plainKeys := false, apart := false }
def SchedGreedySaid : Prop := schedGreedyRow.holds Try.pinned (OpenSpec.ofChange schedGreedySpec)

/-- ITS FALSE NEIGHBOUR: 'it returns false'. Refute it at one input. -/
def schedGreedyWrong : ChangeSpec := { name := "schedGreedy", fn := fun _ => fun
  | [d1, d2, d3] => { results := [.lit (.bool false)], args := [d1, d2, d3] }
  | _ => none }
def SchedGreedyWrongFalsely : Prop := schedGreedyRow.holds Try.pinned (OpenSpec.ofChange schedGreedyWrong)

/-- 'shipyardlaw52.SchedBest': WHATEVER THE INPUT: true; the input reads as it did. -/
def schedBestSpec : ChangeSpec := { name := "schedBest", fn := fun _ => fun
  | [d1, d2, d3] => { results := [.lit (.bool true)], args := [d1, d2, d3] }
  | _ => none }
def schedBestRow : OpenClaim := { program := "ytnfphfkgbhpikaa", sum := "a158cde60021c44b57c6fb3d6ab3519324c3696f06e091fa149b2237123d9b62", func := "shipyard/shipyardlaw52.SchedBest", spec := "schedBest", unfollowed := true, recurses := true, plainKeys := false, apart := false }
def SchedBestSaid : Prop := schedBestRow.holds Try.pinned (OpenSpec.ofChange schedBestSpec)

/-- ITS FALSE NEIGHBOUR: 'it returns false'. Refute it at one input. -/
def schedBestWrong : ChangeSpec := { name := "schedBest", fn := fun _ => fun
  | [d1, d2, d3] => { results := [.lit (.bool false)], args := [d1, d2, d3] }
  | _ => none }
def SchedBestWrongFalsely : Prop := schedBestRow.holds Try.pinned (OpenSpec.ofChange schedBestWrong)

/-- 'shipyardlaw52.SchedLeast': WHATEVER THE INPUT: true; the input reads as it did. -/
def schedLeastSpec : ChangeSpec := { name := "schedLeast", fn := fun _ => fun
  | [d1, d2] => { results := [.lit (.bool true)], args := [d1, d2] }
  | _ => none }
def schedLeastRow : OpenClaim := { program := "ytnfphfkgbhpikaa", sum := "a158cde60021c44b57c6fb3d6ab3519324c3696f06e091fa149b2237123d9b62", func := "shipyard/shipyardlaw52.SchedLeast", spec := "schedLeast", unfollowed := true, recurses := true, plainKeys := false, apart := false }
def SchedLeastSaid : Prop := schedLeastRow.holds Try.pinned (OpenSpec.ofChange schedLeastSpec)

/-- ITS FALSE NEIGHBOUR: 'it returns false'. Refute it at one input. -/
def schedLeastWrong : ChangeSpec := { name := "schedLeast", fn := fun _ => fun
  | [d1, d2] => { results := [.lit (.bool false)], args := [d1, d2] }
  | _ => none }
def SchedLeastWrongFalsely : Prop := schedLeastRow.holds Try.pinned (OpenSpec.ofChange schedLeastWrong)

/-- 'shipyardlaw52.SchedMoves': WHATEVER THE INPUT: true; the input reads as it did. -/
def schedMovesSpec : ChangeSpec := { name := "schedMoves", fn := fun _ => fun
  | [d1, d2, d3] => { results := [.lit (.bool true)], args := [d1, d2, d3] }
  | _ => none }
def schedMovesRow : OpenClaim := { program := "ytnfphfkgbhpikaa", sum := "a158cde60021c44b57c6fb3d6ab3519324c3696f06e091fa149b2237123d9b62", func := "shipyard/shipyardlaw52.SchedMoves", spec := "schedMoves", unfollowed := true, recurses := true, plainKeys := false, apart := false }
def SchedMovesSaid : Prop := schedMovesRow.holds Try.pinned (OpenSpec.ofChange schedMovesSpec)

/-- ITS FALSE NEIGHBOUR: 'it returns false'. Refute it at one input. -/
def schedMovesWrong : ChangeSpec := { name := "schedMoves", fn := fun _ => fun
  | [d1, d2, d3] => { results := [.lit (.bool false)], args := [d1, d2, d3] }
  | _ => none }
def SchedMovesWrongFalsely : Prop := schedMovesRow.holds Try.pinned (OpenSpec.ofChange schedMovesWrong)

/-- 'shipyardlaw52.SchedFewer': WHATEVER THE INPUT: true; the input reads as it did. -/
def schedFewerSpec : ChangeSpec := { name := "schedFewer", fn := fun _ => fun
  | [d1, d2, d3] => { results := [.lit (.bool true)], args := [d1, d2, d3] }
  | _ => none }
def schedFewerRow : OpenClaim := { program := "ytnfphfkgbhpikaa", sum := "a158cde60021c44b57c6fb3d6ab3519324c3696f06e091fa149b2237123d9b62", func := "shipyard/shipyardlaw52.SchedFewer", spec := "schedFewer", unfollowed := true, recurses := true, plainKeys := false, apart := false }
def SchedFewerSaid : Prop := schedFewerRow.holds Try.pinned (OpenSpec.ofChange schedFewerSpec)

/-- ITS FALSE NEIGHBOUR: 'it returns false'. Refute it at one input. -/
def schedFewerWrong : ChangeSpec := { name := "schedFewer", fn := fun _ => fun
  | [d1, d2, d3] => { results := [.lit (.bool false)], args := [d1, d2, d3] }
  | _ => none }
def SchedFewerWrongFalsely : Prop := schedFewerRow.holds Try.pinned (OpenSpec.ofChange schedFewerWrong)

/-- 'shipyardlaw52.SchedOrder': WHATEVER THE INPUT: true; the input reads as it did. -/
def schedOrderSpec : ChangeSpec := { name := "schedOrder", fn := fun _ => fun
  | [d1, d2, d3] => { results := [.lit (.bool true)], args := [d1, d2, d3] }
  | _ => none }
def schedOrderRow : OpenClaim := { program := "ytnfphfkgbhpikaa", sum := "a158cde60021c44b57c6fb3d6ab3519324c3696f06e091fa149b2237123d9b62", func := "shipyard/shipyardlaw52.SchedOrder", spec := "schedOrder", unfollowed := true, recurses := true, plainKeys := false, apart := false }
def SchedOrderSaid : Prop := schedOrderRow.holds Try.pinned (OpenSpec.ofChange schedOrderSpec)

/-- ITS FALSE NEIGHBOUR: 'it returns false'. Refute it at one input. -/
def schedOrderWrong : ChangeSpec := { name := "schedOrder", fn := fun _ => fun
  | [d1, d2, d3] => { results := [.lit (.bool false)], args := [d1, d2, d3] }
  | _ => none }
def SchedOrderWrongFalsely : Prop := schedOrderRow.holds Try.pinned (OpenSpec.ofChange schedOrderWrong)

/- THE SECOND FORM. 'bulk': how many values and letters a reading holds, each counted each time it is reached (what is shared counts as often as it is met; a slice's spare places count too). A statement '..UptoSaid' is the law's where the arguments, and the package variables that the reading takes, are together of bulk at most 1048576: NARROWER than '..Said'. Prove '..Said' where nothing that the law and all that it calls make is longer than what came in: it says more and counts as full. Else prove '..UptoSaid'. A law counts once. -/
mutual
def uptoBulk {H : Type} : DataW H → Nat
  | .lit (.string bytes) => bytes.length + 1
  | .lit _ => 1
  | .nil => 1
  | .ptr d => uptoBulk d + 1
  | .slice elems spare => uptoBulkAll elems + uptoBulkAll spare + 1
  | .agg parts => uptoBulkAll parts + 1
  | .iface _ d => uptoBulk d + 1
  | .map entries => uptoBulkEntries entries + 1
  | .held _ => 1
def uptoBulkAll {H : Type} : List (DataW H) → Nat
  | [] => 0
  | d :: r => uptoBulk d + uptoBulkAll r
def uptoBulkEntries {H : Type} : List (Lit × DataW H) → Nat
  | [] => 0
  | x :: r => uptoBulkEntry x + uptoBulkEntries r
def uptoBulkEntry {H : Type} : Lit × DataW H → Nat
  | (.string bytes, d) => bytes.length + uptoBulk d + 1
  | (_, d) => uptoBulk d + 1
 end
def uptoSmall : (H : Type) → List (DataW H) → Bool := fun _ ds => decide (uptoBulkAll ds ≤ 1048576)
def OpenSpec.upto (s : _root_.Go.ChangeSpec) : _root_.Go.OpenSpec := { _root_.Go.OpenSpec.ofChange s with cond := some uptoSmall }

/-- 'shipyardlaw52.SchedChecks', WHERE WHAT IT READS IS OF BULK AT MOST 1048576: true; the input reads as it did. -/
def schedChecksUptoRow : OpenClaim := { program := "ytnfphfkgbhpikaa", sum := "a158cde60021c44b57c6fb3d6ab3519324c3696f06e091fa149b2237123d9b62", func := "shipyard/shipyardlaw52.SchedChecks", spec := "schedChecks", unfollowed := true, recurses := true, plainKeys := false, apart := false, narrowed := true }
def SchedChecksUptoSaid : Prop := schedChecksUptoRow.holds Try.pinned (OpenSpec.upto schedChecksSpec)

/-- 'shipyardlaw52.SchedGreedy', WHERE WHAT IT READS IS OF BULK AT MOST 1048576: true; the input reads as it did. -/
def schedGreedyUptoRow : OpenClaim := { program := "ytnfphfkgbhpikaa", sum := "a158cde60021c44b57c6fb3d6ab3519324c3696f06e091fa149b2237123d9b62", func := "shipyard/shipyardlaw52.SchedGreedy", spec := "schedGreedy", unfollowed := true, recurses := true, plainKeys := false, apart := false, narrowed := true }
def SchedGreedyUptoSaid : Prop := schedGreedyUptoRow.holds Try.pinned (OpenSpec.upto schedGreedySpec)

/-- 'shipyardlaw52.SchedBest', WHERE WHAT IT READS IS OF BULK AT MOST 1048576: true; the input reads as it did. -/
def schedBestUptoRow : OpenClaim := { program := "ytnfphfkgbhpikaa", sum := "a158cde60021c44b57c6fb3d6ab3519324c3696f06e091fa149b2237123d9b62", func := "shipyard/shipyardlaw52.SchedBest", spec := "schedBest", unfollowed := true, recurses := true, plainKeys := false, apart := false, narrowed := true }
def SchedBestUptoSaid : Prop := schedBestUptoRow.holds Try.pinned (OpenSpec.upto schedBestSpec)

/-- 'shipyardlaw52.SchedLeast', WHERE WHAT IT READS IS OF BULK AT MOST 1048576: true; the input reads as it did. -/
def schedLeastUptoRow : OpenClaim := { program := "ytnfphfkgbhpikaa", sum := "a158cde60021c44b57c6fb3d6ab3519324c3696f06e091fa149b2237123d9b62", func := "shipyard/shipyardlaw52.SchedLeast", spec := "schedLeast", unfollowed := true, recurses := true, plainKeys := false, apart := false, narrowed := true }
def SchedLeastUptoSaid : Prop := schedLeastUptoRow.holds Try.pinned (OpenSpec.upto schedLeastSpec)

/-- 'shipyardlaw52.SchedMoves', WHERE WHAT IT READS IS OF BULK AT MOST 1048576: true; the input reads as it did. -/
def schedMovesUptoRow : OpenClaim := { program := "ytnfphfkgbhpikaa", sum := "a158cde60021c44b57c6fb3d6ab3519324c3696f06e091fa149b2237123d9b62", func := "shipyard/shipyardlaw52.SchedMoves", spec := "schedMoves", unfollowed := true, recurses := true, plainKeys := false, apart := false, narrowed := true }
def SchedMovesUptoSaid : Prop := schedMovesUptoRow.holds Try.pinned (OpenSpec.upto schedMovesSpec)

/-- 'shipyardlaw52.SchedFewer', WHERE WHAT IT READS IS OF BULK AT MOST 1048576: true; the input reads as it did. -/
def schedFewerUptoRow : OpenClaim := { program := "ytnfphfkgbhpikaa", sum := "a158cde60021c44b57c6fb3d6ab3519324c3696f06e091fa149b2237123d9b62", func := "shipyard/shipyardlaw52.SchedFewer", spec := "schedFewer", unfollowed := true, recurses := true, plainKeys := false, apart := false, narrowed := true }
def SchedFewerUptoSaid : Prop := schedFewerUptoRow.holds Try.pinned (OpenSpec.upto schedFewerSpec)

/-- 'shipyardlaw52.SchedOrder', WHERE WHAT IT READS IS OF BULK AT MOST 1048576: true; the input reads as it did. -/
def schedOrderUptoRow : OpenClaim := { program := "ytnfphfkgbhpikaa", sum := "a158cde60021c44b57c6fb3d6ab3519324c3696f06e091fa149b2237123d9b62", func := "shipyard/shipyardlaw52.SchedOrder", spec := "schedOrder", unfollowed := true, recurses := true, plainKeys := false, apart := false, narrowed := true }
def SchedOrderUptoSaid : Prop := schedOrderUptoRow.holds Try.pinned (OpenSpec.upto schedOrderSpec)

end Rows
end Go.Proofs.Ytnfphfkgbhpikaa
