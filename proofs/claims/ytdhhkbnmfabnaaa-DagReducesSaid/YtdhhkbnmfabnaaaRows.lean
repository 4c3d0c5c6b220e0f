/-
  No cell of these rows narrows 'for every input' (looked for: loops, veiled, ifaces, maps, wideKeys, modest, calm, conditions, laid).
  DERIVED. THE GIVEN ROWS OF THIS SEAT. 8 by the template 'for every input the law returns true; each argument reads behind the call as it read before'; 0 by the template 'total and deterministic' (their statements: YtdhhkbnmfabnaaaTotals.lean).
  GIVEN WITH THE SEED: the statements are not yours to turn. If you find one false, say at which input.
  Laid BY PROGRAM, IN A SANDBOX (cutbox-rows.mjs): the forced cells as the released guide's own fill.sh prints them over the translation d1ec0be7e470f7a3… (all of the seat's roots in one cut). By AI agents, Wed Nov 11 2026. No macro, syntax, notation, axiom, sorry.
-/
import Derived.Test.YtdhhkbnmfabnaaaChecked
import GoSem.Claim
import GoSem.ClaimJoined
import GoSem.ClaimMapViews
import Derived.JoinedTies
import Derived.KernelRfl
namespace Go.Proofs.Ytdhhkbnmfabnaaa
/- THE CELL 'sum', in the pinned program and in every row, IS THE sha256 OF THE DUMP (.gsa) THAT YtdhhkbnmfabnaaaProg.lean LOADS. Nothing in Lean hashes anything: it is a label: what it is worth is what the hold of that sum in a sandbox is worth. -/
noncomputable def Try.pinned : Pinned := { name := "ytdhhkbnmfabnaaa", sum := "d1ec0be7e470f7a3afa21c0eda15616261efd740ad0d508e92d9a19aed7d0088", checked := Try.checked }
namespace Rows
def none {H : Type} : Left H := { results := [], args := [] }

/-- 'shipyardlaw10.DagOrders': WHATEVER THE INPUT: true; the input reads as it did. -/
def dagOrdersSpec : ChangeSpec := { name := "dagOrders", fn := fun _ => fun
  | [d1, d2] => { results := [.lit (.bool true)], args := [d1, d2] }
  | _ => none }
def dagOrdersRow : OpenClaim := { program := "ytdhhkbnmfabnaaa", sum := "d1ec0be7e470f7a3afa21c0eda15616261efd740ad0d508e92d9a19aed7d0088", func := "shipyard/shipyardlaw10.DagOrders", spec := "dagOrders", unfollowed := true, recurses := true, apart := false }
def DagOrdersSaid : Prop := dagOrdersRow.holds Try.pinned (OpenSpec.ofChange dagOrdersSpec)

/-- ITS FALSE NEIGHBOUR: 'it returns false'. Refute it at one input. -/
def dagOrdersWrong : ChangeSpec := { name := "dagOrders", fn := fun _ => fun
  | [d1, d2] => { results := [.lit (.bool false)], args := [d1, d2] }
  | _ => none }
def DagOrdersWrongFalsely : Prop := dagOrdersRow.holds Try.pinned (OpenSpec.ofChange dagOrdersWrong)

/-- 'shipyardlaw10.DagBefore': WHATEVER THE INPUT: true; the input reads as it did. -/
def dagBeforeSpec : ChangeSpec := { name := "dagBefore", fn := fun _ => fun
  | [d1, d2, d3] => { results := [.lit (.bool true)], args := [d1, d2, d3] }
  | _ => none }
def dagBeforeRow : OpenClaim := { program := "ytdhhkbnmfabnaaa", sum := "d1ec0be7e470f7a3afa21c0eda15616261efd740ad0d508e92d9a19aed7d0088", func := "shipyard/shipyardlaw10.DagBefore", spec := "dagBefore", unfollowed := true, recurses := true, apart := false }
def DagBeforeSaid : Prop := dagBeforeRow.holds Try.pinned (OpenSpec.ofChange dagBeforeSpec)

/-- ITS FALSE NEIGHBOUR: 'it returns false'. Refute it at one input. -/
def dagBeforeWrong : ChangeSpec := { name := "dagBefore", fn := fun _ => fun
  | [d1, d2, d3] => { results := [.lit (.bool false)], args := [d1, d2, d3] }
  | _ => none }
def DagBeforeWrongFalsely : Prop := dagBeforeRow.holds Try.pinned (OpenSpec.ofChange dagBeforeWrong)

/-- 'shipyardlaw10.DagStarts': WHATEVER THE INPUT: true; the input reads as it did. -/
def dagStartsSpec : ChangeSpec := { name := "dagStarts", fn := fun _ => fun
  | [d1, d2, d3] => { results := [.lit (.bool true)], args := [d1, d2, d3] }
  | _ => none }
def dagStartsRow : OpenClaim := { program := "ytdhhkbnmfabnaaa", sum := "d1ec0be7e470f7a3afa21c0eda15616261efd740ad0d508e92d9a19aed7d0088", func := "shipyard/shipyardlaw10.DagStarts", spec := "dagStarts", unfollowed := true, recurses := true, apart := false }
def DagStartsSaid : Prop := dagStartsRow.holds Try.pinned (OpenSpec.ofChange dagStartsSpec)

/-- ITS FALSE NEIGHBOUR: 'it returns false'. Refute it at one input. -/
def dagStartsWrong : ChangeSpec := { name := "dagStarts", fn := fun _ => fun
  | [d1, d2, d3] => { results := [.lit (.bool false)], args := [d1, d2, d3] }
  | _ => none }
def DagStartsWrongFalsely : Prop := dagStartsRow.holds Try.pinned (OpenSpec.ofChange dagStartsWrong)

/-- 'shipyardlaw10.DagReduces': WHATEVER THE INPUT: true; the input reads as it did. -/
def dagReducesSpec : ChangeSpec := { name := "dagReduces", fn := fun _ => fun
  | [d1, d2] => { results := [.lit (.bool true)], args := [d1, d2] }
  | _ => none }
def dagReducesRow : OpenClaim := { program := "ytdhhkbnmfabnaaa", sum := "d1ec0be7e470f7a3afa21c0eda15616261efd740ad0d508e92d9a19aed7d0088", func := "shipyard/shipyardlaw10.DagReduces", spec := "dagReduces", unfollowed := true, recurses := true, apart := false }
def DagReducesSaid : Prop := dagReducesRow.holds Try.pinned (OpenSpec.ofChange dagReducesSpec)

/-- ITS FALSE NEIGHBOUR: 'it returns false'. Refute it at one input. -/
def dagReducesWrong : ChangeSpec := { name := "dagReduces", fn := fun _ => fun
  | [d1, d2] => { results := [.lit (.bool false)], args := [d1, d2] }
  | _ => none }
def DagReducesWrongFalsely : Prop := dagReducesRow.holds Try.pinned (OpenSpec.ofChange dagReducesWrong)

/-- 'shipyardlaw10.DagFirst': WHATEVER THE INPUT: true; the input reads as it did. -/
def dagFirstSpec : ChangeSpec := { name := "dagFirst", fn := fun _ => fun
  | [d1, d2] => { results := [.lit (.bool true)], args := [d1, d2] }
  | _ => none }
def dagFirstRow : OpenClaim := { program := "ytdhhkbnmfabnaaa", sum := "d1ec0be7e470f7a3afa21c0eda15616261efd740ad0d508e92d9a19aed7d0088", func := "shipyard/shipyardlaw10.DagFirst", spec := "dagFirst", unfollowed := true, recurses := true, apart := false }
def DagFirstSaid : Prop := dagFirstRow.holds Try.pinned (OpenSpec.ofChange dagFirstSpec)

/-- ITS FALSE NEIGHBOUR: 'it returns false'. Refute it at one input. -/
def dagFirstWrong : ChangeSpec := { name := "dagFirst", fn := fun _ => fun
  | [d1, d2] => { results := [.lit (.bool false)], args := [d1, d2] }
  | _ => none }
def DagFirstWrongFalsely : Prop := dagFirstRow.holds Try.pinned (OpenSpec.ofChange dagFirstWrong)

/-- 'shipyardlaw10.DagBack': WHATEVER THE INPUT: true; the input reads as it did. -/
def dagBackSpec : ChangeSpec := { name := "dagBack", fn := fun _ => fun
  | [d1, d2, d3] => { results := [.lit (.bool true)], args := [d1, d2, d3] }
  | _ => none }
def dagBackRow : OpenClaim := { program := "ytdhhkbnmfabnaaa", sum := "d1ec0be7e470f7a3afa21c0eda15616261efd740ad0d508e92d9a19aed7d0088", func := "shipyard/shipyardlaw10.DagBack", spec := "dagBack", unfollowed := true, recurses := true, apart := false }
def DagBackSaid : Prop := dagBackRow.holds Try.pinned (OpenSpec.ofChange dagBackSpec)

/-- ITS FALSE NEIGHBOUR: 'it returns false'. Refute it at one input. -/
def dagBackWrong : ChangeSpec := { name := "dagBack", fn := fun _ => fun
  | [d1, d2, d3] => { results := [.lit (.bool false)], args := [d1, d2, d3] }
  | _ => none }
def DagBackWrongFalsely : Prop := dagBackRow.holds Try.pinned (OpenSpec.ofChange dagBackWrong)

/-- 'shipyardlaw10.DagSlack': WHATEVER THE INPUT: true; the input reads as it did. -/
def dagSlackSpec : ChangeSpec := { name := "dagSlack", fn := fun _ => fun
  | [d1, d2] => { results := [.lit (.bool true)], args := [d1, d2] }
  | _ => none }
def dagSlackRow : OpenClaim := { program := "ytdhhkbnmfabnaaa", sum := "d1ec0be7e470f7a3afa21c0eda15616261efd740ad0d508e92d9a19aed7d0088", func := "shipyard/shipyardlaw10.DagSlack", spec := "dagSlack", unfollowed := true, recurses := true, apart := false }
def DagSlackSaid : Prop := dagSlackRow.holds Try.pinned (OpenSpec.ofChange dagSlackSpec)

/-- ITS FALSE NEIGHBOUR: 'it returns false'. Refute it at one input. -/
def dagSlackWrong : ChangeSpec := { name := "dagSlack", fn := fun _ => fun
  | [d1, d2] => { results := [.lit (.bool false)], args := [d1, d2] }
  | _ => none }
def DagSlackWrongFalsely : Prop := dagSlackRow.holds Try.pinned (OpenSpec.ofChange dagSlackWrong)

/-- 'shipyardlaw10.DagSame': WHATEVER THE INPUT: true; the input reads as it did. -/
def dagSameSpec : ChangeSpec := { name := "dagSame", fn := fun _ => fun
  | [d1, d2, d3] => { results := [.lit (.bool true)], args := [d1, d2, d3] }
  | _ => none }
def dagSameRow : OpenClaim := { program := "ytdhhkbnmfabnaaa", sum := "d1ec0be7e470f7a3afa21c0eda15616261efd740ad0d508e92d9a19aed7d0088", func := "shipyard/shipyardlaw10.DagSame", spec := "dagSame", unfollowed := true, recurses := true, apart := false }
def DagSameSaid : Prop := dagSameRow.holds Try.pinned (OpenSpec.ofChange dagSameSpec)

/-- ITS FALSE NEIGHBOUR: 'it returns false'. Refute it at one input. -/
def dagSameWrong : ChangeSpec := { name := "dagSame", fn := fun _ => fun
  | [d1, d2, d3] => { results := [.lit (.bool false)], args := [d1, d2, d3] }
  | _ => none }
def DagSameWrongFalsely : Prop := dagSameRow.holds Try.pinned (OpenSpec.ofChange dagSameWrong)

/- THE SECOND FORM. 'bulk': how many values and letters a reading holds, each counted each time it is reached (what is shared counts as often as it is met; a slice's spare places count too). A statement '..UptoSaid' is the law's where the arguments, and the package variables that the reading takes, are together of bulk at most 1048576: NARROWER than '..Said'. Prove '..Said' where nothing that the law and all that it calls make is longer than what came in: it says more and counts as full. Else prove '..UptoSaid'. A law counts once. -/
mutual
def uptoBulk {H : Type} : DataW H → Nat
  | .lit (.string bytes) => bytes.length + 1
  | .lit _ => 1
  | .nil => 1
  | .ptr d => uptoBulk d + 1
  | .slice elems spare => uptoBulkAll elems + uptoBulkAll spare + 1
  | .agg parts => uptoBulkAll parts + 1
  | .iface _ d => uptoBulk d + 1
  | .map entries => uptoBulkEntries entries + 1
  | .held _ => 1
def uptoBulkAll {H : Type} : List (DataW H) → Nat
  | [] => 0
  | d :: r => uptoBulk d + uptoBulkAll r
def uptoBulkEntries {H : Type} : List (Lit × DataW H) → Nat
  | [] => 0
  | x :: r => uptoBulkEntry x + uptoBulkEntries r
def uptoBulkEntry {H : Type} : Lit × DataW H → Nat
  | (.string bytes, d) => bytes.length + uptoBulk d + 1
  | (_, d) => uptoBulk d + 1
 end
def uptoSmall : (H : Type) → List (DataW H) → Bool := fun _ ds => decide (uptoBulkAll ds ≤ 1048576)
def OpenSpec.upto (s : _root_.Go.ChangeSpec) : _root_.Go.OpenSpec := { _root_.Go.OpenSpec.ofChange s with cond := some uptoSmall }

/-- 'shipyardlaw10.DagOrders', WHERE WHAT IT READS IS OF BULK AT MOST 1048576: true; the input reads as it did. -/
def dagOrdersUptoRow : OpenClaim := { program := "ytdhhkbnmfabnaaa", sum := "d1ec0be7e470f7a3afa21c0eda15616261efd740ad0d508e92d9a19aed7d0088", func := "shipyard/shipyardlaw10.DagOrders", spec := "dagOrders", unfollowed := true, recurses := true, apart := false, narrowed := true }
def DagOrdersUptoSaid : Prop := dagOrdersUptoRow.holds Try.pinned (OpenSpec.upto dagOrdersSpec)

/-- 'shipyardlaw10.DagBefore', WHERE WHAT IT READS IS OF BULK AT MOST 1048576: true; the input reads as it did. -/
def dagBeforeUptoRow : OpenClaim := { program := "ytdhhkbnmfabnaaa", sum := "d1ec0be7e470f7a3afa21c0eda15616261efd740ad0d508e92d9a19aed7d0088", func := "shipyard/shipyardlaw10.DagBefore", spec := "dagBefore", unfollowed := true, recurses := true, apart := false, narrowed := true }
def DagBeforeUptoSaid : Prop := dagBeforeUptoRow.holds Try.pinned (OpenSpec.upto dagBeforeSpec)

/-- 'shipyardlaw10.DagStarts', WHERE WHAT IT READS IS OF BULK AT MOST 1048576: true; the input reads as it did. -/
def dagStartsUptoRow : OpenClaim := { program := "ytdhhkbnmfabnaaa", sum := "d1ec0be7e470f7a3afa21c0eda15616261efd740ad0d508e92d9a19aed7d0088", func := "shipyard/shipyardlaw10.DagStarts", spec := "dagStarts", unfollowed := true, recurses := true, apart := false, narrowed := true }
def DagStartsUptoSaid : Prop := dagStartsUptoRow.holds Try.pinned (OpenSpec.upto dagStartsSpec)

/-- 'shipyardlaw10.DagReduces', WHERE WHAT IT READS IS OF BULK AT MOST 1048576: true; the input reads as it did. -/
def dagReducesUptoRow : OpenClaim := { program := "ytdhhkbnmfabnaaa", sum := "d1ec0be7e470f7a3afa21c0eda15616261efd740ad0d508e92d9a19aed7d0088", func := "shipyard/shipyardlaw10.DagReduces", spec := "dagReduces", unfollowed := true, recurses := true, apart := false, narrowed := true }
def DagReducesUptoSaid : Prop := dagReducesUptoRow.holds Try.pinned (OpenSpec.upto dagReducesSpec)

/-- 'shipyardlaw10.DagFirst', WHERE WHAT IT READS IS OF BULK AT MOST 1048576: true; the input reads as it did. -/
def dagFirstUptoRow : OpenClaim := { program := "ytdhhkbnmfabnaaa", sum := "d1ec0be7e470f7a3afa21c0eda15616261efd740ad0d508e92d9a19aed7d0088", func := "shipyard/shipyardlaw10.DagFirst", spec := "dagFirst", unfollowed := true, recurses := true, apart := false, narrowed := true }
def DagFirstUptoSaid : Prop := dagFirstUptoRow.holds Try.pinned (OpenSpec.upto dagFirstSpec)

/-- 'shipyardlaw10.DagBack', WHERE WHAT IT READS IS OF BULK AT MOST 1048576: true; the input reads as it did. -/
def dagBackUptoRow : OpenClaim := { program := "ytdhhkbnmfabnaaa", sum := "d1ec0be7e470f7a3afa21c0eda15616261efd740ad0d508e92d9a19aed7d0088", func := "shipyard/shipyardlaw10.DagBack", spec := "dagBack", unfollowed := true, recurses := true, apart := false, narrowed := true }
def DagBackUptoSaid : Prop := dagBackUptoRow.holds Try.pinned (OpenSpec.upto dagBackSpec)

/-- 'shipyardlaw10.DagSlack', WHERE WHAT IT READS IS OF BULK AT MOST 1048576: true; the input reads as it did. -/
def dagSlackUptoRow : OpenClaim := { program := "ytdhhkbnmfabnaaa", sum := "d1ec0be7e470f7a3afa21c0eda15616261efd740ad0d508e92d9a19aed7d0088", func := "shipyard/shipyardlaw10.DagSlack", spec := "dagSlack", unfollowed := true, recurses := true, apart := false, narrowed := true }
def DagSlackUptoSaid : Prop := dagSlackUptoRow.holds Try.pinned (OpenSpec.upto dagSlackSpec)

/-- 'shipyardlaw10.DagSame', WHERE WHAT IT READS IS OF BULK AT MOST 1048576: true; the input reads as it did. -/
def dagSameUptoRow : OpenClaim := { program := "ytdhhkbnmfabnaaa", sum := "d1ec0be7e470f7a3afa21c0eda15616261efd740ad0d508e92d9a19aed7d0088", func := "shipyard/shipyardlaw10.DagSame", spec := "dagSame", unfollowed := true, recurses := true, apart := false, narrowed := true }
def DagSameUptoSaid : Prop := dagSameUptoRow.holds Try.pinned (OpenSpec.upto dagSameSpec)

end Rows
end Go.Proofs.Ytdhhkbnmfabnaaa
