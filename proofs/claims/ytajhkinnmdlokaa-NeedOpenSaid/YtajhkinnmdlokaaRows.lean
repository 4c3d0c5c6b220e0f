/-
  No cell of these rows narrows 'for every input' (looked for: loops, veiled, ifaces, maps, wideKeys, modest, calm, conditions, laid).
  DERIVED. THE GIVEN ROWS OF THIS SEAT. 4 by the template 'for every input the law returns true; each argument reads behind the call as it read before'; 0 by the template 'total and deterministic' (their statements: YtajhkinnmdlokaaTotals.lean).
  GIVEN WITH THE SEED: the statements are not yours to turn. If you find one false, say at which input.
  Laid BY PROGRAM, IN A SANDBOX (cutbox-rows.mjs): the forced cells as the released guide's own fill.sh prints them over the translation 38529c26906ab82a… (all of the seat's roots in one cut). By AI agents, Wed Nov 11 2026. No macro, syntax, notation, axiom, sorry.
-/
import Derived.Test.YtajhkinnmdlokaaChecked
import GoSem.Claim
import GoSem.ClaimJoined
import GoSem.ClaimMapViews
import Derived.JoinedTies
import Derived.KernelRfl
namespace Go.Proofs.Ytajhkinnmdlokaa
/- THE CELL 'sum', in the pinned program and in every row, IS THE sha256 OF THE DUMP (.gsa) THAT YtajhkinnmdlokaaProg.lean LOADS. Nothing in Lean hashes anything: it is a label: what it is worth is what the hold of that sum in a sandbox is worth. -/
noncomputable def Try.pinned : Pinned := { name := "ytajhkinnmdlokaa", sum := "38529c26906ab82a7351969475324e1f4cc4380d49adaaba274d8d28df3661e7", checked := Try.checked }
namespace Rows
def none {H : Type} : Left H := { results := [], args := [] }

/-- 'shipyardlaw51.NeedOrders': WHATEVER THE INPUT: true; the input reads as it did. -/
def needOrdersSpec : ChangeSpec := { name := "needOrders", fn := fun _ => fun
  | [d] => { results := [.lit (.bool true)], args := [d] }
  | _ => none }
def needOrdersRow : OpenClaim := { program := "ytajhkinnmdlokaa", sum := "38529c26906ab82a7351969475324e1f4cc4380d49adaaba274d8d28df3661e7", func := "shipyard/shipyardlaw51.NeedOrders", spec := "needOrders", unfollowed := true, recurses := true, plainKeys := false, apart := false }
def NeedOrdersSaid : Prop := needOrdersRow.holds Try.pinned (OpenSpec.ofChange needOrdersSpec)

/-- ITS FALSE NEIGHBOUR: 'it returns false'. Refute it at one input. -/
def needOrdersWrong : ChangeSpec := { name := "needOrders", fn := fun _ => fun
  | [d] => { results := [.lit (.bool false)], args := [d] }
  | _ => none }
def NeedOrdersWrongFalsely : Prop := needOrdersRow.holds Try.pinned (OpenSpec.ofChange needOrdersWrong)

/-- 'shipyardlaw51.NeedReady': WHATEVER THE INPUT: true; the input reads as it did. -/
def needReadySpec : ChangeSpec := { name := "needReady", fn := fun _ => fun
  | [d] => { results := [.lit (.bool true)], args := [d] }
  | _ => none }
def needReadyRow : OpenClaim := { program := "ytajhkinnmdlokaa", sum := "38529c26906ab82a7351969475324e1f4cc4380d49adaaba274d8d28df3661e7", func := "shipyard/shipyardlaw51.NeedReady", spec := "needReady", unfollowed := true, recurses := true, plainKeys := false, apart := false }
def NeedReadySaid : Prop := needReadyRow.holds Try.pinned (OpenSpec.ofChange needReadySpec)

/-- ITS FALSE NEIGHBOUR: 'it returns false'. Refute it at one input. -/
def needReadyWrong : ChangeSpec := { name := "needReady", fn := fun _ => fun
  | [d] => { results := [.lit (.bool false)], args := [d] }
  | _ => none }
def NeedReadyWrongFalsely : Prop := needReadyRow.holds Try.pinned (OpenSpec.ofChange needReadyWrong)

/-- 'shipyardlaw51.NeedOpen': WHATEVER THE INPUT: true; the input reads as it did. -/
def needOpenSpec : ChangeSpec := { name := "needOpen", fn := fun _ => fun
  | [d] => { results := [.lit (.bool true)], args := [d] }
  | _ => none }
def needOpenRow : OpenClaim := { program := "ytajhkinnmdlokaa", sum := "38529c26906ab82a7351969475324e1f4cc4380d49adaaba274d8d28df3661e7", func := "shipyard/shipyardlaw51.NeedOpen", spec := "needOpen", unfollowed := true, recurses := true, plainKeys := false, apart := false }
def NeedOpenSaid : Prop := needOpenRow.holds Try.pinned (OpenSpec.ofChange needOpenSpec)

/-- ITS FALSE NEIGHBOUR: 'it returns false'. Refute it at one input. -/
def needOpenWrong : ChangeSpec := { name := "needOpen", fn := fun _ => fun
  | [d] => { results := [.lit (.bool false)], args := [d] }
  | _ => none }
def NeedOpenWrongFalsely : Prop := needOpenRow.holds Try.pinned (OpenSpec.ofChange needOpenWrong)

/-- 'shipyardlaw51.NeedRemains': WHATEVER THE INPUT: true; the input reads as it did. -/
def needRemainsSpec : ChangeSpec := { name := "needRemains", fn := fun _ => fun
  | [d1, d2] => { results := [.lit (.bool true)], args := [d1, d2] }
  | _ => none }
def needRemainsRow : OpenClaim := { program := "ytajhkinnmdlokaa", sum := "38529c26906ab82a7351969475324e1f4cc4380d49adaaba274d8d28df3661e7", func := "shipyard/shipyardlaw51.NeedRemains", spec := "needRemains", unfollowed := true, recurses := true, plainKeys := false, apart := false }
def NeedRemainsSaid : Prop := needRemainsRow.holds Try.pinned (OpenSpec.ofChange needRemainsSpec)

/-- ITS FALSE NEIGHBOUR: 'it returns false'. Refute it at one input. -/
def needRemainsWrong : ChangeSpec := { name := "needRemains", fn := fun _ => fun
  | [d1, d2] => { results := [.lit (.bool false)], args := [d1, d2] }
  | _ => none }
def NeedRemainsWrongFalsely : Prop := needRemainsRow.holds Try.pinned (OpenSpec.ofChange needRemainsWrong)

/- THE SECOND FORM. 'bulk': how many values and letters a reading holds, each counted each time it is reached (what is shared counts as often as it is met; a slice's spare places count too). A statement '..UptoSaid' is the law's where the arguments, and the package variables that the reading takes, are together of bulk at most 1048576: NARROWER than '..Said'. Prove '..Said' where nothing that the law and all that it calls make is longer than what came in: it says more and counts as full. Else prove '..UptoSaid'. A law counts once. -/
mutual
def uptoBulk {H : Type} : DataW H → Nat
  | .lit (.string bytes) => bytes.length + 1
  | .lit _ => 1
  | .nil => 1
  | .ptr d => uptoBulk d + 1
  | .slice elems spare => uptoBulkAll elems + uptoBulkAll spare + 1
  | .agg parts => uptoBulkAll parts + 1
  | .iface _ d => uptoBulk d + 1
  | .map entries => uptoBulkEntries entries + 1
  | .held _ => 1
def uptoBulkAll {H : Type} : List (DataW H) → Nat
  | [] => 0
  | d :: r => uptoBulk d + uptoBulkAll r
def uptoBulkEntries {H : Type} : List (Lit × DataW H) → Nat
  | [] => 0
  | x :: r => uptoBulkEntry x + uptoBulkEntries r
def uptoBulkEntry {H : Type} : Lit × DataW H → Nat
  | (.string bytes, d) => bytes.length + uptoBulk d + 1
  | (_, d) => uptoBulk d + 1
 end
def uptoSmall : (H : Type) → List (DataW H) → Bool := fun _ ds => decide (uptoBulkAll ds ≤ 1048576)
def OpenSpec.upto (s : _root_.Go.ChangeSpec) : _root_.Go.OpenSpec := { _root_.Go.OpenSpec.ofChange s with cond := some uptoSmall }

/-- 'shipyardlaw51.NeedOrders', WHERE WHAT IT READS IS OF BULK AT MOST 1048576: true; the input reads as it did. -/
def needOrdersUptoRow : OpenClaim := { program := "ytajhkinnmdlokaa", sum := "38529c26906ab82a7351969475324e1f4cc4380d49adaaba274d8d28df3661e7", func := "shipyard/shipyardlaw51.NeedOrders", spec := "needOrders", unfollowed := true, recurses := true, plainKeys := false, apart := false, narrowed := true }
def NeedOrdersUptoSaid : Prop := needOrdersUptoRow.holds Try.pinned (OpenSpec.upto needOrdersSpec)

/-- 'shipyardlaw51.NeedReady', WHERE WHAT IT READS IS OF BULK AT MOST 1048576: true; the input reads as it did. -/
def needReadyUptoRow : OpenClaim := { program := "ytajhkinnmdlokaa", sum := "38529c26906ab82a7351969475324e1f4cc4380d49adaaba274d8d28df3661e7", func := "shipyard/shipyardlaw51.NeedReady", spec := "needReady", unfollowed := true, recurses := true, plainKeys := false, apart := false, narrowed := true }
def NeedReadyUptoSaid : Prop := needReadyUptoRow.holds Try.pinned (OpenSpec.upto needReadySpec)

/-- 'shipyardlaw51.NeedOpen', WHERE WHAT IT READS IS OF BULK AT MOST 1048576: true; the input reads as it did. -/
def needOpenUptoRow : OpenClaim := { program := "ytajhkinnmdlokaa", sum := "38529c26906ab82a7351969475324e1f4cc4380d49adaaba274d8d28df3661e7", func := "shipyard/shipyardlaw51.NeedOpen", spec := "needOpen", unfollowed := true, recurses := true, plainKeys := false, apart := false, narrowed := true }
def NeedOpenUptoSaid : Prop := needOpenUptoRow.holds Try.pinned (OpenSpec.upto needOpenSpec)

/-- 'shipyardlaw51.NeedRemains', WHERE WHAT IT READS IS OF BULK AT MOST 1048576: true; the input reads as it did. -/
def needRemainsUptoRow : OpenClaim := { program := "ytajhkinnmdlokaa", sum := "38529c26906ab82a7351969475324e1f4cc4380d49adaaba274d8d28df3661e7", func := "shipyard/shipyardlaw51.NeedRemains", spec := "needRemains", unfollowed := true, recurses := true, plainKeys := false, apart := false, narrowed := true }
def NeedRemainsUptoSaid : Prop := needRemainsUptoRow.holds Try.pinned (OpenSpec.upto needRemainsSpec)

end Rows
end Go.Proofs.Ytajhkinnmdlokaa
