/-
  DERIVED. GIVEN WITH THE SEED: THE CARDS: each row of YtkknnlhhchielaaDoorRows.lean that lists a variable, with what it lists TIED to the program's text (the seventh form; the later family's looks); each row that meets fmt, with fmt's text TOLD by the authors' own Lean function (tested against real Go, not proved from fmt's source: count such statements apart). THE CARD IS WHAT COUNTS. Prove the row's statement (the work); the ties are given (YtkknnlhhchielaaDoorTie.lean); close each card by the builder's one call (the guide's Derived/Test/ToyasCard.lean, 'card_holds'). Laid BY PROGRAM, IN A SANDBOX (cutbox-door.mjs). By AI agents, Wed Nov 11 2026. No macro, syntax, notation, axiom, sorry.
-/
import Derived.Test.YtkknnlhhchielaaDoorRows
import GoSem.ClaimSeven
namespace Go.Proofs.YtkknnlhhchielaaDoor
namespace Rows

/-- THE TIED CARD OF 'shipyardlaw24.NesterRects'. -/
def nesterRectsCard : Claim7 := { stood := { row := nesterRectsRow, standIns := [], harness := (true, "08b5a6438f9df635f06263183c3c94116b358525f28c538c6944f20e1a2ced26"), looks := false }, kinds := [], alts := [], laidByText := true, laidKinds := [.data], laidTests := true, laidLooks := .later }
def NesterRectsCardSaid : Prop := Claim7.holds Tryd.pinned (.plain (OpenSpec.ofChange nesterRectsSpec)) nesterRectsCard

/-- THE TIED CARD OF 'shipyardlaw24.NesterLess'. -/
def nesterLessCard : Claim7 := { stood := { row := nesterLessRow, standIns := [], harness := (true, "08b5a6438f9df635f06263183c3c94116b358525f28c538c6944f20e1a2ced26"), looks := false }, kinds := [], alts := [], laidByText := true, laidKinds := [.data], laidTests := true, laidLooks := .later }
def NesterLessCardSaid : Prop := Claim7.holds Tryd.pinned (.plain (OpenSpec.ofChange nesterLessSpec)) nesterLessCard

/-- THE SECOND FORM's CARD OF 'shipyardlaw24.NesterRects'. -/
def nesterRectsUptoCard : Claim7 := { stood := { row := nesterRectsUptoRow, standIns := [], harness := (true, "08b5a6438f9df635f06263183c3c94116b358525f28c538c6944f20e1a2ced26"), looks := false }, kinds := [], alts := [], laidByText := true, laidKinds := [.data], laidTests := true, laidLooks := .later }
def NesterRectsUptoCardSaid : Prop := Claim7.holds Tryd.pinned (.plain (OpenSpec.upto nesterRectsSpec)) nesterRectsUptoCard

/-- THE SECOND FORM's CARD OF 'shipyardlaw24.NesterLess'. -/
def nesterLessUptoCard : Claim7 := { stood := { row := nesterLessUptoRow, standIns := [], harness := (true, "08b5a6438f9df635f06263183c3c94116b358525f28c538c6944f20e1a2ced26"), looks := false }, kinds := [], alts := [], laidByText := true, laidKinds := [.data], laidTests := true, laidLooks := .later }
def NesterLessUptoCardSaid : Prop := Claim7.holds Tryd.pinned (.plain (OpenSpec.upto nesterLessSpec)) nesterLessUptoCard
end Rows
end Go.Proofs.YtkknnlhhchielaaDoor
