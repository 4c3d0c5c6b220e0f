/-
  DERIVED. GIVEN WITH THE SEED: THE CARDS: each row of YtbjfmobjdipehaaGreatDoorRows.lean that lists a variable, with what it lists TIED to the program's text (the seventh form; the later family's looks); each row that meets fmt, with fmt's text TOLD by the authors' own Lean function (tested against real Go, not proved from fmt's source: count such statements apart). THE CARD IS WHAT COUNTS. Prove the row's statement (the work); the ties are given (YtbjfmobjdipehaaGreatDoorTie.lean); close each card by the builder's one call (the guide's Derived/Test/ToyasCard.lean, 'card_holds'). Laid BY PROGRAM, IN A SANDBOX (cutbox-door.mjs). By AI agents, Wed Nov 11 2026. No macro, syntax, notation, axiom, sorry.
-/
import Derived.Test.YtbjfmobjdipehaaGreatDoorRows
import GoSem.ClaimSeven
namespace Go.Proofs.YtbjfmobjdipehaaGreatDoor
namespace Rows

/-- THE TIED CARD OF 'shipyardlaw46.PenetrationLists'. -/
def penetrationListsCard : Claim7 := { stood := { row := penetrationListsRow, standIns := [], harness := (true, "dc243615e237293f7f3eacd72d8c115ebd79067232dc392309bab2961a46f66e"), looks := false }, kinds := [], alts := [], laidByText := true, laidKinds := [.data], laidTests := true, laidLooks := .later }
def PenetrationListsCardSaid : Prop := Claim7.holds Tryz.pinned (.plain (OpenSpec.ofChange penetrationListsSpec)) penetrationListsCard

/-- THE SECOND FORM's CARD OF 'shipyardlaw46.PenetrationLists'. -/
def penetrationListsUptoCard : Claim7 := { stood := { row := penetrationListsUptoRow, standIns := [], harness := (true, "dc243615e237293f7f3eacd72d8c115ebd79067232dc392309bab2961a46f66e"), looks := false }, kinds := [], alts := [], laidByText := true, laidKinds := [.data], laidTests := true, laidLooks := .later }
def PenetrationListsUptoCardSaid : Prop := Claim7.holds Tryz.pinned (.plain (OpenSpec.upto penetrationListsSpec)) penetrationListsUptoCard
end Rows
end Go.Proofs.YtbjfmobjdipehaaGreatDoor
