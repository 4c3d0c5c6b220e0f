/-
  DERIVED. GIVEN WITH THE SEED: THE CARDS: each row of YtkknnlhhchielaaGreatDoorRows.lean that lists a variable, with what it lists TIED to the program's text (the seventh form; the later family's looks); each row that meets fmt, with fmt's text TOLD by the authors' own Lean function (tested against real Go, not proved from fmt's source: count such statements apart). THE CARD IS WHAT COUNTS. Prove the row's statement (the work); the ties are given (YtkknnlhhchielaaGreatDoorTie.lean); close each card by the builder's one call (the guide's Derived/Test/ToyasCard.lean, 'card_holds'). Laid BY PROGRAM, IN A SANDBOX (cutbox-door.mjs). By AI agents, Wed Nov 11 2026. No macro, syntax, notation, axiom, sorry.
-/
import Derived.Test.YtkknnlhhchielaaGreatDoorRows
import GoSem.ClaimSeven
namespace Go.Proofs.YtkknnlhhchielaaGreatDoor
namespace Rows

/-- THE TIED CARD OF 'shipyardlaw24.NesterFills'. -/
def nesterFillsCard : Claim7 := { stood := { row := nesterFillsRow, standIns := [], harness := (true, "29e35ca4310462b319e3e5b097c8cf21937d965d4e6cb07be46d5b895a32ccd7"), looks := false }, kinds := [], alts := [], laidByText := true, laidKinds := [.data], laidTests := true, laidLooks := .later }
def NesterFillsCardSaid : Prop := Claim7.holds Tryz.pinned (.plain (OpenSpec.ofChange nesterFillsSpec)) nesterFillsCard

/-- THE TIED CARD OF 'shipyardlaw24.NesterBests'. -/
def nesterBestsCard : Claim7 := { stood := { row := nesterBestsRow, standIns := [], harness := (true, "29e35ca4310462b319e3e5b097c8cf21937d965d4e6cb07be46d5b895a32ccd7"), looks := false }, kinds := [], alts := [], laidByText := true, laidKinds := [.data], laidTests := true, laidLooks := .later }
def NesterBestsCardSaid : Prop := Claim7.holds Tryz.pinned (.plain (OpenSpec.ofChange nesterBestsSpec)) nesterBestsCard

/-- THE TIED CARD OF 'shipyardlaw24.NesterFull'. -/
def nesterFullCard : Claim7 := { stood := { row := nesterFullRow, standIns := [], harness := (true, "29e35ca4310462b319e3e5b097c8cf21937d965d4e6cb07be46d5b895a32ccd7"), looks := false }, kinds := [], alts := [], laidByText := true, laidKinds := [.data], laidTests := true, laidLooks := .later }
def NesterFullCardSaid : Prop := Claim7.holds Tryz.pinned (.plain (OpenSpec.ofChange nesterFullSpec)) nesterFullCard

/-- THE TIED CARD OF 'shipyardlaw24.NesterChecked'. -/
def nesterCheckedCard : Claim7 := { stood := { row := nesterCheckedRow, standIns := [], harness := (true, "29e35ca4310462b319e3e5b097c8cf21937d965d4e6cb07be46d5b895a32ccd7"), looks := false }, kinds := [], alts := [], laidByText := true, laidKinds := [.data], laidTests := true, laidLooks := .later }
def NesterCheckedCardSaid : Prop := Claim7.holds Tryz.pinned (.plain (OpenSpec.ofChange nesterCheckedSpec)) nesterCheckedCard

/-- THE SECOND FORM's CARD OF 'shipyardlaw24.NesterFills'. -/
def nesterFillsUptoCard : Claim7 := { stood := { row := nesterFillsUptoRow, standIns := [], harness := (true, "29e35ca4310462b319e3e5b097c8cf21937d965d4e6cb07be46d5b895a32ccd7"), looks := false }, kinds := [], alts := [], laidByText := true, laidKinds := [.data], laidTests := true, laidLooks := .later }
def NesterFillsUptoCardSaid : Prop := Claim7.holds Tryz.pinned (.plain (OpenSpec.upto nesterFillsSpec)) nesterFillsUptoCard

/-- THE SECOND FORM's CARD OF 'shipyardlaw24.NesterBests'. -/
def nesterBestsUptoCard : Claim7 := { stood := { row := nesterBestsUptoRow, standIns := [], harness := (true, "29e35ca4310462b319e3e5b097c8cf21937d965d4e6cb07be46d5b895a32ccd7"), looks := false }, kinds := [], alts := [], laidByText := true, laidKinds := [.data], laidTests := true, laidLooks := .later }
def NesterBestsUptoCardSaid : Prop := Claim7.holds Tryz.pinned (.plain (OpenSpec.upto nesterBestsSpec)) nesterBestsUptoCard

/-- THE SECOND FORM's CARD OF 'shipyardlaw24.NesterFull'. -/
def nesterFullUptoCard : Claim7 := { stood := { row := nesterFullUptoRow, standIns := [], harness := (true, "29e35ca4310462b319e3e5b097c8cf21937d965d4e6cb07be46d5b895a32ccd7"), looks := false }, kinds := [], alts := [], laidByText := true, laidKinds := [.data], laidTests := true, laidLooks := .later }
def NesterFullUptoCardSaid : Prop := Claim7.holds Tryz.pinned (.plain (OpenSpec.upto nesterFullSpec)) nesterFullUptoCard

/-- THE SECOND FORM's CARD OF 'shipyardlaw24.NesterChecked'. -/
def nesterCheckedUptoCard : Claim7 := { stood := { row := nesterCheckedUptoRow, standIns := [], harness := (true, "29e35ca4310462b319e3e5b097c8cf21937d965d4e6cb07be46d5b895a32ccd7"), looks := false }, kinds := [], alts := [], laidByText := true, laidKinds := [.data], laidTests := true, laidLooks := .later }
def NesterCheckedUptoCardSaid : Prop := Claim7.holds Tryz.pinned (.plain (OpenSpec.upto nesterCheckedSpec)) nesterCheckedUptoCard
end Rows
end Go.Proofs.YtkknnlhhchielaaGreatDoor
