/-
  DERIVED. GIVEN WITH THE SEED: THE CARDS: each row of YtbjfmobjdipehaaDoorRows.lean that lists a variable, with what it lists TIED to the program's text (the seventh form; the later family's looks); each row that meets fmt, with fmt's text TOLD by the authors' own Lean function (tested against real Go, not proved from fmt's source: count such statements apart). THE CARD IS WHAT COUNTS. Prove the row's statement (the work); the ties are given (YtbjfmobjdipehaaDoorTie.lean); close each card by the builder's one call (the guide's Derived/Test/ToyasCard.lean, 'card_holds'). Laid BY PROGRAM, IN A SANDBOX (cutbox-door.mjs). By AI agents, Wed Nov 11 2026. No macro, syntax, notation, axiom, sorry.
-/
import Derived.Test.YtbjfmobjdipehaaDoorRows
import GoSem.ClaimSeven
namespace Go.Proofs.YtbjfmobjdipehaaDoor
namespace Rows

/-- THE TIED CARD OF 'shipyardlaw46.PenetrationCrosses'. -/
def penetrationCrossesCard : Claim7 := { stood := { row := penetrationCrossesRow, standIns := [], harness := (true, "ee3ee7484c73263e9fa5b6bb2edf5d6362ab246478d3e2e553ccb69822bc8a49"), looks := false }, kinds := [], alts := [], laidByText := true, laidKinds := [.data], laidTests := true, laidLooks := .later }
def PenetrationCrossesCardSaid : Prop := Claim7.holds Tryd.pinned (.plain (OpenSpec.ofChange penetrationCrossesSpec)) penetrationCrossesCard

/-- THE TIED CARD OF 'shipyardlaw46.PenetrationCovers'. -/
def penetrationCoversCard : Claim7 := { stood := { row := penetrationCoversRow, standIns := [], harness := (true, "ee3ee7484c73263e9fa5b6bb2edf5d6362ab246478d3e2e553ccb69822bc8a49"), looks := false }, kinds := [], alts := [], laidByText := true, laidKinds := [.data], laidTests := true, laidLooks := .later }
def PenetrationCoversCardSaid : Prop := Claim7.holds Tryd.pinned (.plain (OpenSpec.ofChange penetrationCoversSpec)) penetrationCoversCard

/-- THE TIED CARD OF 'shipyardlaw46.PenetrationHoles'. -/
def penetrationHolesCard : Claim7 := { stood := { row := penetrationHolesRow, standIns := [], harness := (true, "ee3ee7484c73263e9fa5b6bb2edf5d6362ab246478d3e2e553ccb69822bc8a49"), looks := false }, kinds := [], alts := [], laidByText := true, laidKinds := [.data], laidTests := true, laidLooks := .later }
def PenetrationHolesCardSaid : Prop := Claim7.holds Tryd.pinned (.plain (OpenSpec.ofChange penetrationHolesSpec)) penetrationHolesCard

/-- THE TIED CARD OF 'shipyardlaw46.PenetrationBack'. -/
def penetrationBackCard : Claim7 := { stood := { row := penetrationBackRow, standIns := [], harness := (true, "ee3ee7484c73263e9fa5b6bb2edf5d6362ab246478d3e2e553ccb69822bc8a49"), looks := false }, kinds := [], alts := [], laidByText := true, laidKinds := [.data], laidTests := true, laidLooks := .later }
def PenetrationBackCardSaid : Prop := Claim7.holds Tryd.pinned (.plain (OpenSpec.ofChange penetrationBackSpec)) penetrationBackCard

/-- THE TIED CARD OF 'shipyardlaw46.PenetrationSmaller'. -/
def penetrationSmallerCard : Claim7 := { stood := { row := penetrationSmallerRow, standIns := [], harness := (true, "ee3ee7484c73263e9fa5b6bb2edf5d6362ab246478d3e2e553ccb69822bc8a49"), looks := false }, kinds := [], alts := [], laidByText := true, laidKinds := [.data], laidTests := true, laidLooks := .later }
def PenetrationSmallerCardSaid : Prop := Claim7.holds Tryd.pinned (.plain (OpenSpec.ofChange penetrationSmallerSpec)) penetrationSmallerCard

/-- THE TIED CARD OF 'shipyardlaw46.PenetrationMoved'. -/
def penetrationMovedCard : Claim7 := { stood := { row := penetrationMovedRow, standIns := [], harness := (true, "ee3ee7484c73263e9fa5b6bb2edf5d6362ab246478d3e2e553ccb69822bc8a49"), looks := false }, kinds := [], alts := [], laidByText := true, laidKinds := [.data], laidTests := true, laidLooks := .later }
def PenetrationMovedCardSaid : Prop := Claim7.holds Tryd.pinned (.plain (OpenSpec.ofChange penetrationMovedSpec)) penetrationMovedCard

/-- THE SECOND FORM's CARD OF 'shipyardlaw46.PenetrationCrosses'. -/
def penetrationCrossesUptoCard : Claim7 := { stood := { row := penetrationCrossesUptoRow, standIns := [], harness := (true, "ee3ee7484c73263e9fa5b6bb2edf5d6362ab246478d3e2e553ccb69822bc8a49"), looks := false }, kinds := [], alts := [], laidByText := true, laidKinds := [.data], laidTests := true, laidLooks := .later }
def PenetrationCrossesUptoCardSaid : Prop := Claim7.holds Tryd.pinned (.plain (OpenSpec.upto penetrationCrossesSpec)) penetrationCrossesUptoCard

/-- THE SECOND FORM's CARD OF 'shipyardlaw46.PenetrationCovers'. -/
def penetrationCoversUptoCard : Claim7 := { stood := { row := penetrationCoversUptoRow, standIns := [], harness := (true, "ee3ee7484c73263e9fa5b6bb2edf5d6362ab246478d3e2e553ccb69822bc8a49"), looks := false }, kinds := [], alts := [], laidByText := true, laidKinds := [.data], laidTests := true, laidLooks := .later }
def PenetrationCoversUptoCardSaid : Prop := Claim7.holds Tryd.pinned (.plain (OpenSpec.upto penetrationCoversSpec)) penetrationCoversUptoCard

/-- THE SECOND FORM's CARD OF 'shipyardlaw46.PenetrationHoles'. -/
def penetrationHolesUptoCard : Claim7 := { stood := { row := penetrationHolesUptoRow, standIns := [], harness := (true, "ee3ee7484c73263e9fa5b6bb2edf5d6362ab246478d3e2e553ccb69822bc8a49"), looks := false }, kinds := [], alts := [], laidByText := true, laidKinds := [.data], laidTests := true, laidLooks := .later }
def PenetrationHolesUptoCardSaid : Prop := Claim7.holds Tryd.pinned (.plain (OpenSpec.upto penetrationHolesSpec)) penetrationHolesUptoCard

/-- THE SECOND FORM's CARD OF 'shipyardlaw46.PenetrationBack'. -/
def penetrationBackUptoCard : Claim7 := { stood := { row := penetrationBackUptoRow, standIns := [], harness := (true, "ee3ee7484c73263e9fa5b6bb2edf5d6362ab246478d3e2e553ccb69822bc8a49"), looks := false }, kinds := [], alts := [], laidByText := true, laidKinds := [.data], laidTests := true, laidLooks := .later }
def PenetrationBackUptoCardSaid : Prop := Claim7.holds Tryd.pinned (.plain (OpenSpec.upto penetrationBackSpec)) penetrationBackUptoCard

/-- THE SECOND FORM's CARD OF 'shipyardlaw46.PenetrationSmaller'. -/
def penetrationSmallerUptoCard : Claim7 := { stood := { row := penetrationSmallerUptoRow, standIns := [], harness := (true, "ee3ee7484c73263e9fa5b6bb2edf5d6362ab246478d3e2e553ccb69822bc8a49"), looks := false }, kinds := [], alts := [], laidByText := true, laidKinds := [.data], laidTests := true, laidLooks := .later }
def PenetrationSmallerUptoCardSaid : Prop := Claim7.holds Tryd.pinned (.plain (OpenSpec.upto penetrationSmallerSpec)) penetrationSmallerUptoCard

/-- THE SECOND FORM's CARD OF 'shipyardlaw46.PenetrationMoved'. -/
def penetrationMovedUptoCard : Claim7 := { stood := { row := penetrationMovedUptoRow, standIns := [], harness := (true, "ee3ee7484c73263e9fa5b6bb2edf5d6362ab246478d3e2e553ccb69822bc8a49"), looks := false }, kinds := [], alts := [], laidByText := true, laidKinds := [.data], laidTests := true, laidLooks := .later }
def PenetrationMovedUptoCardSaid : Prop := Claim7.holds Tryd.pinned (.plain (OpenSpec.upto penetrationMovedSpec)) penetrationMovedUptoCard
end Rows
end Go.Proofs.YtbjfmobjdipehaaDoor
