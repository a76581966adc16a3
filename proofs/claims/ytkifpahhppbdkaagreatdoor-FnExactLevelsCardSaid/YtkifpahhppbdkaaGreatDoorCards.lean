/-
  DERIVED. GIVEN WITH THE SEED: THE CARDS: each row of YtkifpahhppbdkaaGreatDoorRows.lean that lists a variable, with what it lists TIED to the program's text (the seventh form; the later family's looks); each row that meets fmt, with fmt's text TOLD by the authors' own Lean function (tested against real Go, not proved from fmt's source: count such statements apart). THE CARD IS WHAT COUNTS. Prove the row's statement (the work); the ties are given (YtkifpahhppbdkaaGreatDoorTie.lean); close each card by the builder's one call (the guide's Derived/Test/ToyasCard.lean, 'card_holds'). Laid BY PROGRAM, IN A SANDBOX (cutbox-door.mjs). By AI agents, Wed Nov 11 2026. No macro, syntax, notation, axiom, sorry.
-/
import Derived.Test.YtkifpahhppbdkaaGreatDoorRows
import GoSem.ClaimSeven
namespace Go.Proofs.YtkifpahhppbdkaaGreatDoor
namespace Rows

/-- THE TIED CARD OF 'laws.FnShip'. -/
def fnShipCard : Claim7 := { stood := { row := fnShipRow, standIns := [], harness := (true, "13f284f93fc57aaca022c9e258f604f31a2453cd2cd1af9b47f8e0e3d4414d4d"), looks := true }, kinds := [], alts := [], laidByText := true, laidKinds := [.data, .data, .data, .sentinel, .sentinel], laidTests := true, laidLooks := .later }
def FnShipCardSaid : Prop := Claim7.holds Tryz.pinned (.plain (OpenSpec.ofChange fnShipSpec)) fnShipCard

/-- THE TIED CARD OF 'laws.FnExactShip'. -/
def fnExactShipCard : Claim7 := { stood := { row := fnExactShipRow, standIns := [], harness := (true, "13f284f93fc57aaca022c9e258f604f31a2453cd2cd1af9b47f8e0e3d4414d4d"), looks := true }, kinds := [], alts := [], laidByText := true, laidKinds := [.data, .data, .data, .sentinel, .sentinel], laidTests := true, laidLooks := .later }
def FnExactShipCardSaid : Prop := Claim7.holds Tryz.pinned (.plain (OpenSpec.ofChange fnExactShipSpec)) fnExactShipCard

/-- THE TIED CARD OF 'laws.FnExactUses'. -/
def fnExactUsesCard : Claim7 := { stood := { row := fnExactUsesRow, standIns := [], harness := (true, "13f284f93fc57aaca022c9e258f604f31a2453cd2cd1af9b47f8e0e3d4414d4d"), looks := true }, kinds := [], alts := [], laidByText := true, laidKinds := [.data, .data, .data, .sentinel, .sentinel], laidTests := true, laidLooks := .later }
def FnExactUsesCardSaid : Prop := Claim7.holds Tryz.pinned (.plain (OpenSpec.ofChange fnExactUsesSpec)) fnExactUsesCard

/-- THE TIED CARD OF 'laws.FnExactLevels'. -/
def fnExactLevelsCard : Claim7 := { stood := { row := fnExactLevelsRow, standIns := [], harness := (true, "13f284f93fc57aaca022c9e258f604f31a2453cd2cd1af9b47f8e0e3d4414d4d"), looks := true }, kinds := [], alts := [], laidByText := true, laidKinds := [.data, .data, .data, .sentinel, .sentinel], laidTests := true, laidLooks := .later }
def FnExactLevelsCardSaid : Prop := Claim7.holds Tryz.pinned (.plain (OpenSpec.ofChange fnExactLevelsSpec)) fnExactLevelsCard

/-- THE TIED CARD OF 'laws.FnLevels'. -/
def fnLevelsCard : Claim7 := { stood := { row := fnLevelsRow, standIns := [], harness := (true, "13f284f93fc57aaca022c9e258f604f31a2453cd2cd1af9b47f8e0e3d4414d4d"), looks := true }, kinds := [], alts := [], laidByText := true, laidKinds := [.data, .data, .data, .sentinel, .sentinel], laidTests := true, laidLooks := .later }
def FnLevelsCardSaid : Prop := Claim7.holds Tryz.pinned (.plain (OpenSpec.ofChange fnLevelsSpec)) fnLevelsCard

/-- THE SECOND FORM's CARD OF 'laws.FnShip'. -/
def fnShipUptoCard : Claim7 := { stood := { row := fnShipUptoRow, standIns := [], harness := (true, "13f284f93fc57aaca022c9e258f604f31a2453cd2cd1af9b47f8e0e3d4414d4d"), looks := true }, kinds := [], alts := [], laidByText := true, laidKinds := [.data, .data, .data, .sentinel, .sentinel], laidTests := true, laidLooks := .later }
def FnShipUptoCardSaid : Prop := Claim7.holds Tryz.pinned (.plain (OpenSpec.upto fnShipSpec)) fnShipUptoCard

/-- THE SECOND FORM's CARD OF 'laws.FnExactShip'. -/
def fnExactShipUptoCard : Claim7 := { stood := { row := fnExactShipUptoRow, standIns := [], harness := (true, "13f284f93fc57aaca022c9e258f604f31a2453cd2cd1af9b47f8e0e3d4414d4d"), looks := true }, kinds := [], alts := [], laidByText := true, laidKinds := [.data, .data, .data, .sentinel, .sentinel], laidTests := true, laidLooks := .later }
def FnExactShipUptoCardSaid : Prop := Claim7.holds Tryz.pinned (.plain (OpenSpec.upto fnExactShipSpec)) fnExactShipUptoCard

/-- THE SECOND FORM's CARD OF 'laws.FnExactUses'. -/
def fnExactUsesUptoCard : Claim7 := { stood := { row := fnExactUsesUptoRow, standIns := [], harness := (true, "13f284f93fc57aaca022c9e258f604f31a2453cd2cd1af9b47f8e0e3d4414d4d"), looks := true }, kinds := [], alts := [], laidByText := true, laidKinds := [.data, .data, .data, .sentinel, .sentinel], laidTests := true, laidLooks := .later }
def FnExactUsesUptoCardSaid : Prop := Claim7.holds Tryz.pinned (.plain (OpenSpec.upto fnExactUsesSpec)) fnExactUsesUptoCard

/-- THE SECOND FORM's CARD OF 'laws.FnExactLevels'. -/
def fnExactLevelsUptoCard : Claim7 := { stood := { row := fnExactLevelsUptoRow, standIns := [], harness := (true, "13f284f93fc57aaca022c9e258f604f31a2453cd2cd1af9b47f8e0e3d4414d4d"), looks := true }, kinds := [], alts := [], laidByText := true, laidKinds := [.data, .data, .data, .sentinel, .sentinel], laidTests := true, laidLooks := .later }
def FnExactLevelsUptoCardSaid : Prop := Claim7.holds Tryz.pinned (.plain (OpenSpec.upto fnExactLevelsSpec)) fnExactLevelsUptoCard

/-- THE SECOND FORM's CARD OF 'laws.FnLevels'. -/
def fnLevelsUptoCard : Claim7 := { stood := { row := fnLevelsUptoRow, standIns := [], harness := (true, "13f284f93fc57aaca022c9e258f604f31a2453cd2cd1af9b47f8e0e3d4414d4d"), looks := true }, kinds := [], alts := [], laidByText := true, laidKinds := [.data, .data, .data, .sentinel, .sentinel], laidTests := true, laidLooks := .later }
def FnLevelsUptoCardSaid : Prop := Claim7.holds Tryz.pinned (.plain (OpenSpec.upto fnLevelsSpec)) fnLevelsUptoCard
end Rows
end Go.Proofs.YtkifpahhppbdkaaGreatDoor
