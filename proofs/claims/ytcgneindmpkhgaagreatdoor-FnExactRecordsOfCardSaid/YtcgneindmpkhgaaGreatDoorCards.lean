/-
  DERIVED. GIVEN WITH THE SEED: THE CARDS: each row of YtcgneindmpkhgaaGreatDoorRows.lean that lists a variable, with what it lists TIED to the program's text (the seventh form; the later family's looks); each row that meets fmt, with fmt's text TOLD by the authors' own Lean function (tested against real Go, not proved from fmt's source: count such statements apart). THE CARD IS WHAT COUNTS. Prove the row's statement (the work); the ties are given (YtcgneindmpkhgaaGreatDoorTie.lean); close each card by the builder's one call (the guide's Derived/Test/ToyasCard.lean, 'card_holds'). Laid BY PROGRAM, IN A SANDBOX (cutbox-door.mjs). By AI agents, Wed Nov 11 2026. No macro, syntax, notation, axiom, sorry.
-/
import Derived.Test.YtcgneindmpkhgaaGreatDoorRows
import GoSem.ClaimSeven
namespace Go.Proofs.YtcgneindmpkhgaaGreatDoor
namespace Rows

/-- THE TIED CARD OF 'laws.FnExactUsageOf'. -/
def fnExactUsageOfCard : Claim7 := { stood := { row := fnExactUsageOfRow, standIns := [], harness := (true, "2570664e0d8e1ed82060de1cf266d95285b7b3e19ee572348b8b1847899668dc"), looks := true }, kinds := [], alts := [], laidByText := true, laidKinds := [.data, .data, .data, .sentinel, .sentinel], laidTests := true, laidLooks := .later }
def FnExactUsageOfCardSaid : Prop := Claim7.holds Tryz.pinned (.plain (OpenSpec.ofChange fnExactUsageOfSpec)) fnExactUsageOfCard

/-- THE TIED CARD OF 'laws.FnExactWhere'. -/
def fnExactWhereCard : Claim7 := { stood := { row := fnExactWhereRow, standIns := [], harness := (true, "2570664e0d8e1ed82060de1cf266d95285b7b3e19ee572348b8b1847899668dc"), looks := true }, kinds := [], alts := [], laidByText := true, laidKinds := [.data, .data, .data, .sentinel, .sentinel], laidTests := true, laidLooks := .later }
def FnExactWhereCardSaid : Prop := Claim7.holds Tryz.pinned (.plain (OpenSpec.ofChange fnExactWhereSpec)) fnExactWhereCard

/-- THE TIED CARD OF 'laws.FnExactRecordsOf'. -/
def fnExactRecordsOfCard : Claim7 := { stood := { row := fnExactRecordsOfRow, standIns := [], harness := (true, "2570664e0d8e1ed82060de1cf266d95285b7b3e19ee572348b8b1847899668dc"), looks := true }, kinds := [], alts := [], laidByText := true, laidKinds := [.data, .data, .data, .sentinel, .sentinel], laidTests := true, laidLooks := .later }
def FnExactRecordsOfCardSaid : Prop := Claim7.holds Tryz.pinned (.plain (OpenSpec.ofChange fnExactRecordsOfSpec)) fnExactRecordsOfCard

/-- THE SECOND FORM's CARD OF 'laws.FnExactUsageOf'. -/
def fnExactUsageOfUptoCard : Claim7 := { stood := { row := fnExactUsageOfUptoRow, standIns := [], harness := (true, "2570664e0d8e1ed82060de1cf266d95285b7b3e19ee572348b8b1847899668dc"), looks := true }, kinds := [], alts := [], laidByText := true, laidKinds := [.data, .data, .data, .sentinel, .sentinel], laidTests := true, laidLooks := .later }
def FnExactUsageOfUptoCardSaid : Prop := Claim7.holds Tryz.pinned (.plain (OpenSpec.upto fnExactUsageOfSpec)) fnExactUsageOfUptoCard

/-- THE SECOND FORM's CARD OF 'laws.FnExactWhere'. -/
def fnExactWhereUptoCard : Claim7 := { stood := { row := fnExactWhereUptoRow, standIns := [], harness := (true, "2570664e0d8e1ed82060de1cf266d95285b7b3e19ee572348b8b1847899668dc"), looks := true }, kinds := [], alts := [], laidByText := true, laidKinds := [.data, .data, .data, .sentinel, .sentinel], laidTests := true, laidLooks := .later }
def FnExactWhereUptoCardSaid : Prop := Claim7.holds Tryz.pinned (.plain (OpenSpec.upto fnExactWhereSpec)) fnExactWhereUptoCard

/-- THE SECOND FORM's CARD OF 'laws.FnExactRecordsOf'. -/
def fnExactRecordsOfUptoCard : Claim7 := { stood := { row := fnExactRecordsOfUptoRow, standIns := [], harness := (true, "2570664e0d8e1ed82060de1cf266d95285b7b3e19ee572348b8b1847899668dc"), looks := true }, kinds := [], alts := [], laidByText := true, laidKinds := [.data, .data, .data, .sentinel, .sentinel], laidTests := true, laidLooks := .later }
def FnExactRecordsOfUptoCardSaid : Prop := Claim7.holds Tryz.pinned (.plain (OpenSpec.upto fnExactRecordsOfSpec)) fnExactRecordsOfUptoCard
end Rows
end Go.Proofs.YtcgneindmpkhgaaGreatDoor
