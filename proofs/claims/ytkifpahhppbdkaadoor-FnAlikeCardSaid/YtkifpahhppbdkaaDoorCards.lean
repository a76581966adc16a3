/-
  DERIVED. GIVEN WITH THE SEED: THE CARDS: each row of YtkifpahhppbdkaaDoorRows.lean that lists a variable, with what it lists TIED to the program's text (the seventh form; the later family's looks); each row that meets fmt, with fmt's text TOLD by the authors' own Lean function (tested against real Go, not proved from fmt's source: count such statements apart). THE CARD IS WHAT COUNTS. Prove the row's statement (the work); the ties are given (YtkifpahhppbdkaaDoorTie.lean); close each card by the builder's one call (the guide's Derived/Test/ToyasCard.lean, 'card_holds'). Laid BY PROGRAM, IN A SANDBOX (cutbox-door.mjs). By AI agents, Wed Nov 11 2026. No macro, syntax, notation, axiom, sorry.
-/
import Derived.Test.YtkifpahhppbdkaaDoorRows
import GoSem.ClaimSeven
namespace Go.Proofs.YtkifpahhppbdkaaDoor
namespace Rows

/-- THE TIED CARD OF 'laws.FnWeight'. -/
def fnWeightCard : Claim7 := { stood := { row := fnWeightRow, standIns := [], harness := (true, "4228be788a7c299eb1306005c0db6358ab79a1da065884056bc6703f78c79910"), looks := true }, kinds := [], alts := [], laidByText := true, laidKinds := [.data, .data, .data, .sentinel, .sentinel], laidTests := true, laidLooks := .later }
def FnWeightCardSaid : Prop := Claim7.holds Tryd.pinned (.plain (OpenSpec.ofChange fnWeightSpec)) fnWeightCard

/-- THE TIED CARD OF 'laws.FnExactWeight'. -/
def fnExactWeightCard : Claim7 := { stood := { row := fnExactWeightRow, standIns := [], harness := (true, "4228be788a7c299eb1306005c0db6358ab79a1da065884056bc6703f78c79910"), looks := true }, kinds := [], alts := [], laidByText := true, laidKinds := [.data, .data, .data, .sentinel, .sentinel], laidTests := true, laidLooks := .later }
def FnExactWeightCardSaid : Prop := Claim7.holds Tryd.pinned (.plain (OpenSpec.ofChange fnExactWeightSpec)) fnExactWeightCard

/-- THE TIED CARD OF 'laws.FnExactSameVal'. -/
def fnExactSameValCard : Claim7 := { stood := { row := fnExactSameValRow, standIns := [], harness := (true, "4228be788a7c299eb1306005c0db6358ab79a1da065884056bc6703f78c79910"), looks := true }, kinds := [], alts := [], laidByText := true, laidKinds := [.data, .data, .data, .sentinel, .sentinel], laidTests := true, laidLooks := .later }
def FnExactSameValCardSaid : Prop := Claim7.holds Tryd.pinned (.plain (OpenSpec.ofChange fnExactSameValSpec)) fnExactSameValCard

/-- THE TIED CARD OF 'laws.FnAlike'. -/
def fnAlikeCard : Claim7 := { stood := { row := fnAlikeRow, standIns := [], harness := (true, "4228be788a7c299eb1306005c0db6358ab79a1da065884056bc6703f78c79910"), looks := true }, kinds := [], alts := [], laidByText := true, laidKinds := [.data, .data, .data, .sentinel, .sentinel], laidTests := true, laidLooks := .later }
def FnAlikeCardSaid : Prop := Claim7.holds Tryd.pinned (.plain (OpenSpec.ofChange fnAlikeSpec)) fnAlikeCard

/-- THE SECOND FORM's CARD OF 'laws.FnWeight'. -/
def fnWeightUptoCard : Claim7 := { stood := { row := fnWeightUptoRow, standIns := [], harness := (true, "4228be788a7c299eb1306005c0db6358ab79a1da065884056bc6703f78c79910"), looks := true }, kinds := [], alts := [], laidByText := true, laidKinds := [.data, .data, .data, .sentinel, .sentinel], laidTests := true, laidLooks := .later }
def FnWeightUptoCardSaid : Prop := Claim7.holds Tryd.pinned (.plain (OpenSpec.upto fnWeightSpec)) fnWeightUptoCard

/-- THE SECOND FORM's CARD OF 'laws.FnExactWeight'. -/
def fnExactWeightUptoCard : Claim7 := { stood := { row := fnExactWeightUptoRow, standIns := [], harness := (true, "4228be788a7c299eb1306005c0db6358ab79a1da065884056bc6703f78c79910"), looks := true }, kinds := [], alts := [], laidByText := true, laidKinds := [.data, .data, .data, .sentinel, .sentinel], laidTests := true, laidLooks := .later }
def FnExactWeightUptoCardSaid : Prop := Claim7.holds Tryd.pinned (.plain (OpenSpec.upto fnExactWeightSpec)) fnExactWeightUptoCard

/-- THE SECOND FORM's CARD OF 'laws.FnExactSameVal'. -/
def fnExactSameValUptoCard : Claim7 := { stood := { row := fnExactSameValUptoRow, standIns := [], harness := (true, "4228be788a7c299eb1306005c0db6358ab79a1da065884056bc6703f78c79910"), looks := true }, kinds := [], alts := [], laidByText := true, laidKinds := [.data, .data, .data, .sentinel, .sentinel], laidTests := true, laidLooks := .later }
def FnExactSameValUptoCardSaid : Prop := Claim7.holds Tryd.pinned (.plain (OpenSpec.upto fnExactSameValSpec)) fnExactSameValUptoCard

/-- THE SECOND FORM's CARD OF 'laws.FnAlike'. -/
def fnAlikeUptoCard : Claim7 := { stood := { row := fnAlikeUptoRow, standIns := [], harness := (true, "4228be788a7c299eb1306005c0db6358ab79a1da065884056bc6703f78c79910"), looks := true }, kinds := [], alts := [], laidByText := true, laidKinds := [.data, .data, .data, .sentinel, .sentinel], laidTests := true, laidLooks := .later }
def FnAlikeUptoCardSaid : Prop := Claim7.holds Tryd.pinned (.plain (OpenSpec.upto fnAlikeSpec)) fnAlikeUptoCard
end Rows
end Go.Proofs.YtkifpahhppbdkaaDoor
