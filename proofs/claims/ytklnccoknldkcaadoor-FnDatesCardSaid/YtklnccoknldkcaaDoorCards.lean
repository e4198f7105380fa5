/-
  DERIVED. GIVEN WITH THE SEED: THE CARDS: each row of YtklnccoknldkcaaDoorRows.lean that lists a variable, with what it lists TIED to the program's text (the seventh form; the later family's looks); each row that meets fmt, with fmt's text TOLD by the authors' own Lean function (tested against real Go, not proved from fmt's source: count such statements apart). THE CARD IS WHAT COUNTS. Prove the row's statement (the work); the ties are given (YtklnccoknldkcaaDoorTie.lean); close each card by the builder's one call (the guide's Derived/Test/ToyasCard.lean, 'card_holds'). Laid BY PROGRAM, IN A SANDBOX (cutbox-door.mjs). By AI agents, Wed Nov 11 2026. No macro, syntax, notation, axiom, sorry.
-/
import Derived.Test.YtklnccoknldkcaaDoorRows
import GoSem.ClaimSeven
namespace Go.Proofs.YtklnccoknldkcaaDoor
namespace Rows

/-- THE TIED CARD OF 'laws.FnWords'. -/
def fnWordsCard : Claim7 := { stood := { row := fnWordsRow, standIns := [], harness := (true, "0e20e66faf8473d4ed4f5e4905f1c4409701e2f24eaab3115cb94d5eb3d5c566"), looks := true }, kinds := [], alts := [], laidByText := true, laidKinds := [.data, .pinned], laidTests := true, laidLooks := .later }
def FnWordsCardSaid : Prop := Claim7.holds Tryd.pinned (.plain (OpenSpec.ofChange fnWordsSpec)) fnWordsCard

/-- THE TIED CARD OF 'laws.FnExactSetHeader'. -/
def fnExactSetHeaderCard : Claim7 := { stood := { row := fnExactSetHeaderRow, standIns := [], harness := (true, "0e20e66faf8473d4ed4f5e4905f1c4409701e2f24eaab3115cb94d5eb3d5c566"), looks := true }, kinds := [], alts := [], laidByText := true, laidKinds := [.data, .pinned], laidTests := true, laidLooks := .later }
def FnExactSetHeaderCardSaid : Prop := Claim7.holds Tryd.pinned (.plain (OpenSpec.ofChange fnExactSetHeaderSpec)) fnExactSetHeaderCard

/-- THE TIED CARD OF 'laws.FnExactParseDate'. -/
def fnExactParseDateCard : Claim7 := { stood := { row := fnExactParseDateRow, standIns := [], harness := (true, "0e20e66faf8473d4ed4f5e4905f1c4409701e2f24eaab3115cb94d5eb3d5c566"), looks := true }, kinds := [], alts := [], laidByText := true, laidKinds := [.data, .data, .data, .sentinel, .sentinel], laidTests := true, laidLooks := .later }
def FnExactParseDateCardSaid : Prop := Claim7.holds Tryd.pinned (.plain (OpenSpec.ofChange fnExactParseDateSpec)) fnExactParseDateCard

/-- THE TIED CARD OF 'laws.FnDates'. -/
def fnDatesCard : Claim7 := { stood := { row := fnDatesRow, standIns := [], harness := (true, "0e20e66faf8473d4ed4f5e4905f1c4409701e2f24eaab3115cb94d5eb3d5c566"), looks := true }, kinds := [], alts := [], laidByText := true, laidKinds := [.data, .data, .data, .sentinel, .sentinel], laidTests := true, laidLooks := .later }
def FnDatesCardSaid : Prop := Claim7.holds Tryd.pinned (.plain (OpenSpec.ofChange fnDatesSpec)) fnDatesCard

/-- THE TIED CARD OF 'laws.FnItems'. -/
def fnItemsCard : Claim7 := { stood := { row := fnItemsRow, standIns := [], harness := (true, "0e20e66faf8473d4ed4f5e4905f1c4409701e2f24eaab3115cb94d5eb3d5c566"), looks := true }, kinds := [], alts := [], laidByText := true, laidKinds := [.data, .pinned], laidTests := true, laidLooks := .later }
def FnItemsCardSaid : Prop := Claim7.holds Tryd.pinned (.plain (OpenSpec.ofChange fnItemsSpec)) fnItemsCard

/-- THE TIED CARD OF 'laws.FnExactReadRequest'. -/
def fnExactReadRequestCard : Claim7 := { stood := { row := fnExactReadRequestRow, standIns := [], harness := (true, "0e20e66faf8473d4ed4f5e4905f1c4409701e2f24eaab3115cb94d5eb3d5c566"), looks := true }, kinds := [], alts := [], laidByText := true, laidKinds := [.data, .pinned], laidTests := true, laidLooks := .later }
def FnExactReadRequestCardSaid : Prop := Claim7.holds Tryd.pinned (.plain (OpenSpec.ofChange fnExactReadRequestSpec)) fnExactReadRequestCard

/-- THE TIED CARD OF 'laws.FnExactReadResponse'. -/
def fnExactReadResponseCard : Claim7 := { stood := { row := fnExactReadResponseRow, standIns := [], harness := (true, "0e20e66faf8473d4ed4f5e4905f1c4409701e2f24eaab3115cb94d5eb3d5c566"), looks := true }, kinds := [], alts := [], laidByText := true, laidKinds := [.data, .pinned], laidTests := true, laidLooks := .later }
def FnExactReadResponseCardSaid : Prop := Claim7.holds Tryd.pinned (.plain (OpenSpec.ofChange fnExactReadResponseSpec)) fnExactReadResponseCard

/-- THE SECOND FORM's CARD OF 'laws.FnWords'. -/
def fnWordsUptoCard : Claim7 := { stood := { row := fnWordsUptoRow, standIns := [], harness := (true, "0e20e66faf8473d4ed4f5e4905f1c4409701e2f24eaab3115cb94d5eb3d5c566"), looks := true }, kinds := [], alts := [], laidByText := true, laidKinds := [.data, .pinned], laidTests := true, laidLooks := .later }
def FnWordsUptoCardSaid : Prop := Claim7.holds Tryd.pinned (.plain (OpenSpec.upto fnWordsSpec)) fnWordsUptoCard

/-- THE SECOND FORM's CARD OF 'laws.FnExactSetHeader'. -/
def fnExactSetHeaderUptoCard : Claim7 := { stood := { row := fnExactSetHeaderUptoRow, standIns := [], harness := (true, "0e20e66faf8473d4ed4f5e4905f1c4409701e2f24eaab3115cb94d5eb3d5c566"), looks := true }, kinds := [], alts := [], laidByText := true, laidKinds := [.data, .pinned], laidTests := true, laidLooks := .later }
def FnExactSetHeaderUptoCardSaid : Prop := Claim7.holds Tryd.pinned (.plain (OpenSpec.upto fnExactSetHeaderSpec)) fnExactSetHeaderUptoCard

/-- THE SECOND FORM's CARD OF 'laws.FnExactParseDate'. -/
def fnExactParseDateUptoCard : Claim7 := { stood := { row := fnExactParseDateUptoRow, standIns := [], harness := (true, "0e20e66faf8473d4ed4f5e4905f1c4409701e2f24eaab3115cb94d5eb3d5c566"), looks := true }, kinds := [], alts := [], laidByText := true, laidKinds := [.data, .data, .data, .sentinel, .sentinel], laidTests := true, laidLooks := .later }
def FnExactParseDateUptoCardSaid : Prop := Claim7.holds Tryd.pinned (.plain (OpenSpec.upto fnExactParseDateSpec)) fnExactParseDateUptoCard

/-- THE SECOND FORM's CARD OF 'laws.FnDates'. -/
def fnDatesUptoCard : Claim7 := { stood := { row := fnDatesUptoRow, standIns := [], harness := (true, "0e20e66faf8473d4ed4f5e4905f1c4409701e2f24eaab3115cb94d5eb3d5c566"), looks := true }, kinds := [], alts := [], laidByText := true, laidKinds := [.data, .data, .data, .sentinel, .sentinel], laidTests := true, laidLooks := .later }
def FnDatesUptoCardSaid : Prop := Claim7.holds Tryd.pinned (.plain (OpenSpec.upto fnDatesSpec)) fnDatesUptoCard

/-- THE SECOND FORM's CARD OF 'laws.FnItems'. -/
def fnItemsUptoCard : Claim7 := { stood := { row := fnItemsUptoRow, standIns := [], harness := (true, "0e20e66faf8473d4ed4f5e4905f1c4409701e2f24eaab3115cb94d5eb3d5c566"), looks := true }, kinds := [], alts := [], laidByText := true, laidKinds := [.data, .pinned], laidTests := true, laidLooks := .later }
def FnItemsUptoCardSaid : Prop := Claim7.holds Tryd.pinned (.plain (OpenSpec.upto fnItemsSpec)) fnItemsUptoCard

/-- THE SECOND FORM's CARD OF 'laws.FnExactReadRequest'. -/
def fnExactReadRequestUptoCard : Claim7 := { stood := { row := fnExactReadRequestUptoRow, standIns := [], harness := (true, "0e20e66faf8473d4ed4f5e4905f1c4409701e2f24eaab3115cb94d5eb3d5c566"), looks := true }, kinds := [], alts := [], laidByText := true, laidKinds := [.data, .pinned], laidTests := true, laidLooks := .later }
def FnExactReadRequestUptoCardSaid : Prop := Claim7.holds Tryd.pinned (.plain (OpenSpec.upto fnExactReadRequestSpec)) fnExactReadRequestUptoCard

/-- THE SECOND FORM's CARD OF 'laws.FnExactReadResponse'. -/
def fnExactReadResponseUptoCard : Claim7 := { stood := { row := fnExactReadResponseUptoRow, standIns := [], harness := (true, "0e20e66faf8473d4ed4f5e4905f1c4409701e2f24eaab3115cb94d5eb3d5c566"), looks := true }, kinds := [], alts := [], laidByText := true, laidKinds := [.data, .pinned], laidTests := true, laidLooks := .later }
def FnExactReadResponseUptoCardSaid : Prop := Claim7.holds Tryd.pinned (.plain (OpenSpec.upto fnExactReadResponseSpec)) fnExactReadResponseUptoCard
end Rows
end Go.Proofs.YtklnccoknldkcaaDoor
