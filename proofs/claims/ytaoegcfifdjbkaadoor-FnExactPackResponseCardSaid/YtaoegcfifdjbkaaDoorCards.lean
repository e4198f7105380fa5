/-
  DERIVED. GIVEN WITH THE SEED: THE CARDS: each row of YtaoegcfifdjbkaaDoorRows.lean that lists a variable, with what it lists TIED to the program's text (the seventh form; the later family's looks); each row that meets fmt, with fmt's text TOLD by the authors' own Lean function (tested against real Go, not proved from fmt's source: count such statements apart). THE CARD IS WHAT COUNTS. Prove the row's statement (the work); the ties are given (YtaoegcfifdjbkaaDoorTie.lean); close each card by the builder's one call (the guide's Derived/Test/ToyasCard.lean, 'card_holds'). Laid BY PROGRAM, IN A SANDBOX (cutbox-door.mjs). By AI agents, Wed Nov 11 2026. No macro, syntax, notation, axiom, sorry.
-/
import Derived.Test.YtaoegcfifdjbkaaDoorRows
import GoSem.ClaimSeven
namespace Go.Proofs.YtaoegcfifdjbkaaDoor
namespace Rows

/-- THE TIED CARD OF 'laws.FnWords'. -/
def fnWordsCard : Claim7 := { stood := { row := fnWordsRow, standIns := [], harness := (true, "ad63f58c77796af4a5d4de15777084f7fa78837c614e4d3d2a1fc746e2b0685b"), looks := false }, kinds := [], alts := [], laidByText := true, laidKinds := [.data, .pinned], laidTests := true, laidLooks := .later }
def FnWordsCardSaid : Prop := Claim7.holds Tryd.pinned (.plain (OpenSpec.ofChange fnWordsSpec)) fnWordsCard

/-- THE TIED CARD OF 'laws.FnExactFormatDate'. -/
def fnExactFormatDateCard : Claim7 := { stood := { row := fnExactFormatDateRow, standIns := [], harness := (true, "ad63f58c77796af4a5d4de15777084f7fa78837c614e4d3d2a1fc746e2b0685b"), looks := false }, kinds := [], alts := [], laidByText := true, laidKinds := [.data, .data, .data], laidTests := true, laidLooks := .later }
def FnExactFormatDateCardSaid : Prop := Claim7.holds Tryd.pinned (.plain (OpenSpec.ofChange fnExactFormatDateSpec)) fnExactFormatDateCard

/-- THE TIED CARD OF 'laws.FnExactDropHeader'. -/
def fnExactDropHeaderCard : Claim7 := { stood := { row := fnExactDropHeaderRow, standIns := [], harness := (true, "ad63f58c77796af4a5d4de15777084f7fa78837c614e4d3d2a1fc746e2b0685b"), looks := false }, kinds := [], alts := [], laidByText := true, laidKinds := [.data, .pinned], laidTests := true, laidLooks := .later }
def FnExactDropHeaderCardSaid : Prop := Claim7.holds Tryd.pinned (.plain (OpenSpec.ofChange fnExactDropHeaderSpec)) fnExactDropHeaderCard

/-- THE TIED CARD OF 'laws.FnExactPackHeaders'. -/
def fnExactPackHeadersCard : Claim7 := { stood := { row := fnExactPackHeadersRow, standIns := [], harness := (true, "ad63f58c77796af4a5d4de15777084f7fa78837c614e4d3d2a1fc746e2b0685b"), looks := false }, kinds := [], alts := [], laidByText := true, laidKinds := [.data, .pinned], laidTests := true, laidLooks := .later }
def FnExactPackHeadersCardSaid : Prop := Claim7.holds Tryd.pinned (.plain (OpenSpec.ofChange fnExactPackHeadersSpec)) fnExactPackHeadersCard

/-- THE TIED CARD OF 'laws.FnExactJoinHeader'. -/
def fnExactJoinHeaderCard : Claim7 := { stood := { row := fnExactJoinHeaderRow, standIns := [], harness := (true, "ad63f58c77796af4a5d4de15777084f7fa78837c614e4d3d2a1fc746e2b0685b"), looks := false }, kinds := [], alts := [], laidByText := true, laidKinds := [.data, .pinned], laidTests := true, laidLooks := .later }
def FnExactJoinHeaderCardSaid : Prop := Claim7.holds Tryd.pinned (.plain (OpenSpec.ofChange fnExactJoinHeaderSpec)) fnExactJoinHeaderCard

/-- THE TIED CARD OF 'laws.FnExactSetHeader'. -/
def fnExactSetHeaderCard : Claim7 := { stood := { row := fnExactSetHeaderRow, standIns := [], harness := (true, "ad63f58c77796af4a5d4de15777084f7fa78837c614e4d3d2a1fc746e2b0685b"), looks := false }, kinds := [], alts := [], laidByText := true, laidKinds := [.data, .pinned], laidTests := true, laidLooks := .later }
def FnExactSetHeaderCardSaid : Prop := Claim7.holds Tryd.pinned (.plain (OpenSpec.ofChange fnExactSetHeaderSpec)) fnExactSetHeaderCard

/-- THE TIED CARD OF 'laws.FnExactReadHeaders'. -/
def fnExactReadHeadersCard : Claim7 := { stood := { row := fnExactReadHeadersRow, standIns := [], harness := (true, "ad63f58c77796af4a5d4de15777084f7fa78837c614e4d3d2a1fc746e2b0685b"), looks := false }, kinds := [], alts := [], laidByText := true, laidKinds := [.data, .pinned], laidTests := true, laidLooks := .later }
def FnExactReadHeadersCardSaid : Prop := Claim7.holds Tryd.pinned (.plain (OpenSpec.ofChange fnExactReadHeadersSpec)) fnExactReadHeadersCard

/-- THE TIED CARD OF 'laws.FnExactPackRequest'. -/
def fnExactPackRequestCard : Claim7 := { stood := { row := fnExactPackRequestRow, standIns := [], harness := (true, "ad63f58c77796af4a5d4de15777084f7fa78837c614e4d3d2a1fc746e2b0685b"), looks := false }, kinds := [], alts := [], laidByText := true, laidKinds := [.data, .pinned], laidTests := true, laidLooks := .later }
def FnExactPackRequestCardSaid : Prop := Claim7.holds Tryd.pinned (.plain (OpenSpec.ofChange fnExactPackRequestSpec)) fnExactPackRequestCard

/-- THE TIED CARD OF 'laws.FnExactPackResponse'. -/
def fnExactPackResponseCard : Claim7 := { stood := { row := fnExactPackResponseRow, standIns := [], harness := (true, "ad63f58c77796af4a5d4de15777084f7fa78837c614e4d3d2a1fc746e2b0685b"), looks := false }, kinds := [], alts := [], laidByText := true, laidKinds := [.data, .data, .data, .data, .pinned], laidTests := true, laidLooks := .later }
def FnExactPackResponseCardSaid : Prop := Claim7.holds Tryd.pinned (.plain (OpenSpec.ofChange fnExactPackResponseSpec)) fnExactPackResponseCard

/-- THE TIED CARD OF 'laws.FnExactParseItems'. -/
def fnExactParseItemsCard : Claim7 := { stood := { row := fnExactParseItemsRow, standIns := [], harness := (true, "ad63f58c77796af4a5d4de15777084f7fa78837c614e4d3d2a1fc746e2b0685b"), looks := false }, kinds := [], alts := [], laidByText := true, laidKinds := [.data, .pinned], laidTests := true, laidLooks := .later }
def FnExactParseItemsCardSaid : Prop := Claim7.holds Tryd.pinned (.plain (OpenSpec.ofChange fnExactParseItemsSpec)) fnExactParseItemsCard

/-- THE SECOND FORM's CARD OF 'laws.FnWords'. -/
def fnWordsUptoCard : Claim7 := { stood := { row := fnWordsUptoRow, standIns := [], harness := (true, "ad63f58c77796af4a5d4de15777084f7fa78837c614e4d3d2a1fc746e2b0685b"), looks := false }, kinds := [], alts := [], laidByText := true, laidKinds := [.data, .pinned], laidTests := true, laidLooks := .later }
def FnWordsUptoCardSaid : Prop := Claim7.holds Tryd.pinned (.plain (OpenSpec.upto fnWordsSpec)) fnWordsUptoCard

/-- THE SECOND FORM's CARD OF 'laws.FnExactFormatDate'. -/
def fnExactFormatDateUptoCard : Claim7 := { stood := { row := fnExactFormatDateUptoRow, standIns := [], harness := (true, "ad63f58c77796af4a5d4de15777084f7fa78837c614e4d3d2a1fc746e2b0685b"), looks := false }, kinds := [], alts := [], laidByText := true, laidKinds := [.data, .data, .data], laidTests := true, laidLooks := .later }
def FnExactFormatDateUptoCardSaid : Prop := Claim7.holds Tryd.pinned (.plain (OpenSpec.upto fnExactFormatDateSpec)) fnExactFormatDateUptoCard

/-- THE SECOND FORM's CARD OF 'laws.FnExactDropHeader'. -/
def fnExactDropHeaderUptoCard : Claim7 := { stood := { row := fnExactDropHeaderUptoRow, standIns := [], harness := (true, "ad63f58c77796af4a5d4de15777084f7fa78837c614e4d3d2a1fc746e2b0685b"), looks := false }, kinds := [], alts := [], laidByText := true, laidKinds := [.data, .pinned], laidTests := true, laidLooks := .later }
def FnExactDropHeaderUptoCardSaid : Prop := Claim7.holds Tryd.pinned (.plain (OpenSpec.upto fnExactDropHeaderSpec)) fnExactDropHeaderUptoCard

/-- THE SECOND FORM's CARD OF 'laws.FnExactPackHeaders'. -/
def fnExactPackHeadersUptoCard : Claim7 := { stood := { row := fnExactPackHeadersUptoRow, standIns := [], harness := (true, "ad63f58c77796af4a5d4de15777084f7fa78837c614e4d3d2a1fc746e2b0685b"), looks := false }, kinds := [], alts := [], laidByText := true, laidKinds := [.data, .pinned], laidTests := true, laidLooks := .later }
def FnExactPackHeadersUptoCardSaid : Prop := Claim7.holds Tryd.pinned (.plain (OpenSpec.upto fnExactPackHeadersSpec)) fnExactPackHeadersUptoCard

/-- THE SECOND FORM's CARD OF 'laws.FnExactJoinHeader'. -/
def fnExactJoinHeaderUptoCard : Claim7 := { stood := { row := fnExactJoinHeaderUptoRow, standIns := [], harness := (true, "ad63f58c77796af4a5d4de15777084f7fa78837c614e4d3d2a1fc746e2b0685b"), looks := false }, kinds := [], alts := [], laidByText := true, laidKinds := [.data, .pinned], laidTests := true, laidLooks := .later }
def FnExactJoinHeaderUptoCardSaid : Prop := Claim7.holds Tryd.pinned (.plain (OpenSpec.upto fnExactJoinHeaderSpec)) fnExactJoinHeaderUptoCard

/-- THE SECOND FORM's CARD OF 'laws.FnExactSetHeader'. -/
def fnExactSetHeaderUptoCard : Claim7 := { stood := { row := fnExactSetHeaderUptoRow, standIns := [], harness := (true, "ad63f58c77796af4a5d4de15777084f7fa78837c614e4d3d2a1fc746e2b0685b"), looks := false }, kinds := [], alts := [], laidByText := true, laidKinds := [.data, .pinned], laidTests := true, laidLooks := .later }
def FnExactSetHeaderUptoCardSaid : Prop := Claim7.holds Tryd.pinned (.plain (OpenSpec.upto fnExactSetHeaderSpec)) fnExactSetHeaderUptoCard

/-- THE SECOND FORM's CARD OF 'laws.FnExactReadHeaders'. -/
def fnExactReadHeadersUptoCard : Claim7 := { stood := { row := fnExactReadHeadersUptoRow, standIns := [], harness := (true, "ad63f58c77796af4a5d4de15777084f7fa78837c614e4d3d2a1fc746e2b0685b"), looks := false }, kinds := [], alts := [], laidByText := true, laidKinds := [.data, .pinned], laidTests := true, laidLooks := .later }
def FnExactReadHeadersUptoCardSaid : Prop := Claim7.holds Tryd.pinned (.plain (OpenSpec.upto fnExactReadHeadersSpec)) fnExactReadHeadersUptoCard

/-- THE SECOND FORM's CARD OF 'laws.FnExactPackRequest'. -/
def fnExactPackRequestUptoCard : Claim7 := { stood := { row := fnExactPackRequestUptoRow, standIns := [], harness := (true, "ad63f58c77796af4a5d4de15777084f7fa78837c614e4d3d2a1fc746e2b0685b"), looks := false }, kinds := [], alts := [], laidByText := true, laidKinds := [.data, .pinned], laidTests := true, laidLooks := .later }
def FnExactPackRequestUptoCardSaid : Prop := Claim7.holds Tryd.pinned (.plain (OpenSpec.upto fnExactPackRequestSpec)) fnExactPackRequestUptoCard

/-- THE SECOND FORM's CARD OF 'laws.FnExactPackResponse'. -/
def fnExactPackResponseUptoCard : Claim7 := { stood := { row := fnExactPackResponseUptoRow, standIns := [], harness := (true, "ad63f58c77796af4a5d4de15777084f7fa78837c614e4d3d2a1fc746e2b0685b"), looks := false }, kinds := [], alts := [], laidByText := true, laidKinds := [.data, .data, .data, .data, .pinned], laidTests := true, laidLooks := .later }
def FnExactPackResponseUptoCardSaid : Prop := Claim7.holds Tryd.pinned (.plain (OpenSpec.upto fnExactPackResponseSpec)) fnExactPackResponseUptoCard

/-- THE SECOND FORM's CARD OF 'laws.FnExactParseItems'. -/
def fnExactParseItemsUptoCard : Claim7 := { stood := { row := fnExactParseItemsUptoRow, standIns := [], harness := (true, "ad63f58c77796af4a5d4de15777084f7fa78837c614e4d3d2a1fc746e2b0685b"), looks := false }, kinds := [], alts := [], laidByText := true, laidKinds := [.data, .pinned], laidTests := true, laidLooks := .later }
def FnExactParseItemsUptoCardSaid : Prop := Claim7.holds Tryd.pinned (.plain (OpenSpec.upto fnExactParseItemsSpec)) fnExactParseItemsUptoCard
end Rows
end Go.Proofs.YtaoegcfifdjbkaaDoor
