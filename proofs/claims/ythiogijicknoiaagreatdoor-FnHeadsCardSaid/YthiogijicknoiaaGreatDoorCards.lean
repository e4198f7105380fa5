/-
  DERIVED. GIVEN WITH THE SEED: THE CARDS: each row of YthiogijicknoiaaGreatDoorRows.lean that lists a variable, with what it lists TIED to the program's text (the seventh form; the later family's looks); each row that meets fmt, with fmt's text TOLD by the authors' own Lean function (tested against real Go, not proved from fmt's source: count such statements apart). THE CARD IS WHAT COUNTS. Prove the row's statement (the work); the ties are given (YthiogijicknoiaaGreatDoorTie.lean); close each card by the builder's one call (the guide's Derived/Test/ToyasCard.lean, 'card_holds'). Laid BY PROGRAM, IN A SANDBOX (cutbox-door.mjs). By AI agents, Wed Nov 11 2026. No macro, syntax, notation, axiom, sorry.
-/
import Derived.Test.YthiogijicknoiaaGreatDoorRows
import GoSem.ClaimSeven
namespace Go.Proofs.YthiogijicknoiaaGreatDoor
namespace Rows

/-- THE TIED CARD OF 'laws.FnKeys'. -/
def fnKeysCard : Claim7 := { stood := { row := fnKeysRow, standIns := [], harness := (true, "de7e1950e376efa7228d65711ae40221a4e71cad7309273526fc28959af896dc"), looks := false }, kinds := [], alts := [], laidByText := true, laidKinds := [.data, .pinned], laidTests := true, laidLooks := .later }
def FnKeysCardSaid : Prop := Claim7.holds Tryz.pinned (.plain (OpenSpec.ofChange fnKeysSpec)) fnKeysCard

/-- THE TIED CARD OF 'laws.FnExactFullKey'. -/
def fnExactFullKeyCard : Claim7 := { stood := { row := fnExactFullKeyRow, standIns := [], harness := (true, "de7e1950e376efa7228d65711ae40221a4e71cad7309273526fc28959af896dc"), looks := false }, kinds := [], alts := [], laidByText := true, laidKinds := [.data, .pinned], laidTests := true, laidLooks := .later }
def FnExactFullKeyCardSaid : Prop := Claim7.holds Tryz.pinned (.plain (OpenSpec.ofChange fnExactFullKeySpec)) fnExactFullKeyCard

/-- THE TIED CARD OF 'laws.FnReads'. -/
def fnReadsCard : Claim7 := { stood := { row := fnReadsRow, standIns := [], harness := (true, "de7e1950e376efa7228d65711ae40221a4e71cad7309273526fc28959af896dc"), looks := false }, kinds := [], alts := [], laidByText := true, laidKinds := [.data, .data, .data, .data, .pinned], laidTests := true, laidLooks := .later }
def FnReadsCardSaid : Prop := Claim7.holds Tryz.pinned (.plain (OpenSpec.ofChange fnReadsSpec)) fnReadsCard

/-- THE TIED CARD OF 'laws.FnHeads'. -/
def fnHeadsCard : Claim7 := { stood := { row := fnHeadsRow, standIns := [], harness := (true, "de7e1950e376efa7228d65711ae40221a4e71cad7309273526fc28959af896dc"), looks := false }, kinds := [], alts := [], laidByText := true, laidKinds := [.data, .pinned], laidTests := true, laidLooks := .later }
def FnHeadsCardSaid : Prop := Claim7.holds Tryz.pinned (.plain (OpenSpec.ofChange fnHeadsSpec)) fnHeadsCard

/-- THE TIED CARD OF 'laws.FnMessages'. -/
def fnMessagesCard : Claim7 := { stood := { row := fnMessagesRow, standIns := [], harness := (true, "de7e1950e376efa7228d65711ae40221a4e71cad7309273526fc28959af896dc"), looks := false }, kinds := [], alts := [], laidByText := true, laidKinds := [.data, .data, .data, .data, .pinned], laidTests := true, laidLooks := .later }
def FnMessagesCardSaid : Prop := Claim7.holds Tryz.pinned (.plain (OpenSpec.ofChange fnMessagesSpec)) fnMessagesCard

/-- THE TIED CARD OF 'laws.FnExactKeyOf'. -/
def fnExactKeyOfCard : Claim7 := { stood := { row := fnExactKeyOfRow, standIns := [], harness := (true, "de7e1950e376efa7228d65711ae40221a4e71cad7309273526fc28959af896dc"), looks := false }, kinds := [], alts := [], laidByText := true, laidKinds := [.data, .pinned], laidTests := true, laidLooks := .later }
def FnExactKeyOfCardSaid : Prop := Claim7.holds Tryz.pinned (.plain (OpenSpec.ofChange fnExactKeyOfSpec)) fnExactKeyOfCard

/-- THE SECOND FORM's CARD OF 'laws.FnKeys'. -/
def fnKeysUptoCard : Claim7 := { stood := { row := fnKeysUptoRow, standIns := [], harness := (true, "de7e1950e376efa7228d65711ae40221a4e71cad7309273526fc28959af896dc"), looks := false }, kinds := [], alts := [], laidByText := true, laidKinds := [.data, .pinned], laidTests := true, laidLooks := .later }
def FnKeysUptoCardSaid : Prop := Claim7.holds Tryz.pinned (.plain (OpenSpec.upto fnKeysSpec)) fnKeysUptoCard

/-- THE SECOND FORM's CARD OF 'laws.FnExactFullKey'. -/
def fnExactFullKeyUptoCard : Claim7 := { stood := { row := fnExactFullKeyUptoRow, standIns := [], harness := (true, "de7e1950e376efa7228d65711ae40221a4e71cad7309273526fc28959af896dc"), looks := false }, kinds := [], alts := [], laidByText := true, laidKinds := [.data, .pinned], laidTests := true, laidLooks := .later }
def FnExactFullKeyUptoCardSaid : Prop := Claim7.holds Tryz.pinned (.plain (OpenSpec.upto fnExactFullKeySpec)) fnExactFullKeyUptoCard

/-- THE SECOND FORM's CARD OF 'laws.FnReads'. -/
def fnReadsUptoCard : Claim7 := { stood := { row := fnReadsUptoRow, standIns := [], harness := (true, "de7e1950e376efa7228d65711ae40221a4e71cad7309273526fc28959af896dc"), looks := false }, kinds := [], alts := [], laidByText := true, laidKinds := [.data, .data, .data, .data, .pinned], laidTests := true, laidLooks := .later }
def FnReadsUptoCardSaid : Prop := Claim7.holds Tryz.pinned (.plain (OpenSpec.upto fnReadsSpec)) fnReadsUptoCard

/-- THE SECOND FORM's CARD OF 'laws.FnHeads'. -/
def fnHeadsUptoCard : Claim7 := { stood := { row := fnHeadsUptoRow, standIns := [], harness := (true, "de7e1950e376efa7228d65711ae40221a4e71cad7309273526fc28959af896dc"), looks := false }, kinds := [], alts := [], laidByText := true, laidKinds := [.data, .pinned], laidTests := true, laidLooks := .later }
def FnHeadsUptoCardSaid : Prop := Claim7.holds Tryz.pinned (.plain (OpenSpec.upto fnHeadsSpec)) fnHeadsUptoCard

/-- THE SECOND FORM's CARD OF 'laws.FnMessages'. -/
def fnMessagesUptoCard : Claim7 := { stood := { row := fnMessagesUptoRow, standIns := [], harness := (true, "de7e1950e376efa7228d65711ae40221a4e71cad7309273526fc28959af896dc"), looks := false }, kinds := [], alts := [], laidByText := true, laidKinds := [.data, .data, .data, .data, .pinned], laidTests := true, laidLooks := .later }
def FnMessagesUptoCardSaid : Prop := Claim7.holds Tryz.pinned (.plain (OpenSpec.upto fnMessagesSpec)) fnMessagesUptoCard

/-- THE SECOND FORM's CARD OF 'laws.FnExactKeyOf'. -/
def fnExactKeyOfUptoCard : Claim7 := { stood := { row := fnExactKeyOfUptoRow, standIns := [], harness := (true, "de7e1950e376efa7228d65711ae40221a4e71cad7309273526fc28959af896dc"), looks := false }, kinds := [], alts := [], laidByText := true, laidKinds := [.data, .pinned], laidTests := true, laidLooks := .later }
def FnExactKeyOfUptoCardSaid : Prop := Claim7.holds Tryz.pinned (.plain (OpenSpec.upto fnExactKeyOfSpec)) fnExactKeyOfUptoCard
end Rows
end Go.Proofs.YthiogijicknoiaaGreatDoor
