/-
  DERIVED. GIVEN WITH THE SEED: THE CARDS: each row of YtcnjbifdlieboaaDoorRows.lean that lists a variable, with what it lists TIED to the program's text (the seventh form; the later family's looks); each row that meets fmt, with fmt's text TOLD by the authors' own Lean function (tested against real Go, not proved from fmt's source: count such statements apart). THE CARD IS WHAT COUNTS. Prove the row's statement (the work); the ties are given (YtcnjbifdlieboaaDoorTie.lean); close each card by the builder's one call (the guide's Derived/Test/ToyasCard.lean, 'card_holds'). Laid BY PROGRAM, IN A SANDBOX (cutbox-door.mjs). By AI agents, Wed Nov 11 2026. No macro, syntax, notation, axiom, sorry.
-/
import Derived.Test.YtcnjbifdlieboaaDoorRows
import GoSem.ClaimSeven
namespace Go.Proofs.YtcnjbifdlieboaaDoor
namespace Rows

/-- THE TIED CARD OF 'laws.FnExactNumberText'. -/
def fnExactNumberTextCard : Claim7 := { stood := { row := fnExactNumberTextRow, standIns := [], harness := (true, "db917379d989c485ab8ce8c277a5479ff37cd543496d01737799bee652c48066"), looks := false }, kinds := [], alts := [], laidByText := true, laidKinds := [.data, .data, .data], laidTests := true, laidLooks := .later }
def FnExactNumberTextCardSaid : Prop := Claim7.holds Tryd.pinned (.plain (OpenSpec.ofChange fnExactNumberTextSpec)) fnExactNumberTextCard

/-- THE TIED CARD OF 'laws.FnExactTrimText'. -/
def fnExactTrimTextCard : Claim7 := { stood := { row := fnExactTrimTextRow, standIns := [], harness := (true, "db917379d989c485ab8ce8c277a5479ff37cd543496d01737799bee652c48066"), looks := false }, kinds := [], alts := [], laidByText := true, laidKinds := [.data, .pinned], laidTests := true, laidLooks := .later }
def FnExactTrimTextCardSaid : Prop := Claim7.holds Tryd.pinned (.plain (OpenSpec.ofChange fnExactTrimTextSpec)) fnExactTrimTextCard

/-- THE TIED CARD OF 'laws.FnExactFormatDate'. -/
def fnExactFormatDateCard : Claim7 := { stood := { row := fnExactFormatDateRow, standIns := [], harness := (true, "db917379d989c485ab8ce8c277a5479ff37cd543496d01737799bee652c48066"), looks := false }, kinds := [], alts := [], laidByText := true, laidKinds := [.data, .data, .data], laidTests := true, laidLooks := .later }
def FnExactFormatDateCardSaid : Prop := Claim7.holds Tryd.pinned (.plain (OpenSpec.ofChange fnExactFormatDateSpec)) fnExactFormatDateCard

/-- THE TIED CARD OF 'laws.FnTimes'. -/
def fnTimesCard : Claim7 := { stood := { row := fnTimesRow, standIns := [], harness := (true, "db917379d989c485ab8ce8c277a5479ff37cd543496d01737799bee652c48066"), looks := false }, kinds := [], alts := [], laidByText := true, laidKinds := [.data, .data, .data], laidTests := true, laidLooks := .later }
def FnTimesCardSaid : Prop := Claim7.holds Tryd.pinned (.plain (OpenSpec.ofChange fnTimesSpec)) fnTimesCard

/-- THE TIED CARD OF 'laws.FnWords'. -/
def fnWordsCard : Claim7 := { stood := { row := fnWordsRow, standIns := [], harness := (true, "db917379d989c485ab8ce8c277a5479ff37cd543496d01737799bee652c48066"), looks := false }, kinds := [], alts := [], laidByText := true, laidKinds := [.data, .pinned], laidTests := true, laidLooks := .later }
def FnWordsCardSaid : Prop := Claim7.holds Tryd.pinned (.plain (OpenSpec.ofChange fnWordsSpec)) fnWordsCard

/-- THE TIED CARD OF 'laws.FnExactHeadersFault'. -/
def fnExactHeadersFaultCard : Claim7 := { stood := { row := fnExactHeadersFaultRow, standIns := [], harness := (true, "db917379d989c485ab8ce8c277a5479ff37cd543496d01737799bee652c48066"), looks := false }, kinds := [], alts := [], laidByText := true, laidKinds := [.data, .pinned], laidTests := true, laidLooks := .later }
def FnExactHeadersFaultCardSaid : Prop := Claim7.holds Tryd.pinned (.plain (OpenSpec.ofChange fnExactHeadersFaultSpec)) fnExactHeadersFaultCard

/-- THE TIED CARD OF 'laws.FnExactResponseFault'. -/
def fnExactResponseFaultCard : Claim7 := { stood := { row := fnExactResponseFaultRow, standIns := [], harness := (true, "db917379d989c485ab8ce8c277a5479ff37cd543496d01737799bee652c48066"), looks := false }, kinds := [], alts := [], laidByText := true, laidKinds := [.data, .pinned], laidTests := true, laidLooks := .later }
def FnExactResponseFaultCardSaid : Prop := Claim7.holds Tryd.pinned (.plain (OpenSpec.ofChange fnExactResponseFaultSpec)) fnExactResponseFaultCard

/-- THE TIED CARD OF 'laws.FnExactDropHeader'. -/
def fnExactDropHeaderCard : Claim7 := { stood := { row := fnExactDropHeaderRow, standIns := [], harness := (true, "db917379d989c485ab8ce8c277a5479ff37cd543496d01737799bee652c48066"), looks := false }, kinds := [], alts := [], laidByText := true, laidKinds := [.data, .pinned], laidTests := true, laidLooks := .later }
def FnExactDropHeaderCardSaid : Prop := Claim7.holds Tryd.pinned (.plain (OpenSpec.ofChange fnExactDropHeaderSpec)) fnExactDropHeaderCard

/-- THE TIED CARD OF 'laws.FnExactRequestFault'. -/
def fnExactRequestFaultCard : Claim7 := { stood := { row := fnExactRequestFaultRow, standIns := [], harness := (true, "db917379d989c485ab8ce8c277a5479ff37cd543496d01737799bee652c48066"), looks := false }, kinds := [], alts := [], laidByText := true, laidKinds := [.data, .pinned], laidTests := true, laidLooks := .later }
def FnExactRequestFaultCardSaid : Prop := Claim7.holds Tryd.pinned (.plain (OpenSpec.ofChange fnExactRequestFaultSpec)) fnExactRequestFaultCard

/-- THE SECOND FORM's CARD OF 'laws.FnExactNumberText'. -/
def fnExactNumberTextUptoCard : Claim7 := { stood := { row := fnExactNumberTextUptoRow, standIns := [], harness := (true, "db917379d989c485ab8ce8c277a5479ff37cd543496d01737799bee652c48066"), looks := false }, kinds := [], alts := [], laidByText := true, laidKinds := [.data, .data, .data], laidTests := true, laidLooks := .later }
def FnExactNumberTextUptoCardSaid : Prop := Claim7.holds Tryd.pinned (.plain (OpenSpec.upto fnExactNumberTextSpec)) fnExactNumberTextUptoCard

/-- THE SECOND FORM's CARD OF 'laws.FnExactTrimText'. -/
def fnExactTrimTextUptoCard : Claim7 := { stood := { row := fnExactTrimTextUptoRow, standIns := [], harness := (true, "db917379d989c485ab8ce8c277a5479ff37cd543496d01737799bee652c48066"), looks := false }, kinds := [], alts := [], laidByText := true, laidKinds := [.data, .pinned], laidTests := true, laidLooks := .later }
def FnExactTrimTextUptoCardSaid : Prop := Claim7.holds Tryd.pinned (.plain (OpenSpec.upto fnExactTrimTextSpec)) fnExactTrimTextUptoCard

/-- THE SECOND FORM's CARD OF 'laws.FnExactFormatDate'. -/
def fnExactFormatDateUptoCard : Claim7 := { stood := { row := fnExactFormatDateUptoRow, standIns := [], harness := (true, "db917379d989c485ab8ce8c277a5479ff37cd543496d01737799bee652c48066"), looks := false }, kinds := [], alts := [], laidByText := true, laidKinds := [.data, .data, .data], laidTests := true, laidLooks := .later }
def FnExactFormatDateUptoCardSaid : Prop := Claim7.holds Tryd.pinned (.plain (OpenSpec.upto fnExactFormatDateSpec)) fnExactFormatDateUptoCard

/-- THE SECOND FORM's CARD OF 'laws.FnTimes'. -/
def fnTimesUptoCard : Claim7 := { stood := { row := fnTimesUptoRow, standIns := [], harness := (true, "db917379d989c485ab8ce8c277a5479ff37cd543496d01737799bee652c48066"), looks := false }, kinds := [], alts := [], laidByText := true, laidKinds := [.data, .data, .data], laidTests := true, laidLooks := .later }
def FnTimesUptoCardSaid : Prop := Claim7.holds Tryd.pinned (.plain (OpenSpec.upto fnTimesSpec)) fnTimesUptoCard

/-- THE SECOND FORM's CARD OF 'laws.FnWords'. -/
def fnWordsUptoCard : Claim7 := { stood := { row := fnWordsUptoRow, standIns := [], harness := (true, "db917379d989c485ab8ce8c277a5479ff37cd543496d01737799bee652c48066"), looks := false }, kinds := [], alts := [], laidByText := true, laidKinds := [.data, .pinned], laidTests := true, laidLooks := .later }
def FnWordsUptoCardSaid : Prop := Claim7.holds Tryd.pinned (.plain (OpenSpec.upto fnWordsSpec)) fnWordsUptoCard

/-- THE SECOND FORM's CARD OF 'laws.FnExactHeadersFault'. -/
def fnExactHeadersFaultUptoCard : Claim7 := { stood := { row := fnExactHeadersFaultUptoRow, standIns := [], harness := (true, "db917379d989c485ab8ce8c277a5479ff37cd543496d01737799bee652c48066"), looks := false }, kinds := [], alts := [], laidByText := true, laidKinds := [.data, .pinned], laidTests := true, laidLooks := .later }
def FnExactHeadersFaultUptoCardSaid : Prop := Claim7.holds Tryd.pinned (.plain (OpenSpec.upto fnExactHeadersFaultSpec)) fnExactHeadersFaultUptoCard

/-- THE SECOND FORM's CARD OF 'laws.FnExactResponseFault'. -/
def fnExactResponseFaultUptoCard : Claim7 := { stood := { row := fnExactResponseFaultUptoRow, standIns := [], harness := (true, "db917379d989c485ab8ce8c277a5479ff37cd543496d01737799bee652c48066"), looks := false }, kinds := [], alts := [], laidByText := true, laidKinds := [.data, .pinned], laidTests := true, laidLooks := .later }
def FnExactResponseFaultUptoCardSaid : Prop := Claim7.holds Tryd.pinned (.plain (OpenSpec.upto fnExactResponseFaultSpec)) fnExactResponseFaultUptoCard

/-- THE SECOND FORM's CARD OF 'laws.FnExactDropHeader'. -/
def fnExactDropHeaderUptoCard : Claim7 := { stood := { row := fnExactDropHeaderUptoRow, standIns := [], harness := (true, "db917379d989c485ab8ce8c277a5479ff37cd543496d01737799bee652c48066"), looks := false }, kinds := [], alts := [], laidByText := true, laidKinds := [.data, .pinned], laidTests := true, laidLooks := .later }
def FnExactDropHeaderUptoCardSaid : Prop := Claim7.holds Tryd.pinned (.plain (OpenSpec.upto fnExactDropHeaderSpec)) fnExactDropHeaderUptoCard

/-- THE SECOND FORM's CARD OF 'laws.FnExactRequestFault'. -/
def fnExactRequestFaultUptoCard : Claim7 := { stood := { row := fnExactRequestFaultUptoRow, standIns := [], harness := (true, "db917379d989c485ab8ce8c277a5479ff37cd543496d01737799bee652c48066"), looks := false }, kinds := [], alts := [], laidByText := true, laidKinds := [.data, .pinned], laidTests := true, laidLooks := .later }
def FnExactRequestFaultUptoCardSaid : Prop := Claim7.holds Tryd.pinned (.plain (OpenSpec.upto fnExactRequestFaultSpec)) fnExactRequestFaultUptoCard
end Rows
end Go.Proofs.YtcnjbifdlieboaaDoor
