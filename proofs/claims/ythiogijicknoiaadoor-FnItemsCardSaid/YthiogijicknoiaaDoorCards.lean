/-
  DERIVED. GIVEN WITH THE SEED: THE CARDS: each row of YthiogijicknoiaaDoorRows.lean that lists a variable, with what it lists TIED to the program's text (the seventh form; the later family's looks); each row that meets fmt, with fmt's text TOLD by the authors' own Lean function (tested against real Go, not proved from fmt's source: count such statements apart). THE CARD IS WHAT COUNTS. Prove the row's statement (the work); the ties are given (YthiogijicknoiaaDoorTie.lean); close each card by the builder's one call (the guide's Derived/Test/ToyasCard.lean, 'card_holds'). Laid BY PROGRAM, IN A SANDBOX (cutbox-door.mjs). By AI agents, Wed Nov 11 2026. No macro, syntax, notation, axiom, sorry.
-/
import Derived.Test.YthiogijicknoiaaDoorRows
import GoSem.ClaimSeven
namespace Go.Proofs.YthiogijicknoiaaDoor
namespace Rows

/-- THE TIED CARD OF 'laws.FnExactReadResponse'. -/
def fnExactReadResponseCard : Claim7 := { stood := { row := fnExactReadResponseRow, standIns := [], harness := (true, "b31ade34de3da80ac44ff74f82cfa40e4dc3ad624eecf2e7747136761ae9b844"), looks := false }, kinds := [], alts := [], laidByText := true, laidKinds := [.data, .pinned], laidTests := true, laidLooks := .later }
def FnExactReadResponseCardSaid : Prop := Claim7.holds Tryd.pinned (.plain (OpenSpec.ofChange fnExactReadResponseSpec)) fnExactReadResponseCard

/-- THE TIED CARD OF 'laws.FnItems'. -/
def fnItemsCard : Claim7 := { stood := { row := fnItemsRow, standIns := [], harness := (true, "b31ade34de3da80ac44ff74f82cfa40e4dc3ad624eecf2e7747136761ae9b844"), looks := false }, kinds := [], alts := [], laidByText := true, laidKinds := [.data, .pinned], laidTests := true, laidLooks := .later }
def FnItemsCardSaid : Prop := Claim7.holds Tryd.pinned (.plain (OpenSpec.ofChange fnItemsSpec)) fnItemsCard

/-- THE SECOND FORM's CARD OF 'laws.FnExactReadResponse'. -/
def fnExactReadResponseUptoCard : Claim7 := { stood := { row := fnExactReadResponseUptoRow, standIns := [], harness := (true, "b31ade34de3da80ac44ff74f82cfa40e4dc3ad624eecf2e7747136761ae9b844"), looks := false }, kinds := [], alts := [], laidByText := true, laidKinds := [.data, .pinned], laidTests := true, laidLooks := .later }
def FnExactReadResponseUptoCardSaid : Prop := Claim7.holds Tryd.pinned (.plain (OpenSpec.upto fnExactReadResponseSpec)) fnExactReadResponseUptoCard

/-- THE SECOND FORM's CARD OF 'laws.FnItems'. -/
def fnItemsUptoCard : Claim7 := { stood := { row := fnItemsUptoRow, standIns := [], harness := (true, "b31ade34de3da80ac44ff74f82cfa40e4dc3ad624eecf2e7747136761ae9b844"), looks := false }, kinds := [], alts := [], laidByText := true, laidKinds := [.data, .pinned], laidTests := true, laidLooks := .later }
def FnItemsUptoCardSaid : Prop := Claim7.holds Tryd.pinned (.plain (OpenSpec.upto fnItemsSpec)) fnItemsUptoCard
end Rows
end Go.Proofs.YthiogijicknoiaaDoor
