/-
  DERIVED. GIVEN WITH THE SEED: THE CARDS: each row of YtfcbcbpnlnkpcaaDoorRows.lean that lists a variable, with what it lists TIED to the program's text (the seventh form; the later family's looks); each row that meets fmt, with fmt's text TOLD by the authors' own Lean function (tested against real Go, not proved from fmt's source: count such statements apart). THE CARD IS WHAT COUNTS. Prove the row's statement (the work); the ties are given (YtfcbcbpnlnkpcaaDoorTie.lean); close each card by the builder's one call (the guide's Derived/Test/ToyasCard.lean, 'card_holds'). Laid BY PROGRAM, IN A SANDBOX (cutbox-door.mjs). By AI agents, Wed Nov 11 2026. No macro, syntax, notation, axiom, sorry.
-/
import Derived.Test.YtfcbcbpnlnkpcaaDoorRows
import GoSem.ClaimSeven
namespace Go.Proofs.YtfcbcbpnlnkpcaaDoor
namespace Rows

/-- THE TIED CARD OF 'scrivenerlaw6.DecimalMakes'. -/
def decimalMakesCard : Claim7 := { stood := { row := decimalMakesRow, standIns := [], harness := (true, "4ab69d880e28735f54faacc275c912147469f5f515589baf55c9266841aa6924"), looks := false }, kinds := [], alts := [], laidByText := true, laidKinds := [.data, .data, .data], laidTests := true, laidLooks := .later }
def DecimalMakesCardSaid : Prop := Claim7.holds Tryd.pinned (.plain (OpenSpec.ofChange decimalMakesSpec)) decimalMakesCard

/-- THE TIED CARD OF 'scrivenerlaw6.DecimalSpreads'. -/
def decimalSpreadsCard : Claim7 := { stood := { row := decimalSpreadsRow, standIns := [], harness := (true, "4ab69d880e28735f54faacc275c912147469f5f515589baf55c9266841aa6924"), looks := false }, kinds := [], alts := [], laidByText := true, laidKinds := [.data, .data, .data], laidTests := true, laidLooks := .later }
def DecimalSpreadsCardSaid : Prop := Claim7.holds Tryd.pinned (.plain (OpenSpec.ofChange decimalSpreadsSpec)) decimalSpreadsCard

/-- THE TIED CARD OF 'scrivenerlaw6.DecimalLaws'. -/
def decimalLawsCard : Claim7 := { stood := { row := decimalLawsRow, standIns := [], harness := (true, "4ab69d880e28735f54faacc275c912147469f5f515589baf55c9266841aa6924"), looks := false }, kinds := [], alts := [], laidByText := true, laidKinds := [.data, .data, .data], laidTests := true, laidLooks := .later }
def DecimalLawsCardSaid : Prop := Claim7.holds Tryd.pinned (.plain (OpenSpec.ofChange decimalLawsSpec)) decimalLawsCard

/-- THE TIED CARD OF 'scrivenerlaw6.DecimalSmall'. -/
def decimalSmallCard : Claim7 := { stood := { row := decimalSmallRow, standIns := [], harness := (true, "4ab69d880e28735f54faacc275c912147469f5f515589baf55c9266841aa6924"), looks := false }, kinds := [], alts := [], laidByText := true, laidKinds := [.data, .data, .data], laidTests := true, laidLooks := .later }
def DecimalSmallCardSaid : Prop := Claim7.holds Tryd.pinned (.plain (OpenSpec.ofChange decimalSmallSpec)) decimalSmallCard

/-- THE TIED CARD OF 'scrivenerlaw6.DecimalOrder'. -/
def decimalOrderCard : Claim7 := { stood := { row := decimalOrderRow, standIns := [], harness := (true, "4ab69d880e28735f54faacc275c912147469f5f515589baf55c9266841aa6924"), looks := false }, kinds := [], alts := [], laidByText := true, laidKinds := [.data, .data, .data], laidTests := true, laidLooks := .later }
def DecimalOrderCardSaid : Prop := Claim7.holds Tryd.pinned (.plain (OpenSpec.ofChange decimalOrderSpec)) decimalOrderCard

/-- THE TIED CARD OF 'scrivenerlaw6.DecimalReckons'. -/
def decimalReckonsCard : Claim7 := { stood := { row := decimalReckonsRow, standIns := [], harness := (true, "4ab69d880e28735f54faacc275c912147469f5f515589baf55c9266841aa6924"), looks := false }, kinds := [], alts := [], laidByText := true, laidKinds := [.data, .data, .data], laidTests := true, laidLooks := .later }
def DecimalReckonsCardSaid : Prop := Claim7.holds Tryd.pinned (.plain (OpenSpec.ofChange decimalReckonsSpec)) decimalReckonsCard

/-- THE TIED CARD OF 'scrivenerlaw6.DecimalTexts'. -/
def decimalTextsCard : Claim7 := { stood := { row := decimalTextsRow, standIns := [], harness := (true, "4ab69d880e28735f54faacc275c912147469f5f515589baf55c9266841aa6924"), looks := false }, kinds := [], alts := [], laidByText := true, laidKinds := [.data, .data, .data, .data, .pinned], laidTests := true, laidLooks := .later }
def DecimalTextsCardSaid : Prop := Claim7.holds Tryd.pinned (.plain (OpenSpec.ofChange decimalTextsSpec)) decimalTextsCard

/-- THE SECOND FORM's CARD OF 'scrivenerlaw6.DecimalMakes'. -/
def decimalMakesUptoCard : Claim7 := { stood := { row := decimalMakesUptoRow, standIns := [], harness := (true, "4ab69d880e28735f54faacc275c912147469f5f515589baf55c9266841aa6924"), looks := false }, kinds := [], alts := [], laidByText := true, laidKinds := [.data, .data, .data], laidTests := true, laidLooks := .later }
def DecimalMakesUptoCardSaid : Prop := Claim7.holds Tryd.pinned (.plain (OpenSpec.upto decimalMakesSpec)) decimalMakesUptoCard

/-- THE SECOND FORM's CARD OF 'scrivenerlaw6.DecimalSpreads'. -/
def decimalSpreadsUptoCard : Claim7 := { stood := { row := decimalSpreadsUptoRow, standIns := [], harness := (true, "4ab69d880e28735f54faacc275c912147469f5f515589baf55c9266841aa6924"), looks := false }, kinds := [], alts := [], laidByText := true, laidKinds := [.data, .data, .data], laidTests := true, laidLooks := .later }
def DecimalSpreadsUptoCardSaid : Prop := Claim7.holds Tryd.pinned (.plain (OpenSpec.upto decimalSpreadsSpec)) decimalSpreadsUptoCard

/-- THE SECOND FORM's CARD OF 'scrivenerlaw6.DecimalLaws'. -/
def decimalLawsUptoCard : Claim7 := { stood := { row := decimalLawsUptoRow, standIns := [], harness := (true, "4ab69d880e28735f54faacc275c912147469f5f515589baf55c9266841aa6924"), looks := false }, kinds := [], alts := [], laidByText := true, laidKinds := [.data, .data, .data], laidTests := true, laidLooks := .later }
def DecimalLawsUptoCardSaid : Prop := Claim7.holds Tryd.pinned (.plain (OpenSpec.upto decimalLawsSpec)) decimalLawsUptoCard

/-- THE SECOND FORM's CARD OF 'scrivenerlaw6.DecimalSmall'. -/
def decimalSmallUptoCard : Claim7 := { stood := { row := decimalSmallUptoRow, standIns := [], harness := (true, "4ab69d880e28735f54faacc275c912147469f5f515589baf55c9266841aa6924"), looks := false }, kinds := [], alts := [], laidByText := true, laidKinds := [.data, .data, .data], laidTests := true, laidLooks := .later }
def DecimalSmallUptoCardSaid : Prop := Claim7.holds Tryd.pinned (.plain (OpenSpec.upto decimalSmallSpec)) decimalSmallUptoCard

/-- THE SECOND FORM's CARD OF 'scrivenerlaw6.DecimalOrder'. -/
def decimalOrderUptoCard : Claim7 := { stood := { row := decimalOrderUptoRow, standIns := [], harness := (true, "4ab69d880e28735f54faacc275c912147469f5f515589baf55c9266841aa6924"), looks := false }, kinds := [], alts := [], laidByText := true, laidKinds := [.data, .data, .data], laidTests := true, laidLooks := .later }
def DecimalOrderUptoCardSaid : Prop := Claim7.holds Tryd.pinned (.plain (OpenSpec.upto decimalOrderSpec)) decimalOrderUptoCard

/-- THE SECOND FORM's CARD OF 'scrivenerlaw6.DecimalReckons'. -/
def decimalReckonsUptoCard : Claim7 := { stood := { row := decimalReckonsUptoRow, standIns := [], harness := (true, "4ab69d880e28735f54faacc275c912147469f5f515589baf55c9266841aa6924"), looks := false }, kinds := [], alts := [], laidByText := true, laidKinds := [.data, .data, .data], laidTests := true, laidLooks := .later }
def DecimalReckonsUptoCardSaid : Prop := Claim7.holds Tryd.pinned (.plain (OpenSpec.upto decimalReckonsSpec)) decimalReckonsUptoCard

/-- THE SECOND FORM's CARD OF 'scrivenerlaw6.DecimalTexts'. -/
def decimalTextsUptoCard : Claim7 := { stood := { row := decimalTextsUptoRow, standIns := [], harness := (true, "4ab69d880e28735f54faacc275c912147469f5f515589baf55c9266841aa6924"), looks := false }, kinds := [], alts := [], laidByText := true, laidKinds := [.data, .data, .data, .data, .pinned], laidTests := true, laidLooks := .later }
def DecimalTextsUptoCardSaid : Prop := Claim7.holds Tryd.pinned (.plain (OpenSpec.upto decimalTextsSpec)) decimalTextsUptoCard
end Rows
end Go.Proofs.YtfcbcbpnlnkpcaaDoor
