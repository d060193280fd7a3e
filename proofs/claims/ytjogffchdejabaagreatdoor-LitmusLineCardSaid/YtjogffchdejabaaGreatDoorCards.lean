/-
  DERIVED. GIVEN WITH THE SEED: THE CARDS: each row of YtjogffchdejabaaGreatDoorRows.lean that lists a variable, with what it lists TIED to the program's text (the seventh form; the later family's looks); each row that meets fmt, with fmt's text TOLD by the authors' own Lean function (tested against real Go, not proved from fmt's source: count such statements apart). THE CARD IS WHAT COUNTS. Prove the row's statement (the work); the ties are given (YtjogffchdejabaaGreatDoorTie.lean); close each card by the builder's one call (the guide's Derived/Test/ToyasCard.lean, 'card_holds'). Laid BY PROGRAM, IN A SANDBOX (cutbox-door.mjs). By AI agents, Wed Nov 11 2026. No macro, syntax, notation, axiom, sorry.
-/
import Derived.Test.YtjogffchdejabaaGreatDoorRows
import GoSem.ClaimSeven
namespace Go.Proofs.YtjogffchdejabaaGreatDoor
namespace Rows

/-- THE TIED CARD OF 'quadrillelaw09.LitmusKnown'. -/
def litmusKnownCard : Claim7 := { stood := { row := litmusKnownRow, standIns := [], harness := (true, "9bd9f53e159ef81f0dd348efca9026319f0511cec34f5bfdeb39d8e428c0258b"), looks := true }, kinds := [], alts := [], laidByText := true, laidKinds := [.data, .data, .data, .data, .sentinel, .sentinel, .pinned], laidTests := true, laidLooks := .later }
def LitmusKnownCardSaid : Prop := Claim7.holds Tryz.pinned (.plain (OpenSpec.ofChange litmusKnownSpec)) litmusKnownCard

/-- THE TIED CARD OF 'quadrillelaw09.LitmusParses'. -/
def litmusParsesCard : Claim7 := { stood := { row := litmusParsesRow, standIns := [], harness := (true, "9bd9f53e159ef81f0dd348efca9026319f0511cec34f5bfdeb39d8e428c0258b"), looks := true }, kinds := [], alts := [], laidByText := true, laidKinds := [.data, .data, .data, .data, .sentinel, .sentinel, .pinned], laidTests := true, laidLooks := .later }
def LitmusParsesCardSaid : Prop := Claim7.holds Tryz.pinned (.plain (OpenSpec.ofChange litmusParsesSpec)) litmusParsesCard

/-- THE TIED CARD OF 'quadrillelaw09.LitmusBounds'. -/
def litmusBoundsCard : Claim7 := { stood := { row := litmusBoundsRow, standIns := [], harness := (true, "9bd9f53e159ef81f0dd348efca9026319f0511cec34f5bfdeb39d8e428c0258b"), looks := true }, kinds := [], alts := [], laidByText := true, laidKinds := [.data, .data, .data, .data, .sentinel, .sentinel, .pinned], laidTests := true, laidLooks := .later }
def LitmusBoundsCardSaid : Prop := Claim7.holds Tryz.pinned (.plain (OpenSpec.ofChange litmusBoundsSpec)) litmusBoundsCard

/-- THE TIED CARD OF 'quadrillelaw09.LitmusLine'. -/
def litmusLineCard : Claim7 := { stood := { row := litmusLineRow, standIns := [], harness := (true, "9bd9f53e159ef81f0dd348efca9026319f0511cec34f5bfdeb39d8e428c0258b"), looks := true }, kinds := [], alts := [], laidByText := true, laidKinds := [.data, .data, .data, .data, .sentinel, .sentinel, .pinned], laidTests := true, laidLooks := .later }
def LitmusLineCardSaid : Prop := Claim7.holds Tryz.pinned (.plain (OpenSpec.ofChange litmusLineSpec)) litmusLineCard

/-- THE TIED CARD OF 'quadrillelaw09.LitmusTwo'. -/
def litmusTwoCard : Claim7 := { stood := { row := litmusTwoRow, standIns := [], harness := (true, "9bd9f53e159ef81f0dd348efca9026319f0511cec34f5bfdeb39d8e428c0258b"), looks := true }, kinds := [], alts := [], laidByText := true, laidKinds := [.data, .data, .data, .data, .sentinel, .sentinel, .pinned], laidTests := true, laidLooks := .later }
def LitmusTwoCardSaid : Prop := Claim7.holds Tryz.pinned (.plain (OpenSpec.ofChange litmusTwoSpec)) litmusTwoCard

/-- THE TIED CARD OF 'quadrillelaw09.LitmusValues'. -/
def litmusValuesCard : Claim7 := { stood := { row := litmusValuesRow, standIns := [], harness := (true, "9bd9f53e159ef81f0dd348efca9026319f0511cec34f5bfdeb39d8e428c0258b"), looks := true }, kinds := [], alts := [], laidByText := true, laidKinds := [.data, .data, .data, .data, .sentinel, .sentinel, .pinned], laidTests := true, laidLooks := .later }
def LitmusValuesCardSaid : Prop := Claim7.holds Tryz.pinned (.plain (OpenSpec.ofChange litmusValuesSpec)) litmusValuesCard

/-- THE TIED CARD OF 'quadrillelaw09.LitmusOutcome'. -/
def litmusOutcomeCard : Claim7 := { stood := { row := litmusOutcomeRow, standIns := [], harness := (true, "9bd9f53e159ef81f0dd348efca9026319f0511cec34f5bfdeb39d8e428c0258b"), looks := true }, kinds := [], alts := [], laidByText := true, laidKinds := [.data, .data, .data, .data, .sentinel, .sentinel, .pinned], laidTests := true, laidLooks := .later }
def LitmusOutcomeCardSaid : Prop := Claim7.holds Tryz.pinned (.plain (OpenSpec.ofChange litmusOutcomeSpec)) litmusOutcomeCard

/-- THE TIED CARD OF 'quadrillelaw09.LitmusSteps'. -/
def litmusStepsCard : Claim7 := { stood := { row := litmusStepsRow, standIns := [], harness := (true, "9bd9f53e159ef81f0dd348efca9026319f0511cec34f5bfdeb39d8e428c0258b"), looks := true }, kinds := [], alts := [], laidByText := true, laidKinds := [.data, .data, .data, .data, .sentinel, .sentinel, .pinned], laidTests := true, laidLooks := .later }
def LitmusStepsCardSaid : Prop := Claim7.holds Tryz.pinned (.plain (OpenSpec.ofChange litmusStepsSpec)) litmusStepsCard

/-- THE TIED CARD OF 'quadrillelaw09.LitmusTexts'. -/
def litmusTextsCard : Claim7 := { stood := { row := litmusTextsRow, standIns := [], harness := (true, "9bd9f53e159ef81f0dd348efca9026319f0511cec34f5bfdeb39d8e428c0258b"), looks := true }, kinds := [], alts := [], laidByText := true, laidKinds := [.data, .data, .data, .data, .sentinel, .sentinel, .pinned], laidTests := true, laidLooks := .later }
def LitmusTextsCardSaid : Prop := Claim7.holds Tryz.pinned (.plain (OpenSpec.ofChange litmusTextsSpec)) litmusTextsCard

/-- THE TIED CARD OF 'quadrillelaw09.LitmusBack'. -/
def litmusBackCard : Claim7 := { stood := { row := litmusBackRow, standIns := [], harness := (true, "9bd9f53e159ef81f0dd348efca9026319f0511cec34f5bfdeb39d8e428c0258b"), looks := true }, kinds := [], alts := [], laidByText := true, laidKinds := [.data, .data, .data, .data, .sentinel, .sentinel, .pinned], laidTests := true, laidLooks := .later }
def LitmusBackCardSaid : Prop := Claim7.holds Tryz.pinned (.plain (OpenSpec.ofChange litmusBackSpec)) litmusBackCard

/-- THE SECOND FORM's CARD OF 'quadrillelaw09.LitmusKnown'. -/
def litmusKnownUptoCard : Claim7 := { stood := { row := litmusKnownUptoRow, standIns := [], harness := (true, "9bd9f53e159ef81f0dd348efca9026319f0511cec34f5bfdeb39d8e428c0258b"), looks := true }, kinds := [], alts := [], laidByText := true, laidKinds := [.data, .data, .data, .data, .sentinel, .sentinel, .pinned], laidTests := true, laidLooks := .later }
def LitmusKnownUptoCardSaid : Prop := Claim7.holds Tryz.pinned (.plain (OpenSpec.upto litmusKnownSpec)) litmusKnownUptoCard

/-- THE SECOND FORM's CARD OF 'quadrillelaw09.LitmusParses'. -/
def litmusParsesUptoCard : Claim7 := { stood := { row := litmusParsesUptoRow, standIns := [], harness := (true, "9bd9f53e159ef81f0dd348efca9026319f0511cec34f5bfdeb39d8e428c0258b"), looks := true }, kinds := [], alts := [], laidByText := true, laidKinds := [.data, .data, .data, .data, .sentinel, .sentinel, .pinned], laidTests := true, laidLooks := .later }
def LitmusParsesUptoCardSaid : Prop := Claim7.holds Tryz.pinned (.plain (OpenSpec.upto litmusParsesSpec)) litmusParsesUptoCard

/-- THE SECOND FORM's CARD OF 'quadrillelaw09.LitmusBounds'. -/
def litmusBoundsUptoCard : Claim7 := { stood := { row := litmusBoundsUptoRow, standIns := [], harness := (true, "9bd9f53e159ef81f0dd348efca9026319f0511cec34f5bfdeb39d8e428c0258b"), looks := true }, kinds := [], alts := [], laidByText := true, laidKinds := [.data, .data, .data, .data, .sentinel, .sentinel, .pinned], laidTests := true, laidLooks := .later }
def LitmusBoundsUptoCardSaid : Prop := Claim7.holds Tryz.pinned (.plain (OpenSpec.upto litmusBoundsSpec)) litmusBoundsUptoCard

/-- THE SECOND FORM's CARD OF 'quadrillelaw09.LitmusLine'. -/
def litmusLineUptoCard : Claim7 := { stood := { row := litmusLineUptoRow, standIns := [], harness := (true, "9bd9f53e159ef81f0dd348efca9026319f0511cec34f5bfdeb39d8e428c0258b"), looks := true }, kinds := [], alts := [], laidByText := true, laidKinds := [.data, .data, .data, .data, .sentinel, .sentinel, .pinned], laidTests := true, laidLooks := .later }
def LitmusLineUptoCardSaid : Prop := Claim7.holds Tryz.pinned (.plain (OpenSpec.upto litmusLineSpec)) litmusLineUptoCard

/-- THE SECOND FORM's CARD OF 'quadrillelaw09.LitmusTwo'. -/
def litmusTwoUptoCard : Claim7 := { stood := { row := litmusTwoUptoRow, standIns := [], harness := (true, "9bd9f53e159ef81f0dd348efca9026319f0511cec34f5bfdeb39d8e428c0258b"), looks := true }, kinds := [], alts := [], laidByText := true, laidKinds := [.data, .data, .data, .data, .sentinel, .sentinel, .pinned], laidTests := true, laidLooks := .later }
def LitmusTwoUptoCardSaid : Prop := Claim7.holds Tryz.pinned (.plain (OpenSpec.upto litmusTwoSpec)) litmusTwoUptoCard

/-- THE SECOND FORM's CARD OF 'quadrillelaw09.LitmusValues'. -/
def litmusValuesUptoCard : Claim7 := { stood := { row := litmusValuesUptoRow, standIns := [], harness := (true, "9bd9f53e159ef81f0dd348efca9026319f0511cec34f5bfdeb39d8e428c0258b"), looks := true }, kinds := [], alts := [], laidByText := true, laidKinds := [.data, .data, .data, .data, .sentinel, .sentinel, .pinned], laidTests := true, laidLooks := .later }
def LitmusValuesUptoCardSaid : Prop := Claim7.holds Tryz.pinned (.plain (OpenSpec.upto litmusValuesSpec)) litmusValuesUptoCard

/-- THE SECOND FORM's CARD OF 'quadrillelaw09.LitmusOutcome'. -/
def litmusOutcomeUptoCard : Claim7 := { stood := { row := litmusOutcomeUptoRow, standIns := [], harness := (true, "9bd9f53e159ef81f0dd348efca9026319f0511cec34f5bfdeb39d8e428c0258b"), looks := true }, kinds := [], alts := [], laidByText := true, laidKinds := [.data, .data, .data, .data, .sentinel, .sentinel, .pinned], laidTests := true, laidLooks := .later }
def LitmusOutcomeUptoCardSaid : Prop := Claim7.holds Tryz.pinned (.plain (OpenSpec.upto litmusOutcomeSpec)) litmusOutcomeUptoCard

/-- THE SECOND FORM's CARD OF 'quadrillelaw09.LitmusSteps'. -/
def litmusStepsUptoCard : Claim7 := { stood := { row := litmusStepsUptoRow, standIns := [], harness := (true, "9bd9f53e159ef81f0dd348efca9026319f0511cec34f5bfdeb39d8e428c0258b"), looks := true }, kinds := [], alts := [], laidByText := true, laidKinds := [.data, .data, .data, .data, .sentinel, .sentinel, .pinned], laidTests := true, laidLooks := .later }
def LitmusStepsUptoCardSaid : Prop := Claim7.holds Tryz.pinned (.plain (OpenSpec.upto litmusStepsSpec)) litmusStepsUptoCard

/-- THE SECOND FORM's CARD OF 'quadrillelaw09.LitmusTexts'. -/
def litmusTextsUptoCard : Claim7 := { stood := { row := litmusTextsUptoRow, standIns := [], harness := (true, "9bd9f53e159ef81f0dd348efca9026319f0511cec34f5bfdeb39d8e428c0258b"), looks := true }, kinds := [], alts := [], laidByText := true, laidKinds := [.data, .data, .data, .data, .sentinel, .sentinel, .pinned], laidTests := true, laidLooks := .later }
def LitmusTextsUptoCardSaid : Prop := Claim7.holds Tryz.pinned (.plain (OpenSpec.upto litmusTextsSpec)) litmusTextsUptoCard

/-- THE SECOND FORM's CARD OF 'quadrillelaw09.LitmusBack'. -/
def litmusBackUptoCard : Claim7 := { stood := { row := litmusBackUptoRow, standIns := [], harness := (true, "9bd9f53e159ef81f0dd348efca9026319f0511cec34f5bfdeb39d8e428c0258b"), looks := true }, kinds := [], alts := [], laidByText := true, laidKinds := [.data, .data, .data, .data, .sentinel, .sentinel, .pinned], laidTests := true, laidLooks := .later }
def LitmusBackUptoCardSaid : Prop := Claim7.holds Tryz.pinned (.plain (OpenSpec.upto litmusBackSpec)) litmusBackUptoCard
end Rows
end Go.Proofs.YtjogffchdejabaaGreatDoor
