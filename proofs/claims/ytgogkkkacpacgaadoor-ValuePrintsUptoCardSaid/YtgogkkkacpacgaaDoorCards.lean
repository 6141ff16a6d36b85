/-
  DERIVED. GIVEN WITH THE SEED: THE CARDS: each row of YtgogkkkacpacgaaDoorRows.lean that lists a variable, with what it lists TIED to the program's text (the seventh form; the later family's looks); each row that meets fmt, with fmt's text TOLD by the authors' own Lean function (tested against real Go, not proved from fmt's source: count such statements apart). THE CARD IS WHAT COUNTS. Prove the row's statement (the work); the ties are given (YtgogkkkacpacgaaDoorTie.lean); close each card by the builder's one call (the guide's Derived/Test/ToyasCard.lean, 'card_holds'). Laid BY PROGRAM, IN A SANDBOX (cutbox-door.mjs). By AI agents, Wed Nov 11 2026. No macro, syntax, notation, axiom, sorry.
-/
import Derived.Test.YtgogkkkacpacgaaDoorRows
import GoSem.ClaimSeven
namespace Go.Proofs.YtgogkkkacpacgaaDoor
namespace Rows

/-- THE TIED CARD OF 'cadastrelaw03.ValueMay'. -/
def valueMayCard : Claim7 := { stood := { row := valueMayRow, standIns := [], harness := (true, "9e43d05993ba522d1c06ae7021066cd04534d9ccfde90ce877d3fb740519e372"), looks := true }, kinds := [], alts := [], laidByText := true, laidKinds := [.data, .data, .data, .data, .pinned], laidTests := true, laidLooks := .later }
def ValueMayCardSaid : Prop := Claim7.holds Tryd.pinned (.plain (OpenSpec.ofChange valueMaySpec)) valueMayCard

/-- THE TIED CARD OF 'cadastrelaw03.ValueOrder'. -/
def valueOrderCard : Claim7 := { stood := { row := valueOrderRow, standIns := [], harness := (true, "9e43d05993ba522d1c06ae7021066cd04534d9ccfde90ce877d3fb740519e372"), looks := true }, kinds := [], alts := [], laidByText := true, laidKinds := [.data, .data, .data, .data, .pinned], laidTests := true, laidLooks := .later }
def ValueOrderCardSaid : Prop := Claim7.holds Tryd.pinned (.plain (OpenSpec.ofChange valueOrderSpec)) valueOrderCard

/-- THE TIED CARD OF 'cadastrelaw03.ValueRing'. -/
def valueRingCard : Claim7 := { stood := { row := valueRingRow, standIns := [], harness := (true, "9e43d05993ba522d1c06ae7021066cd04534d9ccfde90ce877d3fb740519e372"), looks := true }, kinds := [], alts := [], laidByText := true, laidKinds := [.data, .data, .data, .data, .pinned], laidTests := true, laidLooks := .later }
def ValueRingCardSaid : Prop := Claim7.holds Tryd.pinned (.plain (OpenSpec.ofChange valueRingSpec)) valueRingCard

/-- THE TIED CARD OF 'cadastrelaw03.ValueHolds'. -/
def valueHoldsCard : Claim7 := { stood := { row := valueHoldsRow, standIns := [], harness := (true, "9e43d05993ba522d1c06ae7021066cd04534d9ccfde90ce877d3fb740519e372"), looks := true }, kinds := [], alts := [], laidByText := true, laidKinds := [.data, .data, .data, .data, .pinned], laidTests := true, laidLooks := .later }
def ValueHoldsCardSaid : Prop := Claim7.holds Tryd.pinned (.plain (OpenSpec.ofChange valueHoldsSpec)) valueHoldsCard

/-- THE TIED CARD OF 'cadastrelaw03.ValueLogic'. -/
def valueLogicCard : Claim7 := { stood := { row := valueLogicRow, standIns := [], harness := (true, "9e43d05993ba522d1c06ae7021066cd04534d9ccfde90ce877d3fb740519e372"), looks := true }, kinds := [], alts := [], laidByText := true, laidKinds := [.data, .data, .data, .data, .pinned], laidTests := true, laidLooks := .later }
def ValueLogicCardSaid : Prop := Claim7.holds Tryd.pinned (.plain (OpenSpec.ofChange valueLogicSpec)) valueLogicCard

/-- THE TIED CARD OF 'cadastrelaw03.ValueThree'. -/
def valueThreeCard : Claim7 := { stood := { row := valueThreeRow, standIns := [], harness := (true, "9e43d05993ba522d1c06ae7021066cd04534d9ccfde90ce877d3fb740519e372"), looks := true }, kinds := [], alts := [], laidByText := true, laidKinds := [.data, .data, .data, .data, .pinned], laidTests := true, laidLooks := .later }
def ValueThreeCardSaid : Prop := Claim7.holds Tryd.pinned (.plain (OpenSpec.ofChange valueThreeSpec)) valueThreeCard

/-- THE TIED CARD OF 'cadastrelaw03.ValueReckons'. -/
def valueReckonsCard : Claim7 := { stood := { row := valueReckonsRow, standIns := [], harness := (true, "9e43d05993ba522d1c06ae7021066cd04534d9ccfde90ce877d3fb740519e372"), looks := true }, kinds := [], alts := [], laidByText := true, laidKinds := [.data, .data, .data, .data, .pinned], laidTests := true, laidLooks := .later }
def ValueReckonsCardSaid : Prop := Claim7.holds Tryd.pinned (.plain (OpenSpec.ofChange valueReckonsSpec)) valueReckonsCard

/-- THE TIED CARD OF 'cadastrelaw03.ValuePrints'. -/
def valuePrintsCard : Claim7 := { stood := { row := valuePrintsRow, standIns := [], harness := (true, "9e43d05993ba522d1c06ae7021066cd04534d9ccfde90ce877d3fb740519e372"), looks := true }, kinds := [], alts := [], laidByText := true, laidKinds := [.data, .data, .data, .data, .sentinel, .sentinel, .pinned], laidTests := true, laidLooks := .later }
def ValuePrintsCardSaid : Prop := Claim7.holds Tryd.pinned (.plain (OpenSpec.ofChange valuePrintsSpec)) valuePrintsCard

/-- THE TIED CARD OF 'cadastrelaw03.ValueBack'. -/
def valueBackCard : Claim7 := { stood := { row := valueBackRow, standIns := [], harness := (true, "9e43d05993ba522d1c06ae7021066cd04534d9ccfde90ce877d3fb740519e372"), looks := true }, kinds := [], alts := [], laidByText := true, laidKinds := [.data, .data, .data, .data, .sentinel, .sentinel, .pinned], laidTests := true, laidLooks := .later }
def ValueBackCardSaid : Prop := Claim7.holds Tryd.pinned (.plain (OpenSpec.ofChange valueBackSpec)) valueBackCard

/-- THE SECOND FORM's CARD OF 'cadastrelaw03.ValueMay'. -/
def valueMayUptoCard : Claim7 := { stood := { row := valueMayUptoRow, standIns := [], harness := (true, "9e43d05993ba522d1c06ae7021066cd04534d9ccfde90ce877d3fb740519e372"), looks := true }, kinds := [], alts := [], laidByText := true, laidKinds := [.data, .data, .data, .data, .pinned], laidTests := true, laidLooks := .later }
def ValueMayUptoCardSaid : Prop := Claim7.holds Tryd.pinned (.plain (OpenSpec.upto valueMaySpec)) valueMayUptoCard

/-- THE SECOND FORM's CARD OF 'cadastrelaw03.ValueOrder'. -/
def valueOrderUptoCard : Claim7 := { stood := { row := valueOrderUptoRow, standIns := [], harness := (true, "9e43d05993ba522d1c06ae7021066cd04534d9ccfde90ce877d3fb740519e372"), looks := true }, kinds := [], alts := [], laidByText := true, laidKinds := [.data, .data, .data, .data, .pinned], laidTests := true, laidLooks := .later }
def ValueOrderUptoCardSaid : Prop := Claim7.holds Tryd.pinned (.plain (OpenSpec.upto valueOrderSpec)) valueOrderUptoCard

/-- THE SECOND FORM's CARD OF 'cadastrelaw03.ValueRing'. -/
def valueRingUptoCard : Claim7 := { stood := { row := valueRingUptoRow, standIns := [], harness := (true, "9e43d05993ba522d1c06ae7021066cd04534d9ccfde90ce877d3fb740519e372"), looks := true }, kinds := [], alts := [], laidByText := true, laidKinds := [.data, .data, .data, .data, .pinned], laidTests := true, laidLooks := .later }
def ValueRingUptoCardSaid : Prop := Claim7.holds Tryd.pinned (.plain (OpenSpec.upto valueRingSpec)) valueRingUptoCard

/-- THE SECOND FORM's CARD OF 'cadastrelaw03.ValueHolds'. -/
def valueHoldsUptoCard : Claim7 := { stood := { row := valueHoldsUptoRow, standIns := [], harness := (true, "9e43d05993ba522d1c06ae7021066cd04534d9ccfde90ce877d3fb740519e372"), looks := true }, kinds := [], alts := [], laidByText := true, laidKinds := [.data, .data, .data, .data, .pinned], laidTests := true, laidLooks := .later }
def ValueHoldsUptoCardSaid : Prop := Claim7.holds Tryd.pinned (.plain (OpenSpec.upto valueHoldsSpec)) valueHoldsUptoCard

/-- THE SECOND FORM's CARD OF 'cadastrelaw03.ValueLogic'. -/
def valueLogicUptoCard : Claim7 := { stood := { row := valueLogicUptoRow, standIns := [], harness := (true, "9e43d05993ba522d1c06ae7021066cd04534d9ccfde90ce877d3fb740519e372"), looks := true }, kinds := [], alts := [], laidByText := true, laidKinds := [.data, .data, .data, .data, .pinned], laidTests := true, laidLooks := .later }
def ValueLogicUptoCardSaid : Prop := Claim7.holds Tryd.pinned (.plain (OpenSpec.upto valueLogicSpec)) valueLogicUptoCard

/-- THE SECOND FORM's CARD OF 'cadastrelaw03.ValueThree'. -/
def valueThreeUptoCard : Claim7 := { stood := { row := valueThreeUptoRow, standIns := [], harness := (true, "9e43d05993ba522d1c06ae7021066cd04534d9ccfde90ce877d3fb740519e372"), looks := true }, kinds := [], alts := [], laidByText := true, laidKinds := [.data, .data, .data, .data, .pinned], laidTests := true, laidLooks := .later }
def ValueThreeUptoCardSaid : Prop := Claim7.holds Tryd.pinned (.plain (OpenSpec.upto valueThreeSpec)) valueThreeUptoCard

/-- THE SECOND FORM's CARD OF 'cadastrelaw03.ValueReckons'. -/
def valueReckonsUptoCard : Claim7 := { stood := { row := valueReckonsUptoRow, standIns := [], harness := (true, "9e43d05993ba522d1c06ae7021066cd04534d9ccfde90ce877d3fb740519e372"), looks := true }, kinds := [], alts := [], laidByText := true, laidKinds := [.data, .data, .data, .data, .pinned], laidTests := true, laidLooks := .later }
def ValueReckonsUptoCardSaid : Prop := Claim7.holds Tryd.pinned (.plain (OpenSpec.upto valueReckonsSpec)) valueReckonsUptoCard

/-- THE SECOND FORM's CARD OF 'cadastrelaw03.ValuePrints'. -/
def valuePrintsUptoCard : Claim7 := { stood := { row := valuePrintsUptoRow, standIns := [], harness := (true, "9e43d05993ba522d1c06ae7021066cd04534d9ccfde90ce877d3fb740519e372"), looks := true }, kinds := [], alts := [], laidByText := true, laidKinds := [.data, .data, .data, .data, .sentinel, .sentinel, .pinned], laidTests := true, laidLooks := .later }
def ValuePrintsUptoCardSaid : Prop := Claim7.holds Tryd.pinned (.plain (OpenSpec.upto valuePrintsSpec)) valuePrintsUptoCard

/-- THE SECOND FORM's CARD OF 'cadastrelaw03.ValueBack'. -/
def valueBackUptoCard : Claim7 := { stood := { row := valueBackUptoRow, standIns := [], harness := (true, "9e43d05993ba522d1c06ae7021066cd04534d9ccfde90ce877d3fb740519e372"), looks := true }, kinds := [], alts := [], laidByText := true, laidKinds := [.data, .data, .data, .data, .sentinel, .sentinel, .pinned], laidTests := true, laidLooks := .later }
def ValueBackUptoCardSaid : Prop := Claim7.holds Tryd.pinned (.plain (OpenSpec.upto valueBackSpec)) valueBackUptoCard
end Rows
end Go.Proofs.YtgogkkkacpacgaaDoor
