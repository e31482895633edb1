/-
  DERIVED. GIVEN WITH THE SEED: THE CARDS: each row of YtdcdglbliemnkaaDoorRows.lean that lists a variable, with what it lists TIED to the program's text (the seventh form; the later family's looks); each row that meets fmt, with fmt's text TOLD by the authors' own Lean function (tested against real Go, not proved from fmt's source: count such statements apart). THE CARD IS WHAT COUNTS. Prove the row's statement (the work); the ties are given (YtdcdglbliemnkaaDoorTie.lean); close each card by the builder's one call (the guide's Derived/Test/ToyasCard.lean, 'card_holds'). Laid BY PROGRAM, IN A SANDBOX (cutbox-door.mjs). By AI agents, Wed Nov 11 2026. No macro, syntax, notation, axiom, sorry.
-/
import Derived.Test.YtdcdglbliemnkaaDoorRows
import GoSem.ClaimSeven
namespace Go.Proofs.YtdcdglbliemnkaaDoor
namespace Rows

/-- THE TIED CARD OF 'regestalaw02.WordBack'. -/
def wordBackCard : Claim7 := { stood := { row := wordBackRow, standIns := [], harness := (true, "49ddce8984fa1204f3fd600b6314584d323b7fbc7c8c9756f44e3fe6e2840fb7"), looks := false }, kinds := [], alts := [], laidByText := true, laidKinds := [.data, .pinned], laidTests := true, laidLooks := .later }
def WordBackCardSaid : Prop := Claim7.holds Tryd.pinned (.plain (OpenSpec.ofChange wordBackSpec)) wordBackCard

/-- THE TIED CARD OF 'regestalaw02.WordFront'. -/
def wordFrontCard : Claim7 := { stood := { row := wordFrontRow, standIns := [], harness := (true, "49ddce8984fa1204f3fd600b6314584d323b7fbc7c8c9756f44e3fe6e2840fb7"), looks := false }, kinds := [], alts := [], laidByText := true, laidKinds := [.data, .pinned], laidTests := true, laidLooks := .later }
def WordFrontCardSaid : Prop := Claim7.holds Tryd.pinned (.plain (OpenSpec.ofChange wordFrontSpec)) wordFrontCard

/-- THE TIED CARD OF 'regestalaw02.WordFronts'. -/
def wordFrontsCard : Claim7 := { stood := { row := wordFrontsRow, standIns := [], harness := (true, "49ddce8984fa1204f3fd600b6314584d323b7fbc7c8c9756f44e3fe6e2840fb7"), looks := false }, kinds := [], alts := [], laidByText := true, laidKinds := [.data, .pinned], laidTests := true, laidLooks := .later }
def WordFrontsCardSaid : Prop := Claim7.holds Tryd.pinned (.plain (OpenSpec.ofChange wordFrontsSpec)) wordFrontsCard

/-- THE TIED CARD OF 'regestalaw02.WordQuotes'. -/
def wordQuotesCard : Claim7 := { stood := { row := wordQuotesRow, standIns := [], harness := (true, "49ddce8984fa1204f3fd600b6314584d323b7fbc7c8c9756f44e3fe6e2840fb7"), looks := false }, kinds := [], alts := [], laidByText := true, laidKinds := [.data, .pinned], laidTests := true, laidLooks := .later }
def WordQuotesCardSaid : Prop := Claim7.holds Tryd.pinned (.plain (OpenSpec.ofChange wordQuotesSpec)) wordQuotesCard

/-- THE TIED CARD OF 'regestalaw02.WordTells'. -/
def wordTellsCard : Claim7 := { stood := { row := wordTellsRow, standIns := [], harness := (true, "49ddce8984fa1204f3fd600b6314584d323b7fbc7c8c9756f44e3fe6e2840fb7"), looks := false }, kinds := [], alts := [], laidByText := true, laidKinds := [.data, .pinned], laidTests := true, laidLooks := .later }
def WordTellsCardSaid : Prop := Claim7.holds Tryd.pinned (.plain (OpenSpec.ofChange wordTellsSpec)) wordTellsCard

/-- THE TIED CARD OF 'regestalaw03.ValueReads'. -/
def valueReadsCard : Claim7 := { stood := { row := valueReadsRow, standIns := [], harness := (true, "49ddce8984fa1204f3fd600b6314584d323b7fbc7c8c9756f44e3fe6e2840fb7"), looks := false }, kinds := [], alts := [], laidByText := true, laidKinds := [.data, .pinned], laidTests := true, laidLooks := .later }
def ValueReadsCardSaid : Prop := Claim7.holds Tryd.pinned (.plain (OpenSpec.ofChange valueReadsSpec)) valueReadsCard

/-- THE TIED CARD OF 'regestalaw03.ValueOrder'. -/
def valueOrderCard : Claim7 := { stood := { row := valueOrderRow, standIns := [], harness := (true, "49ddce8984fa1204f3fd600b6314584d323b7fbc7c8c9756f44e3fe6e2840fb7"), looks := false }, kinds := [], alts := [], laidByText := true, laidKinds := [.data, .pinned], laidTests := true, laidLooks := .later }
def ValueOrderCardSaid : Prop := Claim7.holds Tryd.pinned (.plain (OpenSpec.ofChange valueOrderSpec)) valueOrderCard

/-- THE TIED CARD OF 'regestalaw03.ValueAhead'. -/
def valueAheadCard : Claim7 := { stood := { row := valueAheadRow, standIns := [], harness := (true, "49ddce8984fa1204f3fd600b6314584d323b7fbc7c8c9756f44e3fe6e2840fb7"), looks := false }, kinds := [], alts := [], laidByText := true, laidKinds := [.data, .pinned], laidTests := true, laidLooks := .later }
def ValueAheadCardSaid : Prop := Claim7.holds Tryd.pinned (.plain (OpenSpec.ofChange valueAheadSpec)) valueAheadCard

/-- THE TIED CARD OF 'regestalaw03.ValueBytes'. -/
def valueBytesCard : Claim7 := { stood := { row := valueBytesRow, standIns := [], harness := (true, "49ddce8984fa1204f3fd600b6314584d323b7fbc7c8c9756f44e3fe6e2840fb7"), looks := false }, kinds := [], alts := [], laidByText := true, laidKinds := [.data, .pinned], laidTests := true, laidLooks := .later }
def ValueBytesCardSaid : Prop := Claim7.holds Tryd.pinned (.plain (OpenSpec.ofChange valueBytesSpec)) valueBytesCard

/-- THE TIED CARD OF 'regestalaw03.ValueParses'. -/
def valueParsesCard : Claim7 := { stood := { row := valueParsesRow, standIns := [], harness := (true, "49ddce8984fa1204f3fd600b6314584d323b7fbc7c8c9756f44e3fe6e2840fb7"), looks := false }, kinds := [], alts := [], laidByText := true, laidKinds := [.data, .pinned], laidTests := true, laidLooks := .later }
def ValueParsesCardSaid : Prop := Claim7.holds Tryd.pinned (.plain (OpenSpec.ofChange valueParsesSpec)) valueParsesCard

/-- THE TIED CARD OF 'regestalaw03.ValueTells'. -/
def valueTellsCard : Claim7 := { stood := { row := valueTellsRow, standIns := [], harness := (true, "49ddce8984fa1204f3fd600b6314584d323b7fbc7c8c9756f44e3fe6e2840fb7"), looks := false }, kinds := [], alts := [], laidByText := true, laidKinds := [.data, .pinned], laidTests := true, laidLooks := .later }
def ValueTellsCardSaid : Prop := Claim7.holds Tryd.pinned (.plain (OpenSpec.ofChange valueTellsSpec)) valueTellsCard

/-- THE SECOND FORM's CARD OF 'regestalaw02.WordBack'. -/
def wordBackUptoCard : Claim7 := { stood := { row := wordBackUptoRow, standIns := [], harness := (true, "49ddce8984fa1204f3fd600b6314584d323b7fbc7c8c9756f44e3fe6e2840fb7"), looks := false }, kinds := [], alts := [], laidByText := true, laidKinds := [.data, .pinned], laidTests := true, laidLooks := .later }
def WordBackUptoCardSaid : Prop := Claim7.holds Tryd.pinned (.plain (OpenSpec.upto wordBackSpec)) wordBackUptoCard

/-- THE SECOND FORM's CARD OF 'regestalaw02.WordFront'. -/
def wordFrontUptoCard : Claim7 := { stood := { row := wordFrontUptoRow, standIns := [], harness := (true, "49ddce8984fa1204f3fd600b6314584d323b7fbc7c8c9756f44e3fe6e2840fb7"), looks := false }, kinds := [], alts := [], laidByText := true, laidKinds := [.data, .pinned], laidTests := true, laidLooks := .later }
def WordFrontUptoCardSaid : Prop := Claim7.holds Tryd.pinned (.plain (OpenSpec.upto wordFrontSpec)) wordFrontUptoCard

/-- THE SECOND FORM's CARD OF 'regestalaw02.WordFronts'. -/
def wordFrontsUptoCard : Claim7 := { stood := { row := wordFrontsUptoRow, standIns := [], harness := (true, "49ddce8984fa1204f3fd600b6314584d323b7fbc7c8c9756f44e3fe6e2840fb7"), looks := false }, kinds := [], alts := [], laidByText := true, laidKinds := [.data, .pinned], laidTests := true, laidLooks := .later }
def WordFrontsUptoCardSaid : Prop := Claim7.holds Tryd.pinned (.plain (OpenSpec.upto wordFrontsSpec)) wordFrontsUptoCard

/-- THE SECOND FORM's CARD OF 'regestalaw02.WordQuotes'. -/
def wordQuotesUptoCard : Claim7 := { stood := { row := wordQuotesUptoRow, standIns := [], harness := (true, "49ddce8984fa1204f3fd600b6314584d323b7fbc7c8c9756f44e3fe6e2840fb7"), looks := false }, kinds := [], alts := [], laidByText := true, laidKinds := [.data, .pinned], laidTests := true, laidLooks := .later }
def WordQuotesUptoCardSaid : Prop := Claim7.holds Tryd.pinned (.plain (OpenSpec.upto wordQuotesSpec)) wordQuotesUptoCard

/-- THE SECOND FORM's CARD OF 'regestalaw02.WordTells'. -/
def wordTellsUptoCard : Claim7 := { stood := { row := wordTellsUptoRow, standIns := [], harness := (true, "49ddce8984fa1204f3fd600b6314584d323b7fbc7c8c9756f44e3fe6e2840fb7"), looks := false }, kinds := [], alts := [], laidByText := true, laidKinds := [.data, .pinned], laidTests := true, laidLooks := .later }
def WordTellsUptoCardSaid : Prop := Claim7.holds Tryd.pinned (.plain (OpenSpec.upto wordTellsSpec)) wordTellsUptoCard

/-- THE SECOND FORM's CARD OF 'regestalaw03.ValueReads'. -/
def valueReadsUptoCard : Claim7 := { stood := { row := valueReadsUptoRow, standIns := [], harness := (true, "49ddce8984fa1204f3fd600b6314584d323b7fbc7c8c9756f44e3fe6e2840fb7"), looks := false }, kinds := [], alts := [], laidByText := true, laidKinds := [.data, .pinned], laidTests := true, laidLooks := .later }
def ValueReadsUptoCardSaid : Prop := Claim7.holds Tryd.pinned (.plain (OpenSpec.upto valueReadsSpec)) valueReadsUptoCard

/-- THE SECOND FORM's CARD OF 'regestalaw03.ValueOrder'. -/
def valueOrderUptoCard : Claim7 := { stood := { row := valueOrderUptoRow, standIns := [], harness := (true, "49ddce8984fa1204f3fd600b6314584d323b7fbc7c8c9756f44e3fe6e2840fb7"), looks := false }, kinds := [], alts := [], laidByText := true, laidKinds := [.data, .pinned], laidTests := true, laidLooks := .later }
def ValueOrderUptoCardSaid : Prop := Claim7.holds Tryd.pinned (.plain (OpenSpec.upto valueOrderSpec)) valueOrderUptoCard

/-- THE SECOND FORM's CARD OF 'regestalaw03.ValueAhead'. -/
def valueAheadUptoCard : Claim7 := { stood := { row := valueAheadUptoRow, standIns := [], harness := (true, "49ddce8984fa1204f3fd600b6314584d323b7fbc7c8c9756f44e3fe6e2840fb7"), looks := false }, kinds := [], alts := [], laidByText := true, laidKinds := [.data, .pinned], laidTests := true, laidLooks := .later }
def ValueAheadUptoCardSaid : Prop := Claim7.holds Tryd.pinned (.plain (OpenSpec.upto valueAheadSpec)) valueAheadUptoCard

/-- THE SECOND FORM's CARD OF 'regestalaw03.ValueBytes'. -/
def valueBytesUptoCard : Claim7 := { stood := { row := valueBytesUptoRow, standIns := [], harness := (true, "49ddce8984fa1204f3fd600b6314584d323b7fbc7c8c9756f44e3fe6e2840fb7"), looks := false }, kinds := [], alts := [], laidByText := true, laidKinds := [.data, .pinned], laidTests := true, laidLooks := .later }
def ValueBytesUptoCardSaid : Prop := Claim7.holds Tryd.pinned (.plain (OpenSpec.upto valueBytesSpec)) valueBytesUptoCard

/-- THE SECOND FORM's CARD OF 'regestalaw03.ValueParses'. -/
def valueParsesUptoCard : Claim7 := { stood := { row := valueParsesUptoRow, standIns := [], harness := (true, "49ddce8984fa1204f3fd600b6314584d323b7fbc7c8c9756f44e3fe6e2840fb7"), looks := false }, kinds := [], alts := [], laidByText := true, laidKinds := [.data, .pinned], laidTests := true, laidLooks := .later }
def ValueParsesUptoCardSaid : Prop := Claim7.holds Tryd.pinned (.plain (OpenSpec.upto valueParsesSpec)) valueParsesUptoCard

/-- THE SECOND FORM's CARD OF 'regestalaw03.ValueTells'. -/
def valueTellsUptoCard : Claim7 := { stood := { row := valueTellsUptoRow, standIns := [], harness := (true, "49ddce8984fa1204f3fd600b6314584d323b7fbc7c8c9756f44e3fe6e2840fb7"), looks := false }, kinds := [], alts := [], laidByText := true, laidKinds := [.data, .pinned], laidTests := true, laidLooks := .later }
def ValueTellsUptoCardSaid : Prop := Claim7.holds Tryd.pinned (.plain (OpenSpec.upto valueTellsSpec)) valueTellsUptoCard
end Rows
end Go.Proofs.YtdcdglbliemnkaaDoor
