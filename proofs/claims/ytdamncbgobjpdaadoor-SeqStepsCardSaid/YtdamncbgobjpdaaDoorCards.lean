/-
  DERIVED. GIVEN WITH THE SEED: THE CARDS: each row of YtdamncbgobjpdaaDoorRows.lean that lists a variable, with what it lists TIED to the program's text (the seventh form; the later family's looks); each row that meets fmt, with fmt's text TOLD by the authors' own Lean function (tested against real Go, not proved from fmt's source: count such statements apart). THE CARD IS WHAT COUNTS. Prove the row's statement (the work); the ties are given (YtdamncbgobjpdaaDoorTie.lean); close each card by the builder's one call (the guide's Derived/Test/ToyasCard.lean, 'card_holds'). Laid BY PROGRAM, IN A SANDBOX (cutbox-door.mjs). By AI agents, Wed Nov 11 2026. No macro, syntax, notation, axiom, sorry.
-/
import Derived.Test.YtdamncbgobjpdaaDoorRows
import GoSem.ClaimSeven
namespace Go.Proofs.YtdamncbgobjpdaaDoor
namespace Rows

/-- THE TIED CARD OF 'chimelaw2.QueueSorts'. -/
def queueSortsCard : Claim7 := { stood := { row := queueSortsRow, standIns := [], harness := (true, "f1f245cd66e67ff4bb9d8958e3b6fa48f6bc528f6fa0affc482eef75f6f96a21"), looks := true }, kinds := [], alts := [], laidByText := true, laidKinds := [.handle], laidTests := true, laidLooks := .later }
def QueueSortsCardSaid : Prop := Claim7.holds Tryd.pinned (.plain (OpenSpec.ofChange queueSortsSpec)) queueSortsCard

/-- THE TIED CARD OF 'chimelaw1.WeekTells'. -/
def weekTellsCard : Claim7 := { stood := { row := weekTellsRow, standIns := [], harness := (true, "f1f245cd66e67ff4bb9d8958e3b6fa48f6bc528f6fa0affc482eef75f6f96a21"), looks := true }, kinds := [], alts := [], laidByText := true, laidKinds := [.data, .handle], laidTests := true, laidLooks := .later }
def WeekTellsCardSaid : Prop := Claim7.holds Tryd.pinned (.plain (OpenSpec.ofChange weekTellsSpec)) weekTellsCard

/-- THE TIED CARD OF 'chimelaw4.SeqSteps'. -/
def seqStepsCard : Claim7 := { stood := { row := seqStepsRow, standIns := [], harness := (true, "f1f245cd66e67ff4bb9d8958e3b6fa48f6bc528f6fa0affc482eef75f6f96a21"), looks := true }, kinds := [], alts := [], laidByText := true, laidKinds := [.data], laidTests := true, laidLooks := .later }
def SeqStepsCardSaid : Prop := Claim7.holds Tryd.pinned (.plain (OpenSpec.ofChange seqStepsSpec)) seqStepsCard

/-- THE TIED CARD OF 'chimelaw1.SeqHolds'. -/
def seqHoldsCard : Claim7 := { stood := { row := seqHoldsRow, standIns := [], harness := (true, "f1f245cd66e67ff4bb9d8958e3b6fa48f6bc528f6fa0affc482eef75f6f96a21"), looks := true }, kinds := [], alts := [], laidByText := true, laidKinds := [.data], laidTests := true, laidLooks := .later }
def SeqHoldsCardSaid : Prop := Claim7.holds Tryd.pinned (.plain (OpenSpec.ofChange seqHoldsSpec)) seqHoldsCard

/-- THE TIED CARD OF 'chimelaw2.LineTells'. -/
def lineTellsCard : Claim7 := { stood := { row := lineTellsRow, standIns := [], harness := (true, "f1f245cd66e67ff4bb9d8958e3b6fa48f6bc528f6fa0affc482eef75f6f96a21"), looks := true }, kinds := [], alts := [], laidByText := true, laidKinds := [.handle], laidTests := true, laidLooks := .later }
def LineTellsCardSaid : Prop := Claim7.holds Tryd.pinned (.plain (OpenSpec.ofChange lineTellsSpec)) lineTellsCard

/-- THE TIED CARD OF 'chimelaw1.PeriodTells'. -/
def periodTellsCard : Claim7 := { stood := { row := periodTellsRow, standIns := [], harness := (true, "f1f245cd66e67ff4bb9d8958e3b6fa48f6bc528f6fa0affc482eef75f6f96a21"), looks := true }, kinds := [], alts := [], laidByText := true, laidKinds := [.data, .handle], laidTests := true, laidLooks := .later }
def PeriodTellsCardSaid : Prop := Claim7.holds Tryd.pinned (.plain (OpenSpec.ofChange periodTellsSpec)) periodTellsCard

/-- THE TIED CARD OF 'chimelaw4.MonthRows'. -/
def monthRowsCard : Claim7 := { stood := { row := monthRowsRow, standIns := [], harness := (true, "f1f245cd66e67ff4bb9d8958e3b6fa48f6bc528f6fa0affc482eef75f6f96a21"), looks := true }, kinds := [], alts := [], laidByText := true, laidKinds := [.data, .data, .data, .data], laidTests := true, laidLooks := .later }
def MonthRowsCardSaid : Prop := Claim7.holds Tryd.pinned (.plain (OpenSpec.ofChange monthRowsSpec)) monthRowsCard

/-- THE TIED CARD OF 'chimelaw1.SeqTells'. -/
def seqTellsCard : Claim7 := { stood := { row := seqTellsRow, standIns := [], harness := (true, "f1f245cd66e67ff4bb9d8958e3b6fa48f6bc528f6fa0affc482eef75f6f96a21"), looks := true }, kinds := [], alts := [], laidByText := true, laidKinds := [.data, .handle], laidTests := true, laidLooks := .later }
def SeqTellsCardSaid : Prop := Claim7.holds Tryd.pinned (.plain (OpenSpec.ofChange seqTellsSpec)) seqTellsCard

/-- THE TIED CARD OF 'chimelaw1.ZoneTells'. -/
def zoneTellsCard : Claim7 := { stood := { row := zoneTellsRow, standIns := [], harness := (true, "f1f245cd66e67ff4bb9d8958e3b6fa48f6bc528f6fa0affc482eef75f6f96a21"), looks := true }, kinds := [], alts := [], laidByText := true, laidKinds := [.handle], laidTests := true, laidLooks := .later }
def ZoneTellsCardSaid : Prop := Claim7.holds Tryd.pinned (.plain (OpenSpec.ofChange zoneTellsSpec)) zoneTellsCard

/-- THE TIED CARD OF 'chimelaw1.ZoneBack'. -/
def zoneBackCard : Claim7 := { stood := { row := zoneBackRow, standIns := [], harness := (true, "f1f245cd66e67ff4bb9d8958e3b6fa48f6bc528f6fa0affc482eef75f6f96a21"), looks := true }, kinds := [], alts := [], laidByText := true, laidKinds := [.handle], laidTests := true, laidLooks := .later }
def ZoneBackCardSaid : Prop := Claim7.holds Tryd.pinned (.plain (OpenSpec.ofChange zoneBackSpec)) zoneBackCard

/-- THE SECOND FORM's CARD OF 'chimelaw2.QueueSorts'. -/
def queueSortsUptoCard : Claim7 := { stood := { row := queueSortsUptoRow, standIns := [], harness := (true, "f1f245cd66e67ff4bb9d8958e3b6fa48f6bc528f6fa0affc482eef75f6f96a21"), looks := true }, kinds := [], alts := [], laidByText := true, laidKinds := [.handle], laidTests := true, laidLooks := .later }
def QueueSortsUptoCardSaid : Prop := Claim7.holds Tryd.pinned (.plain (OpenSpec.upto queueSortsSpec)) queueSortsUptoCard

/-- THE SECOND FORM's CARD OF 'chimelaw1.WeekTells'. -/
def weekTellsUptoCard : Claim7 := { stood := { row := weekTellsUptoRow, standIns := [], harness := (true, "f1f245cd66e67ff4bb9d8958e3b6fa48f6bc528f6fa0affc482eef75f6f96a21"), looks := true }, kinds := [], alts := [], laidByText := true, laidKinds := [.data, .handle], laidTests := true, laidLooks := .later }
def WeekTellsUptoCardSaid : Prop := Claim7.holds Tryd.pinned (.plain (OpenSpec.upto weekTellsSpec)) weekTellsUptoCard

/-- THE SECOND FORM's CARD OF 'chimelaw4.SeqSteps'. -/
def seqStepsUptoCard : Claim7 := { stood := { row := seqStepsUptoRow, standIns := [], harness := (true, "f1f245cd66e67ff4bb9d8958e3b6fa48f6bc528f6fa0affc482eef75f6f96a21"), looks := true }, kinds := [], alts := [], laidByText := true, laidKinds := [.data], laidTests := true, laidLooks := .later }
def SeqStepsUptoCardSaid : Prop := Claim7.holds Tryd.pinned (.plain (OpenSpec.upto seqStepsSpec)) seqStepsUptoCard

/-- THE SECOND FORM's CARD OF 'chimelaw1.SeqHolds'. -/
def seqHoldsUptoCard : Claim7 := { stood := { row := seqHoldsUptoRow, standIns := [], harness := (true, "f1f245cd66e67ff4bb9d8958e3b6fa48f6bc528f6fa0affc482eef75f6f96a21"), looks := true }, kinds := [], alts := [], laidByText := true, laidKinds := [.data], laidTests := true, laidLooks := .later }
def SeqHoldsUptoCardSaid : Prop := Claim7.holds Tryd.pinned (.plain (OpenSpec.upto seqHoldsSpec)) seqHoldsUptoCard

/-- THE SECOND FORM's CARD OF 'chimelaw2.LineTells'. -/
def lineTellsUptoCard : Claim7 := { stood := { row := lineTellsUptoRow, standIns := [], harness := (true, "f1f245cd66e67ff4bb9d8958e3b6fa48f6bc528f6fa0affc482eef75f6f96a21"), looks := true }, kinds := [], alts := [], laidByText := true, laidKinds := [.handle], laidTests := true, laidLooks := .later }
def LineTellsUptoCardSaid : Prop := Claim7.holds Tryd.pinned (.plain (OpenSpec.upto lineTellsSpec)) lineTellsUptoCard

/-- THE SECOND FORM's CARD OF 'chimelaw1.PeriodTells'. -/
def periodTellsUptoCard : Claim7 := { stood := { row := periodTellsUptoRow, standIns := [], harness := (true, "f1f245cd66e67ff4bb9d8958e3b6fa48f6bc528f6fa0affc482eef75f6f96a21"), looks := true }, kinds := [], alts := [], laidByText := true, laidKinds := [.data, .handle], laidTests := true, laidLooks := .later }
def PeriodTellsUptoCardSaid : Prop := Claim7.holds Tryd.pinned (.plain (OpenSpec.upto periodTellsSpec)) periodTellsUptoCard

/-- THE SECOND FORM's CARD OF 'chimelaw4.MonthRows'. -/
def monthRowsUptoCard : Claim7 := { stood := { row := monthRowsUptoRow, standIns := [], harness := (true, "f1f245cd66e67ff4bb9d8958e3b6fa48f6bc528f6fa0affc482eef75f6f96a21"), looks := true }, kinds := [], alts := [], laidByText := true, laidKinds := [.data, .data, .data, .data], laidTests := true, laidLooks := .later }
def MonthRowsUptoCardSaid : Prop := Claim7.holds Tryd.pinned (.plain (OpenSpec.upto monthRowsSpec)) monthRowsUptoCard

/-- THE SECOND FORM's CARD OF 'chimelaw1.SeqTells'. -/
def seqTellsUptoCard : Claim7 := { stood := { row := seqTellsUptoRow, standIns := [], harness := (true, "f1f245cd66e67ff4bb9d8958e3b6fa48f6bc528f6fa0affc482eef75f6f96a21"), looks := true }, kinds := [], alts := [], laidByText := true, laidKinds := [.data, .handle], laidTests := true, laidLooks := .later }
def SeqTellsUptoCardSaid : Prop := Claim7.holds Tryd.pinned (.plain (OpenSpec.upto seqTellsSpec)) seqTellsUptoCard

/-- THE SECOND FORM's CARD OF 'chimelaw1.ZoneTells'. -/
def zoneTellsUptoCard : Claim7 := { stood := { row := zoneTellsUptoRow, standIns := [], harness := (true, "f1f245cd66e67ff4bb9d8958e3b6fa48f6bc528f6fa0affc482eef75f6f96a21"), looks := true }, kinds := [], alts := [], laidByText := true, laidKinds := [.handle], laidTests := true, laidLooks := .later }
def ZoneTellsUptoCardSaid : Prop := Claim7.holds Tryd.pinned (.plain (OpenSpec.upto zoneTellsSpec)) zoneTellsUptoCard

/-- THE SECOND FORM's CARD OF 'chimelaw1.ZoneBack'. -/
def zoneBackUptoCard : Claim7 := { stood := { row := zoneBackUptoRow, standIns := [], harness := (true, "f1f245cd66e67ff4bb9d8958e3b6fa48f6bc528f6fa0affc482eef75f6f96a21"), looks := true }, kinds := [], alts := [], laidByText := true, laidKinds := [.handle], laidTests := true, laidLooks := .later }
def ZoneBackUptoCardSaid : Prop := Claim7.holds Tryd.pinned (.plain (OpenSpec.upto zoneBackSpec)) zoneBackUptoCard
end Rows
end Go.Proofs.YtdamncbgobjpdaaDoor
