/-
  DERIVED. GIVEN WITH THE SEED: THE CARDS: each row of YtkpmddlinlcobaaGreatDoorRows.lean that lists a variable, with what it lists TIED to the program's text (the seventh form; the later family's looks); each row that meets fmt, with fmt's text TOLD by the authors' own Lean function (tested against real Go, not proved from fmt's source: count such statements apart). THE CARD IS WHAT COUNTS. Prove the row's statement (the work); the ties are given (YtkpmddlinlcobaaGreatDoorTie.lean); close each card by the builder's one call (the guide's Derived/Test/ToyasCard.lean, 'card_holds'). Laid BY PROGRAM, IN A SANDBOX (cutbox-door.mjs). By AI agents, Wed Nov 11 2026. No macro, syntax, notation, axiom, sorry.
-/
import Derived.Test.YtkpmddlinlcobaaGreatDoorRows
import GoSem.ClaimSeven
namespace Go.Proofs.YtkpmddlinlcobaaGreatDoor
namespace Rows

/-- THE TIED CARD OF 'chimelaw2.EventTells'. -/
def eventTellsCard : Claim7 := { stood := { row := eventTellsRow, standIns := [], harness := (true, "acd4a9a7ca0562c865e95f09b54df1af5a7895e5f14be251c6474c696710543e"), looks := true }, kinds := [], alts := [], laidByText := true, laidKinds := [.data, .handle], laidTests := true, laidLooks := .later }
def EventTellsCardSaid : Prop := Claim7.holds Tryz.pinned (.plain (OpenSpec.ofChange eventTellsSpec)) eventTellsCard

/-- THE TIED CARD OF 'chimelaw4.TimesAhead'. -/
def timesAheadCard : Claim7 := { stood := { row := timesAheadRow, standIns := [], harness := (true, "acd4a9a7ca0562c865e95f09b54df1af5a7895e5f14be251c6474c696710543e"), looks := true }, kinds := [], alts := [], laidByText := true, laidKinds := [.data], laidTests := true, laidLooks := .later }
def TimesAheadCardSaid : Prop := Claim7.holds Tryz.pinned (.plain (OpenSpec.ofChange timesAheadSpec)) timesAheadCard

/-- THE TIED CARD OF 'chimelaw2.TimesHold'. -/
def timesHoldCard : Claim7 := { stood := { row := timesHoldRow, standIns := [], harness := (true, "acd4a9a7ca0562c865e95f09b54df1af5a7895e5f14be251c6474c696710543e"), looks := true }, kinds := [], alts := [], laidByText := true, laidKinds := [.data], laidTests := true, laidLooks := .later }
def TimesHoldCardSaid : Prop := Claim7.holds Tryz.pinned (.plain (OpenSpec.ofChange timesHoldSpec)) timesHoldCard

/-- THE TIED CARD OF 'chimelaw2.TimesTells'. -/
def timesTellsCard : Claim7 := { stood := { row := timesTellsRow, standIns := [], harness := (true, "acd4a9a7ca0562c865e95f09b54df1af5a7895e5f14be251c6474c696710543e"), looks := true }, kinds := [], alts := [], laidByText := true, laidKinds := [.data, .handle], laidTests := true, laidLooks := .later }
def TimesTellsCardSaid : Prop := Claim7.holds Tryz.pinned (.plain (OpenSpec.ofChange timesTellsSpec)) timesTellsCard

/-- THE TIED CARD OF 'chimelaw4.AlarmCounts'. -/
def alarmCountsCard : Claim7 := { stood := { row := alarmCountsRow, standIns := [], harness := (true, "acd4a9a7ca0562c865e95f09b54df1af5a7895e5f14be251c6474c696710543e"), looks := true }, kinds := [], alts := [], laidByText := true, laidKinds := [.data], laidTests := true, laidLooks := .later }
def AlarmCountsCardSaid : Prop := Claim7.holds Tryz.pinned (.plain (OpenSpec.ofChange alarmCountsSpec)) alarmCountsCard

/-- THE TIED CARD OF 'chimelaw2.AlarmHolds'. -/
def alarmHoldsCard : Claim7 := { stood := { row := alarmHoldsRow, standIns := [], harness := (true, "acd4a9a7ca0562c865e95f09b54df1af5a7895e5f14be251c6474c696710543e"), looks := true }, kinds := [], alts := [], laidByText := true, laidKinds := [.data], laidTests := true, laidLooks := .later }
def AlarmHoldsCardSaid : Prop := Claim7.holds Tryz.pinned (.plain (OpenSpec.ofChange alarmHoldsSpec)) alarmHoldsCard

/-- THE TIED CARD OF 'chimelaw2.AlarmTells'. -/
def alarmTellsCard : Claim7 := { stood := { row := alarmTellsRow, standIns := [], harness := (true, "acd4a9a7ca0562c865e95f09b54df1af5a7895e5f14be251c6474c696710543e"), looks := true }, kinds := [], alts := [], laidByText := true, laidKinds := [.data, .handle], laidTests := true, laidLooks := .later }
def AlarmTellsCardSaid : Prop := Claim7.holds Tryz.pinned (.plain (OpenSpec.ofChange alarmTellsSpec)) alarmTellsCard

/-- THE TIED CARD OF 'chimelaw4.PlanAlone'. -/
def planAloneCard : Claim7 := { stood := { row := planAloneRow, standIns := [], harness := (true, "acd4a9a7ca0562c865e95f09b54df1af5a7895e5f14be251c6474c696710543e"), looks := true }, kinds := [], alts := [], laidByText := true, laidKinds := [.data], laidTests := true, laidLooks := .later }
def PlanAloneCardSaid : Prop := Claim7.holds Tryz.pinned (.plain (OpenSpec.ofChange planAloneSpec)) planAloneCard

/-- THE TIED CARD OF 'chimelaw2.PlanFits'. -/
def planFitsCard : Claim7 := { stood := { row := planFitsRow, standIns := [], harness := (true, "acd4a9a7ca0562c865e95f09b54df1af5a7895e5f14be251c6474c696710543e"), looks := true }, kinds := [], alts := [], laidByText := true, laidKinds := [.data], laidTests := true, laidLooks := .later }
def PlanFitsCardSaid : Prop := Claim7.holds Tryz.pinned (.plain (OpenSpec.ofChange planFitsSpec)) planFitsCard

/-- THE TIED CARD OF 'chimelaw2.PlanTells'. -/
def planTellsCard : Claim7 := { stood := { row := planTellsRow, standIns := [], harness := (true, "acd4a9a7ca0562c865e95f09b54df1af5a7895e5f14be251c6474c696710543e"), looks := true }, kinds := [], alts := [], laidByText := true, laidKinds := [.data, .handle], laidTests := true, laidLooks := .later }
def PlanTellsCardSaid : Prop := Claim7.holds Tryz.pinned (.plain (OpenSpec.ofChange planTellsSpec)) planTellsCard

/-- THE TIED CARD OF 'chimetop.TopDays'. -/
def topDaysCard : Claim7 := { stood := { row := topDaysRow, standIns := [], harness := (true, "acd4a9a7ca0562c865e95f09b54df1af5a7895e5f14be251c6474c696710543e"), looks := true }, kinds := [], alts := [], laidByText := true, laidKinds := [.data], laidTests := true, laidLooks := .later }
def TopDaysCardSaid : Prop := Claim7.holds Tryz.pinned (.plain (OpenSpec.ofChange topDaysSpec)) topDaysCard

/-- THE SECOND FORM's CARD OF 'chimelaw2.EventTells'. -/
def eventTellsUptoCard : Claim7 := { stood := { row := eventTellsUptoRow, standIns := [], harness := (true, "acd4a9a7ca0562c865e95f09b54df1af5a7895e5f14be251c6474c696710543e"), looks := true }, kinds := [], alts := [], laidByText := true, laidKinds := [.data, .handle], laidTests := true, laidLooks := .later }
def EventTellsUptoCardSaid : Prop := Claim7.holds Tryz.pinned (.plain (OpenSpec.upto eventTellsSpec)) eventTellsUptoCard

/-- THE SECOND FORM's CARD OF 'chimelaw4.TimesAhead'. -/
def timesAheadUptoCard : Claim7 := { stood := { row := timesAheadUptoRow, standIns := [], harness := (true, "acd4a9a7ca0562c865e95f09b54df1af5a7895e5f14be251c6474c696710543e"), looks := true }, kinds := [], alts := [], laidByText := true, laidKinds := [.data], laidTests := true, laidLooks := .later }
def TimesAheadUptoCardSaid : Prop := Claim7.holds Tryz.pinned (.plain (OpenSpec.upto timesAheadSpec)) timesAheadUptoCard

/-- THE SECOND FORM's CARD OF 'chimelaw2.TimesHold'. -/
def timesHoldUptoCard : Claim7 := { stood := { row := timesHoldUptoRow, standIns := [], harness := (true, "acd4a9a7ca0562c865e95f09b54df1af5a7895e5f14be251c6474c696710543e"), looks := true }, kinds := [], alts := [], laidByText := true, laidKinds := [.data], laidTests := true, laidLooks := .later }
def TimesHoldUptoCardSaid : Prop := Claim7.holds Tryz.pinned (.plain (OpenSpec.upto timesHoldSpec)) timesHoldUptoCard

/-- THE SECOND FORM's CARD OF 'chimelaw2.TimesTells'. -/
def timesTellsUptoCard : Claim7 := { stood := { row := timesTellsUptoRow, standIns := [], harness := (true, "acd4a9a7ca0562c865e95f09b54df1af5a7895e5f14be251c6474c696710543e"), looks := true }, kinds := [], alts := [], laidByText := true, laidKinds := [.data, .handle], laidTests := true, laidLooks := .later }
def TimesTellsUptoCardSaid : Prop := Claim7.holds Tryz.pinned (.plain (OpenSpec.upto timesTellsSpec)) timesTellsUptoCard

/-- THE SECOND FORM's CARD OF 'chimelaw4.AlarmCounts'. -/
def alarmCountsUptoCard : Claim7 := { stood := { row := alarmCountsUptoRow, standIns := [], harness := (true, "acd4a9a7ca0562c865e95f09b54df1af5a7895e5f14be251c6474c696710543e"), looks := true }, kinds := [], alts := [], laidByText := true, laidKinds := [.data], laidTests := true, laidLooks := .later }
def AlarmCountsUptoCardSaid : Prop := Claim7.holds Tryz.pinned (.plain (OpenSpec.upto alarmCountsSpec)) alarmCountsUptoCard

/-- THE SECOND FORM's CARD OF 'chimelaw2.AlarmHolds'. -/
def alarmHoldsUptoCard : Claim7 := { stood := { row := alarmHoldsUptoRow, standIns := [], harness := (true, "acd4a9a7ca0562c865e95f09b54df1af5a7895e5f14be251c6474c696710543e"), looks := true }, kinds := [], alts := [], laidByText := true, laidKinds := [.data], laidTests := true, laidLooks := .later }
def AlarmHoldsUptoCardSaid : Prop := Claim7.holds Tryz.pinned (.plain (OpenSpec.upto alarmHoldsSpec)) alarmHoldsUptoCard

/-- THE SECOND FORM's CARD OF 'chimelaw2.AlarmTells'. -/
def alarmTellsUptoCard : Claim7 := { stood := { row := alarmTellsUptoRow, standIns := [], harness := (true, "acd4a9a7ca0562c865e95f09b54df1af5a7895e5f14be251c6474c696710543e"), looks := true }, kinds := [], alts := [], laidByText := true, laidKinds := [.data, .handle], laidTests := true, laidLooks := .later }
def AlarmTellsUptoCardSaid : Prop := Claim7.holds Tryz.pinned (.plain (OpenSpec.upto alarmTellsSpec)) alarmTellsUptoCard

/-- THE SECOND FORM's CARD OF 'chimelaw4.PlanAlone'. -/
def planAloneUptoCard : Claim7 := { stood := { row := planAloneUptoRow, standIns := [], harness := (true, "acd4a9a7ca0562c865e95f09b54df1af5a7895e5f14be251c6474c696710543e"), looks := true }, kinds := [], alts := [], laidByText := true, laidKinds := [.data], laidTests := true, laidLooks := .later }
def PlanAloneUptoCardSaid : Prop := Claim7.holds Tryz.pinned (.plain (OpenSpec.upto planAloneSpec)) planAloneUptoCard

/-- THE SECOND FORM's CARD OF 'chimelaw2.PlanFits'. -/
def planFitsUptoCard : Claim7 := { stood := { row := planFitsUptoRow, standIns := [], harness := (true, "acd4a9a7ca0562c865e95f09b54df1af5a7895e5f14be251c6474c696710543e"), looks := true }, kinds := [], alts := [], laidByText := true, laidKinds := [.data], laidTests := true, laidLooks := .later }
def PlanFitsUptoCardSaid : Prop := Claim7.holds Tryz.pinned (.plain (OpenSpec.upto planFitsSpec)) planFitsUptoCard

/-- THE SECOND FORM's CARD OF 'chimelaw2.PlanTells'. -/
def planTellsUptoCard : Claim7 := { stood := { row := planTellsUptoRow, standIns := [], harness := (true, "acd4a9a7ca0562c865e95f09b54df1af5a7895e5f14be251c6474c696710543e"), looks := true }, kinds := [], alts := [], laidByText := true, laidKinds := [.data, .handle], laidTests := true, laidLooks := .later }
def PlanTellsUptoCardSaid : Prop := Claim7.holds Tryz.pinned (.plain (OpenSpec.upto planTellsSpec)) planTellsUptoCard

/-- THE SECOND FORM's CARD OF 'chimetop.TopDays'. -/
def topDaysUptoCard : Claim7 := { stood := { row := topDaysUptoRow, standIns := [], harness := (true, "acd4a9a7ca0562c865e95f09b54df1af5a7895e5f14be251c6474c696710543e"), looks := true }, kinds := [], alts := [], laidByText := true, laidKinds := [.data], laidTests := true, laidLooks := .later }
def TopDaysUptoCardSaid : Prop := Claim7.holds Tryz.pinned (.plain (OpenSpec.upto topDaysSpec)) topDaysUptoCard
end Rows
end Go.Proofs.YtkpmddlinlcobaaGreatDoor
