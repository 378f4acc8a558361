/-
  DERIVED. GIVEN WITH THE SEED: THE CARDS: each row of YtgelojhpanbnaaaGreatDoorRows.lean that lists a variable, with what it lists TIED to the program's text (the seventh form; the later family's looks); each row that meets fmt, with fmt's text TOLD by the authors' own Lean function (tested against real Go, not proved from fmt's source: count such statements apart). THE CARD IS WHAT COUNTS. Prove the row's statement (the work); the ties are given (YtgelojhpanbnaaaGreatDoorTie.lean); close each card by the builder's one call (the guide's Derived/Test/ToyasCard.lean, 'card_holds'). Laid BY PROGRAM, IN A SANDBOX (cutbox-door.mjs). By AI agents, Wed Nov 11 2026. No macro, syntax, notation, axiom, sorry.
-/
import Derived.Test.YtgelojhpanbnaaaGreatDoorRows
import GoSem.ClaimSeven
namespace Go.Proofs.YtgelojhpanbnaaaGreatDoor
namespace Rows

/-- THE TIED CARD OF 'chimetop.TopDays'. -/
def topDaysCard : Claim7 := { stood := { row := topDaysRow, standIns := [], harness := (true, "ba4700f2530b61db2e2f81bd30f5269cae829dc3fd8f37718e77d1920304413b"), looks := true }, kinds := [], alts := [], laidByText := true, laidKinds := [.data], laidTests := true, laidLooks := .later }
def TopDaysCardSaid : Prop := Claim7.holds Tryz.pinned (.plain (OpenSpec.ofChange topDaysSpec)) topDaysCard

/-- THE TIED CARD OF 'chimetop.TopRings'. -/
def topRingsCard : Claim7 := { stood := { row := topRingsRow, standIns := [], harness := (true, "ba4700f2530b61db2e2f81bd30f5269cae829dc3fd8f37718e77d1920304413b"), looks := true }, kinds := [], alts := [], laidByText := true, laidKinds := [.data], laidTests := true, laidLooks := .later }
def TopRingsCardSaid : Prop := Claim7.holds Tryz.pinned (.plain (OpenSpec.ofChange topRingsSpec)) topRingsCard

/-- THE TIED CARD OF 'chimelaw2.AlarmTells'. -/
def alarmTellsCard : Claim7 := { stood := { row := alarmTellsRow, standIns := [], harness := (true, "ba4700f2530b61db2e2f81bd30f5269cae829dc3fd8f37718e77d1920304413b"), looks := true }, kinds := [], alts := [], laidByText := true, laidKinds := [.data, .handle], laidTests := true, laidLooks := .later }
def AlarmTellsCardSaid : Prop := Claim7.holds Tryz.pinned (.plain (OpenSpec.ofChange alarmTellsSpec)) alarmTellsCard

/-- THE TIED CARD OF 'chimelaw3.DeskHolds'. -/
def deskHoldsCard : Claim7 := { stood := { row := deskHoldsRow, standIns := [], harness := (true, "ba4700f2530b61db2e2f81bd30f5269cae829dc3fd8f37718e77d1920304413b"), looks := true }, kinds := [], alts := [], laidByText := true, laidKinds := [.data], laidTests := true, laidLooks := .later }
def DeskHoldsCardSaid : Prop := Claim7.holds Tryz.pinned (.plain (OpenSpec.ofChange deskHoldsSpec)) deskHoldsCard

/-- THE TIED CARD OF 'chimelaw2.PlanTells'. -/
def planTellsCard : Claim7 := { stood := { row := planTellsRow, standIns := [], harness := (true, "ba4700f2530b61db2e2f81bd30f5269cae829dc3fd8f37718e77d1920304413b"), looks := true }, kinds := [], alts := [], laidByText := true, laidKinds := [.data, .handle], laidTests := true, laidLooks := .later }
def PlanTellsCardSaid : Prop := Claim7.holds Tryz.pinned (.plain (OpenSpec.ofChange planTellsSpec)) planTellsCard

/-- THE TIED CARD OF 'chimelaw3.DeskSnoozes'. -/
def deskSnoozesCard : Claim7 := { stood := { row := deskSnoozesRow, standIns := [], harness := (true, "ba4700f2530b61db2e2f81bd30f5269cae829dc3fd8f37718e77d1920304413b"), looks := true }, kinds := [], alts := [], laidByText := true, laidKinds := [.data, .handle], laidTests := true, laidLooks := .later }
def DeskSnoozesCardSaid : Prop := Claim7.holds Tryz.pinned (.plain (OpenSpec.ofChange deskSnoozesSpec)) deskSnoozesCard

/-- THE TIED CARD OF 'chimelaw3.DeskPlays'. -/
def deskPlaysCard : Claim7 := { stood := { row := deskPlaysRow, standIns := [], harness := (true, "ba4700f2530b61db2e2f81bd30f5269cae829dc3fd8f37718e77d1920304413b"), looks := true }, kinds := [], alts := [], laidByText := true, laidKinds := [.data, .handle], laidTests := true, laidLooks := .later }
def DeskPlaysCardSaid : Prop := Claim7.holds Tryz.pinned (.plain (OpenSpec.ofChange deskPlaysSpec)) deskPlaysCard

/-- THE SECOND FORM's CARD OF 'chimetop.TopDays'. -/
def topDaysUptoCard : Claim7 := { stood := { row := topDaysUptoRow, standIns := [], harness := (true, "ba4700f2530b61db2e2f81bd30f5269cae829dc3fd8f37718e77d1920304413b"), looks := true }, kinds := [], alts := [], laidByText := true, laidKinds := [.data], laidTests := true, laidLooks := .later }
def TopDaysUptoCardSaid : Prop := Claim7.holds Tryz.pinned (.plain (OpenSpec.upto topDaysSpec)) topDaysUptoCard

/-- THE SECOND FORM's CARD OF 'chimetop.TopRings'. -/
def topRingsUptoCard : Claim7 := { stood := { row := topRingsUptoRow, standIns := [], harness := (true, "ba4700f2530b61db2e2f81bd30f5269cae829dc3fd8f37718e77d1920304413b"), looks := true }, kinds := [], alts := [], laidByText := true, laidKinds := [.data], laidTests := true, laidLooks := .later }
def TopRingsUptoCardSaid : Prop := Claim7.holds Tryz.pinned (.plain (OpenSpec.upto topRingsSpec)) topRingsUptoCard

/-- THE SECOND FORM's CARD OF 'chimelaw2.AlarmTells'. -/
def alarmTellsUptoCard : Claim7 := { stood := { row := alarmTellsUptoRow, standIns := [], harness := (true, "ba4700f2530b61db2e2f81bd30f5269cae829dc3fd8f37718e77d1920304413b"), looks := true }, kinds := [], alts := [], laidByText := true, laidKinds := [.data, .handle], laidTests := true, laidLooks := .later }
def AlarmTellsUptoCardSaid : Prop := Claim7.holds Tryz.pinned (.plain (OpenSpec.upto alarmTellsSpec)) alarmTellsUptoCard

/-- THE SECOND FORM's CARD OF 'chimelaw3.DeskHolds'. -/
def deskHoldsUptoCard : Claim7 := { stood := { row := deskHoldsUptoRow, standIns := [], harness := (true, "ba4700f2530b61db2e2f81bd30f5269cae829dc3fd8f37718e77d1920304413b"), looks := true }, kinds := [], alts := [], laidByText := true, laidKinds := [.data], laidTests := true, laidLooks := .later }
def DeskHoldsUptoCardSaid : Prop := Claim7.holds Tryz.pinned (.plain (OpenSpec.upto deskHoldsSpec)) deskHoldsUptoCard

/-- THE SECOND FORM's CARD OF 'chimelaw2.PlanTells'. -/
def planTellsUptoCard : Claim7 := { stood := { row := planTellsUptoRow, standIns := [], harness := (true, "ba4700f2530b61db2e2f81bd30f5269cae829dc3fd8f37718e77d1920304413b"), looks := true }, kinds := [], alts := [], laidByText := true, laidKinds := [.data, .handle], laidTests := true, laidLooks := .later }
def PlanTellsUptoCardSaid : Prop := Claim7.holds Tryz.pinned (.plain (OpenSpec.upto planTellsSpec)) planTellsUptoCard

/-- THE SECOND FORM's CARD OF 'chimelaw3.DeskSnoozes'. -/
def deskSnoozesUptoCard : Claim7 := { stood := { row := deskSnoozesUptoRow, standIns := [], harness := (true, "ba4700f2530b61db2e2f81bd30f5269cae829dc3fd8f37718e77d1920304413b"), looks := true }, kinds := [], alts := [], laidByText := true, laidKinds := [.data, .handle], laidTests := true, laidLooks := .later }
def DeskSnoozesUptoCardSaid : Prop := Claim7.holds Tryz.pinned (.plain (OpenSpec.upto deskSnoozesSpec)) deskSnoozesUptoCard

/-- THE SECOND FORM's CARD OF 'chimelaw3.DeskPlays'. -/
def deskPlaysUptoCard : Claim7 := { stood := { row := deskPlaysUptoRow, standIns := [], harness := (true, "ba4700f2530b61db2e2f81bd30f5269cae829dc3fd8f37718e77d1920304413b"), looks := true }, kinds := [], alts := [], laidByText := true, laidKinds := [.data, .handle], laidTests := true, laidLooks := .later }
def DeskPlaysUptoCardSaid : Prop := Claim7.holds Tryz.pinned (.plain (OpenSpec.upto deskPlaysSpec)) deskPlaysUptoCard
end Rows
end Go.Proofs.YtgelojhpanbnaaaGreatDoor
