/-
  DERIVED. GIVEN WITH THE SEED: THE CARDS: each row of YtdkcgggnkhbkkaaDoorRows.lean that lists a variable, with what it lists TIED to the program's text (the seventh form; the later family's looks); each row that meets fmt, with fmt's text TOLD by the authors' own Lean function (tested against real Go, not proved from fmt's source: count such statements apart). THE CARD IS WHAT COUNTS. Prove the row's statement (the work); the ties are given (YtdkcgggnkhbkkaaDoorTie.lean); close each card by the builder's one call (the guide's Derived/Test/ToyasCard.lean, 'card_holds'). Laid BY PROGRAM, IN A SANDBOX (cutbox-door.mjs). By AI agents, Wed Nov 11 2026. No macro, syntax, notation, axiom, sorry.
-/
import Derived.Test.YtdkcgggnkhbkkaaDoorRows
import GoSem.ClaimSeven
namespace Go.Proofs.YtdkcgggnkhbkkaaDoor
namespace Rows

/-- THE TIED CARD OF 'chimelaw2.QueueSorts'. -/
def queueSortsCard : Claim7 := { stood := { row := queueSortsRow, standIns := [], harness := (true, "8083070a4841c8da74fc2df8fe3855b980b2bd1df154638e53a49e84bc73d9e4"), looks := true }, kinds := [], alts := [], laidByText := true, laidKinds := [.handle], laidTests := true, laidLooks := .later }
def QueueSortsCardSaid : Prop := Claim7.holds Tryd.pinned (.plain (OpenSpec.ofChange queueSortsSpec)) queueSortsCard

/-- THE TIED CARD OF 'chimelaw2.BusyTells'. -/
def busyTellsCard : Claim7 := { stood := { row := busyTellsRow, standIns := [], harness := (true, "8083070a4841c8da74fc2df8fe3855b980b2bd1df154638e53a49e84bc73d9e4"), looks := true }, kinds := [], alts := [], laidByText := true, laidKinds := [.handle], laidTests := true, laidLooks := .later }
def BusyTellsCardSaid : Prop := Claim7.holds Tryd.pinned (.plain (OpenSpec.ofChange busyTellsSpec)) busyTellsCard

/-- THE TIED CARD OF 'chimelaw2.QueuePlays'. -/
def queuePlaysCard : Claim7 := { stood := { row := queuePlaysRow, standIns := [], harness := (true, "8083070a4841c8da74fc2df8fe3855b980b2bd1df154638e53a49e84bc73d9e4"), looks := true }, kinds := [], alts := [], laidByText := true, laidKinds := [.handle], laidTests := true, laidLooks := .later }
def QueuePlaysCardSaid : Prop := Claim7.holds Tryd.pinned (.plain (OpenSpec.ofChange queuePlaysSpec)) queuePlaysCard

/-- THE TIED CARD OF 'chimelaw2.WheelPlays'. -/
def wheelPlaysCard : Claim7 := { stood := { row := wheelPlaysRow, standIns := [], harness := (true, "8083070a4841c8da74fc2df8fe3855b980b2bd1df154638e53a49e84bc73d9e4"), looks := true }, kinds := [], alts := [], laidByText := true, laidKinds := [.handle], laidTests := true, laidLooks := .later }
def WheelPlaysCardSaid : Prop := Claim7.holds Tryd.pinned (.plain (OpenSpec.ofChange wheelPlaysSpec)) wheelPlaysCard

/-- THE TIED CARD OF 'chimelaw4.EventOnce'. -/
def eventOnceCard : Claim7 := { stood := { row := eventOnceRow, standIns := [], harness := (true, "8083070a4841c8da74fc2df8fe3855b980b2bd1df154638e53a49e84bc73d9e4"), looks := true }, kinds := [], alts := [], laidByText := true, laidKinds := [.data], laidTests := true, laidLooks := .later }
def EventOnceCardSaid : Prop := Claim7.holds Tryd.pinned (.plain (OpenSpec.ofChange eventOnceSpec)) eventOnceCard

/-- THE TIED CARD OF 'chimelaw2.EventHolds'. -/
def eventHoldsCard : Claim7 := { stood := { row := eventHoldsRow, standIns := [], harness := (true, "8083070a4841c8da74fc2df8fe3855b980b2bd1df154638e53a49e84bc73d9e4"), looks := true }, kinds := [], alts := [], laidByText := true, laidKinds := [.data], laidTests := true, laidLooks := .later }
def EventHoldsCardSaid : Prop := Claim7.holds Tryd.pinned (.plain (OpenSpec.ofChange eventHoldsSpec)) eventHoldsCard

/-- THE TIED CARD OF 'chimelaw1.ClockBack'. -/
def clockBackCard : Claim7 := { stood := { row := clockBackRow, standIns := [], harness := (true, "8083070a4841c8da74fc2df8fe3855b980b2bd1df154638e53a49e84bc73d9e4"), looks := true }, kinds := [], alts := [], laidByText := true, laidKinds := [.data, .data, .data, .data, .sentinel, .sentinel], laidTests := true, laidLooks := .later }
def ClockBackCardSaid : Prop := Claim7.holds Tryd.pinned (.plain (OpenSpec.ofChange clockBackSpec)) clockBackCard

/-- THE TIED CARD OF 'chimelaw3.MonthHolds'. -/
def monthHoldsCard : Claim7 := { stood := { row := monthHoldsRow, standIns := [], harness := (true, "8083070a4841c8da74fc2df8fe3855b980b2bd1df154638e53a49e84bc73d9e4"), looks := true }, kinds := [], alts := [], laidByText := true, laidKinds := [.data, .data, .data, .data, .handle, .sentinel, .sentinel], laidTests := true, laidLooks := .later }
def MonthHoldsCardSaid : Prop := Claim7.holds Tryd.pinned (.plain (OpenSpec.ofChange monthHoldsSpec)) monthHoldsCard

/-- THE SECOND FORM's CARD OF 'chimelaw2.QueueSorts'. -/
def queueSortsUptoCard : Claim7 := { stood := { row := queueSortsUptoRow, standIns := [], harness := (true, "8083070a4841c8da74fc2df8fe3855b980b2bd1df154638e53a49e84bc73d9e4"), looks := true }, kinds := [], alts := [], laidByText := true, laidKinds := [.handle], laidTests := true, laidLooks := .later }
def QueueSortsUptoCardSaid : Prop := Claim7.holds Tryd.pinned (.plain (OpenSpec.upto queueSortsSpec)) queueSortsUptoCard

/-- THE SECOND FORM's CARD OF 'chimelaw2.BusyTells'. -/
def busyTellsUptoCard : Claim7 := { stood := { row := busyTellsUptoRow, standIns := [], harness := (true, "8083070a4841c8da74fc2df8fe3855b980b2bd1df154638e53a49e84bc73d9e4"), looks := true }, kinds := [], alts := [], laidByText := true, laidKinds := [.handle], laidTests := true, laidLooks := .later }
def BusyTellsUptoCardSaid : Prop := Claim7.holds Tryd.pinned (.plain (OpenSpec.upto busyTellsSpec)) busyTellsUptoCard

/-- THE SECOND FORM's CARD OF 'chimelaw2.QueuePlays'. -/
def queuePlaysUptoCard : Claim7 := { stood := { row := queuePlaysUptoRow, standIns := [], harness := (true, "8083070a4841c8da74fc2df8fe3855b980b2bd1df154638e53a49e84bc73d9e4"), looks := true }, kinds := [], alts := [], laidByText := true, laidKinds := [.handle], laidTests := true, laidLooks := .later }
def QueuePlaysUptoCardSaid : Prop := Claim7.holds Tryd.pinned (.plain (OpenSpec.upto queuePlaysSpec)) queuePlaysUptoCard

/-- THE SECOND FORM's CARD OF 'chimelaw2.WheelPlays'. -/
def wheelPlaysUptoCard : Claim7 := { stood := { row := wheelPlaysUptoRow, standIns := [], harness := (true, "8083070a4841c8da74fc2df8fe3855b980b2bd1df154638e53a49e84bc73d9e4"), looks := true }, kinds := [], alts := [], laidByText := true, laidKinds := [.handle], laidTests := true, laidLooks := .later }
def WheelPlaysUptoCardSaid : Prop := Claim7.holds Tryd.pinned (.plain (OpenSpec.upto wheelPlaysSpec)) wheelPlaysUptoCard

/-- THE SECOND FORM's CARD OF 'chimelaw4.EventOnce'. -/
def eventOnceUptoCard : Claim7 := { stood := { row := eventOnceUptoRow, standIns := [], harness := (true, "8083070a4841c8da74fc2df8fe3855b980b2bd1df154638e53a49e84bc73d9e4"), looks := true }, kinds := [], alts := [], laidByText := true, laidKinds := [.data], laidTests := true, laidLooks := .later }
def EventOnceUptoCardSaid : Prop := Claim7.holds Tryd.pinned (.plain (OpenSpec.upto eventOnceSpec)) eventOnceUptoCard

/-- THE SECOND FORM's CARD OF 'chimelaw2.EventHolds'. -/
def eventHoldsUptoCard : Claim7 := { stood := { row := eventHoldsUptoRow, standIns := [], harness := (true, "8083070a4841c8da74fc2df8fe3855b980b2bd1df154638e53a49e84bc73d9e4"), looks := true }, kinds := [], alts := [], laidByText := true, laidKinds := [.data], laidTests := true, laidLooks := .later }
def EventHoldsUptoCardSaid : Prop := Claim7.holds Tryd.pinned (.plain (OpenSpec.upto eventHoldsSpec)) eventHoldsUptoCard

/-- THE SECOND FORM's CARD OF 'chimelaw1.ClockBack'. -/
def clockBackUptoCard : Claim7 := { stood := { row := clockBackUptoRow, standIns := [], harness := (true, "8083070a4841c8da74fc2df8fe3855b980b2bd1df154638e53a49e84bc73d9e4"), looks := true }, kinds := [], alts := [], laidByText := true, laidKinds := [.data, .data, .data, .data, .sentinel, .sentinel], laidTests := true, laidLooks := .later }
def ClockBackUptoCardSaid : Prop := Claim7.holds Tryd.pinned (.plain (OpenSpec.upto clockBackSpec)) clockBackUptoCard

/-- THE SECOND FORM's CARD OF 'chimelaw3.MonthHolds'. -/
def monthHoldsUptoCard : Claim7 := { stood := { row := monthHoldsUptoRow, standIns := [], harness := (true, "8083070a4841c8da74fc2df8fe3855b980b2bd1df154638e53a49e84bc73d9e4"), looks := true }, kinds := [], alts := [], laidByText := true, laidKinds := [.data, .data, .data, .data, .handle, .sentinel, .sentinel], laidTests := true, laidLooks := .later }
def MonthHoldsUptoCardSaid : Prop := Claim7.holds Tryd.pinned (.plain (OpenSpec.upto monthHoldsSpec)) monthHoldsUptoCard
end Rows
end Go.Proofs.YtdkcgggnkhbkkaaDoor
