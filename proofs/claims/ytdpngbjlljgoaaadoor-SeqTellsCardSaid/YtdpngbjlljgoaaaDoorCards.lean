/-
  DERIVED. GIVEN WITH THE SEED: THE CARDS: each row of YtdpngbjlljgoaaaDoorRows.lean that lists a variable, with what it lists TIED to the program's text (the seventh form; the later family's looks); each row that meets fmt, with fmt's text TOLD by the authors' own Lean function (tested against real Go, not proved from fmt's source: count such statements apart). THE CARD IS WHAT COUNTS. Prove the row's statement (the work); the ties are given (YtdpngbjlljgoaaaDoorTie.lean); close each card by the builder's one call (the guide's Derived/Test/ToyasCard.lean, 'card_holds'). Laid BY PROGRAM, IN A SANDBOX (cutbox-door.mjs). By AI agents, Wed Nov 11 2026. No macro, syntax, notation, axiom, sorry.
-/
import Derived.Test.YtdpngbjlljgoaaaDoorRows
import GoSem.ClaimSeven
namespace Go.Proofs.YtdpngbjlljgoaaaDoor
namespace Rows

/-- THE TIED CARD OF 'chimelaw1.SeqHolds'. -/
def seqHoldsCard : Claim7 := { stood := { row := seqHoldsRow, standIns := [], harness := (true, "2975d11248b2899ea2de051317f52c34c946acd9d959eab4ae1cdea97b29f9b9"), looks := true }, kinds := [], alts := [], laidByText := true, laidKinds := [.data], laidTests := true, laidLooks := .later }
def SeqHoldsCardSaid : Prop := Claim7.holds Tryd.pinned (.plain (OpenSpec.ofChange seqHoldsSpec)) seqHoldsCard

/-- THE TIED CARD OF 'chimelaw1.SeqTells'. -/
def seqTellsCard : Claim7 := { stood := { row := seqTellsRow, standIns := [], harness := (true, "2975d11248b2899ea2de051317f52c34c946acd9d959eab4ae1cdea97b29f9b9"), looks := true }, kinds := [], alts := [], laidByText := true, laidKinds := [.data, .handle], laidTests := true, laidLooks := .later }
def SeqTellsCardSaid : Prop := Claim7.holds Tryd.pinned (.plain (OpenSpec.ofChange seqTellsSpec)) seqTellsCard

/-- THE TIED CARD OF 'chimelaw2.LineTells'. -/
def lineTellsCard : Claim7 := { stood := { row := lineTellsRow, standIns := [], harness := (true, "2975d11248b2899ea2de051317f52c34c946acd9d959eab4ae1cdea97b29f9b9"), looks := true }, kinds := [], alts := [], laidByText := true, laidKinds := [.handle], laidTests := true, laidLooks := .later }
def LineTellsCardSaid : Prop := Claim7.holds Tryd.pinned (.plain (OpenSpec.ofChange lineTellsSpec)) lineTellsCard

/-- THE TIED CARD OF 'chimelaw4.MonthRows'. -/
def monthRowsCard : Claim7 := { stood := { row := monthRowsRow, standIns := [], harness := (true, "2975d11248b2899ea2de051317f52c34c946acd9d959eab4ae1cdea97b29f9b9"), looks := true }, kinds := [], alts := [], laidByText := true, laidKinds := [.data, .data, .data, .data], laidTests := true, laidLooks := .later }
def MonthRowsCardSaid : Prop := Claim7.holds Tryd.pinned (.plain (OpenSpec.ofChange monthRowsSpec)) monthRowsCard

/-- THE TIED CARD OF 'chimelaw2.QueueSorts'. -/
def queueSortsCard : Claim7 := { stood := { row := queueSortsRow, standIns := [], harness := (true, "2975d11248b2899ea2de051317f52c34c946acd9d959eab4ae1cdea97b29f9b9"), looks := true }, kinds := [], alts := [], laidByText := true, laidKinds := [.handle], laidTests := true, laidLooks := .later }
def QueueSortsCardSaid : Prop := Claim7.holds Tryd.pinned (.plain (OpenSpec.ofChange queueSortsSpec)) queueSortsCard

/-- THE TIED CARD OF 'chimelaw2.BusyTells'. -/
def busyTellsCard : Claim7 := { stood := { row := busyTellsRow, standIns := [], harness := (true, "2975d11248b2899ea2de051317f52c34c946acd9d959eab4ae1cdea97b29f9b9"), looks := true }, kinds := [], alts := [], laidByText := true, laidKinds := [.handle], laidTests := true, laidLooks := .later }
def BusyTellsCardSaid : Prop := Claim7.holds Tryd.pinned (.plain (OpenSpec.ofChange busyTellsSpec)) busyTellsCard

/-- THE TIED CARD OF 'chimelaw2.QueuePlays'. -/
def queuePlaysCard : Claim7 := { stood := { row := queuePlaysRow, standIns := [], harness := (true, "2975d11248b2899ea2de051317f52c34c946acd9d959eab4ae1cdea97b29f9b9"), looks := true }, kinds := [], alts := [], laidByText := true, laidKinds := [.handle], laidTests := true, laidLooks := .later }
def QueuePlaysCardSaid : Prop := Claim7.holds Tryd.pinned (.plain (OpenSpec.ofChange queuePlaysSpec)) queuePlaysCard

/-- THE TIED CARD OF 'chimelaw2.WheelPlays'. -/
def wheelPlaysCard : Claim7 := { stood := { row := wheelPlaysRow, standIns := [], harness := (true, "2975d11248b2899ea2de051317f52c34c946acd9d959eab4ae1cdea97b29f9b9"), looks := true }, kinds := [], alts := [], laidByText := true, laidKinds := [.handle], laidTests := true, laidLooks := .later }
def WheelPlaysCardSaid : Prop := Claim7.holds Tryd.pinned (.plain (OpenSpec.ofChange wheelPlaysSpec)) wheelPlaysCard

/-- THE SECOND FORM's CARD OF 'chimelaw1.SeqHolds'. -/
def seqHoldsUptoCard : Claim7 := { stood := { row := seqHoldsUptoRow, standIns := [], harness := (true, "2975d11248b2899ea2de051317f52c34c946acd9d959eab4ae1cdea97b29f9b9"), looks := true }, kinds := [], alts := [], laidByText := true, laidKinds := [.data], laidTests := true, laidLooks := .later }
def SeqHoldsUptoCardSaid : Prop := Claim7.holds Tryd.pinned (.plain (OpenSpec.upto seqHoldsSpec)) seqHoldsUptoCard

/-- THE SECOND FORM's CARD OF 'chimelaw1.SeqTells'. -/
def seqTellsUptoCard : Claim7 := { stood := { row := seqTellsUptoRow, standIns := [], harness := (true, "2975d11248b2899ea2de051317f52c34c946acd9d959eab4ae1cdea97b29f9b9"), looks := true }, kinds := [], alts := [], laidByText := true, laidKinds := [.data, .handle], laidTests := true, laidLooks := .later }
def SeqTellsUptoCardSaid : Prop := Claim7.holds Tryd.pinned (.plain (OpenSpec.upto seqTellsSpec)) seqTellsUptoCard

/-- THE SECOND FORM's CARD OF 'chimelaw2.LineTells'. -/
def lineTellsUptoCard : Claim7 := { stood := { row := lineTellsUptoRow, standIns := [], harness := (true, "2975d11248b2899ea2de051317f52c34c946acd9d959eab4ae1cdea97b29f9b9"), looks := true }, kinds := [], alts := [], laidByText := true, laidKinds := [.handle], laidTests := true, laidLooks := .later }
def LineTellsUptoCardSaid : Prop := Claim7.holds Tryd.pinned (.plain (OpenSpec.upto lineTellsSpec)) lineTellsUptoCard

/-- THE SECOND FORM's CARD OF 'chimelaw4.MonthRows'. -/
def monthRowsUptoCard : Claim7 := { stood := { row := monthRowsUptoRow, standIns := [], harness := (true, "2975d11248b2899ea2de051317f52c34c946acd9d959eab4ae1cdea97b29f9b9"), looks := true }, kinds := [], alts := [], laidByText := true, laidKinds := [.data, .data, .data, .data], laidTests := true, laidLooks := .later }
def MonthRowsUptoCardSaid : Prop := Claim7.holds Tryd.pinned (.plain (OpenSpec.upto monthRowsSpec)) monthRowsUptoCard

/-- THE SECOND FORM's CARD OF 'chimelaw2.QueueSorts'. -/
def queueSortsUptoCard : Claim7 := { stood := { row := queueSortsUptoRow, standIns := [], harness := (true, "2975d11248b2899ea2de051317f52c34c946acd9d959eab4ae1cdea97b29f9b9"), looks := true }, kinds := [], alts := [], laidByText := true, laidKinds := [.handle], laidTests := true, laidLooks := .later }
def QueueSortsUptoCardSaid : Prop := Claim7.holds Tryd.pinned (.plain (OpenSpec.upto queueSortsSpec)) queueSortsUptoCard

/-- THE SECOND FORM's CARD OF 'chimelaw2.BusyTells'. -/
def busyTellsUptoCard : Claim7 := { stood := { row := busyTellsUptoRow, standIns := [], harness := (true, "2975d11248b2899ea2de051317f52c34c946acd9d959eab4ae1cdea97b29f9b9"), looks := true }, kinds := [], alts := [], laidByText := true, laidKinds := [.handle], laidTests := true, laidLooks := .later }
def BusyTellsUptoCardSaid : Prop := Claim7.holds Tryd.pinned (.plain (OpenSpec.upto busyTellsSpec)) busyTellsUptoCard

/-- THE SECOND FORM's CARD OF 'chimelaw2.QueuePlays'. -/
def queuePlaysUptoCard : Claim7 := { stood := { row := queuePlaysUptoRow, standIns := [], harness := (true, "2975d11248b2899ea2de051317f52c34c946acd9d959eab4ae1cdea97b29f9b9"), looks := true }, kinds := [], alts := [], laidByText := true, laidKinds := [.handle], laidTests := true, laidLooks := .later }
def QueuePlaysUptoCardSaid : Prop := Claim7.holds Tryd.pinned (.plain (OpenSpec.upto queuePlaysSpec)) queuePlaysUptoCard

/-- THE SECOND FORM's CARD OF 'chimelaw2.WheelPlays'. -/
def wheelPlaysUptoCard : Claim7 := { stood := { row := wheelPlaysUptoRow, standIns := [], harness := (true, "2975d11248b2899ea2de051317f52c34c946acd9d959eab4ae1cdea97b29f9b9"), looks := true }, kinds := [], alts := [], laidByText := true, laidKinds := [.handle], laidTests := true, laidLooks := .later }
def WheelPlaysUptoCardSaid : Prop := Claim7.holds Tryd.pinned (.plain (OpenSpec.upto wheelPlaysSpec)) wheelPlaysUptoCard
end Rows
end Go.Proofs.YtdpngbjlljgoaaaDoor
