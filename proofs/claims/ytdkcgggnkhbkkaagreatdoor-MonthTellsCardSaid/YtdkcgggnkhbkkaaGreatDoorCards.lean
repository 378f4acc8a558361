/-
  DERIVED. GIVEN WITH THE SEED: THE CARDS: each row of YtdkcgggnkhbkkaaGreatDoorRows.lean that lists a variable, with what it lists TIED to the program's text (the seventh form; the later family's looks); each row that meets fmt, with fmt's text TOLD by the authors' own Lean function (tested against real Go, not proved from fmt's source: count such statements apart). THE CARD IS WHAT COUNTS. Prove the row's statement (the work); the ties are given (YtdkcgggnkhbkkaaGreatDoorTie.lean); close each card by the builder's one call (the guide's Derived/Test/ToyasCard.lean, 'card_holds'). Laid BY PROGRAM, IN A SANDBOX (cutbox-door.mjs). By AI agents, Wed Nov 11 2026. No macro, syntax, notation, axiom, sorry.
-/
import Derived.Test.YtdkcgggnkhbkkaaGreatDoorRows
import GoSem.ClaimSeven
namespace Go.Proofs.YtdkcgggnkhbkkaaGreatDoor
namespace Rows

/-- THE TIED CARD OF 'chimelaw2.EventTells'. -/
def eventTellsCard : Claim7 := { stood := { row := eventTellsRow, standIns := [], harness := (true, "5578aca0d0f953e085f89e7a64313cde731151f6531d49dd2ace007a74c7bada"), looks := true }, kinds := [], alts := [], laidByText := true, laidKinds := [.data, .handle], laidTests := true, laidLooks := .later }
def EventTellsCardSaid : Prop := Claim7.holds Tryz.pinned (.plain (OpenSpec.ofChange eventTellsSpec)) eventTellsCard

/-- THE TIED CARD OF 'chimelaw1.ClockTells'. -/
def clockTellsCard : Claim7 := { stood := { row := clockTellsRow, standIns := [], harness := (true, "5578aca0d0f953e085f89e7a64313cde731151f6531d49dd2ace007a74c7bada"), looks := true }, kinds := [], alts := [], laidByText := true, laidKinds := [.data, .data, .data, .data, .handle, .sentinel, .sentinel], laidTests := true, laidLooks := .later }
def ClockTellsCardSaid : Prop := Claim7.holds Tryz.pinned (.plain (OpenSpec.ofChange clockTellsSpec)) clockTellsCard

/-- THE TIED CARD OF 'chimelaw3.MonthTells'. -/
def monthTellsCard : Claim7 := { stood := { row := monthTellsRow, standIns := [], harness := (true, "5578aca0d0f953e085f89e7a64313cde731151f6531d49dd2ace007a74c7bada"), looks := true }, kinds := [], alts := [], laidByText := true, laidKinds := [.data, .data, .data, .data, .handle, .sentinel, .sentinel], laidTests := true, laidLooks := .later }
def MonthTellsCardSaid : Prop := Claim7.holds Tryz.pinned (.plain (OpenSpec.ofChange monthTellsSpec)) monthTellsCard

/-- THE SECOND FORM's CARD OF 'chimelaw2.EventTells'. -/
def eventTellsUptoCard : Claim7 := { stood := { row := eventTellsUptoRow, standIns := [], harness := (true, "5578aca0d0f953e085f89e7a64313cde731151f6531d49dd2ace007a74c7bada"), looks := true }, kinds := [], alts := [], laidByText := true, laidKinds := [.data, .handle], laidTests := true, laidLooks := .later }
def EventTellsUptoCardSaid : Prop := Claim7.holds Tryz.pinned (.plain (OpenSpec.upto eventTellsSpec)) eventTellsUptoCard

/-- THE SECOND FORM's CARD OF 'chimelaw1.ClockTells'. -/
def clockTellsUptoCard : Claim7 := { stood := { row := clockTellsUptoRow, standIns := [], harness := (true, "5578aca0d0f953e085f89e7a64313cde731151f6531d49dd2ace007a74c7bada"), looks := true }, kinds := [], alts := [], laidByText := true, laidKinds := [.data, .data, .data, .data, .handle, .sentinel, .sentinel], laidTests := true, laidLooks := .later }
def ClockTellsUptoCardSaid : Prop := Claim7.holds Tryz.pinned (.plain (OpenSpec.upto clockTellsSpec)) clockTellsUptoCard

/-- THE SECOND FORM's CARD OF 'chimelaw3.MonthTells'. -/
def monthTellsUptoCard : Claim7 := { stood := { row := monthTellsUptoRow, standIns := [], harness := (true, "5578aca0d0f953e085f89e7a64313cde731151f6531d49dd2ace007a74c7bada"), looks := true }, kinds := [], alts := [], laidByText := true, laidKinds := [.data, .data, .data, .data, .handle, .sentinel, .sentinel], laidTests := true, laidLooks := .later }
def MonthTellsUptoCardSaid : Prop := Claim7.holds Tryz.pinned (.plain (OpenSpec.upto monthTellsSpec)) monthTellsUptoCard
end Rows
end Go.Proofs.YtdkcgggnkhbkkaaGreatDoor
