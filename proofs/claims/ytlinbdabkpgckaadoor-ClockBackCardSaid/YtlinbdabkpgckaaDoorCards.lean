/-
  DERIVED. GIVEN WITH THE SEED: THE CARDS: each row of YtlinbdabkpgckaaDoorRows.lean that lists a variable, with what it lists TIED to the program's text (the seventh form; the later family's looks); each row that meets fmt, with fmt's text TOLD by the authors' own Lean function (tested against real Go, not proved from fmt's source: count such statements apart). THE CARD IS WHAT COUNTS. Prove the row's statement (the work); the ties are given (YtlinbdabkpgckaaDoorTie.lean); close each card by the builder's one call (the guide's Derived/Test/ToyasCard.lean, 'card_holds'). Laid BY PROGRAM, IN A SANDBOX (cutbox-door.mjs). By AI agents, Wed Nov 11 2026. No macro, syntax, notation, axiom, sorry.
-/
import Derived.Test.YtlinbdabkpgckaaDoorRows
import GoSem.ClaimSeven
namespace Go.Proofs.YtlinbdabkpgckaaDoor
namespace Rows

/-- THE TIED CARD OF 'chimelaw2.QueueSorts'. -/
def queueSortsCard : Claim7 := { stood := { row := queueSortsRow, standIns := [], harness := (true, "d3abbbaa94d65f5d4947a8c97795dd37ab4c0662434aeefa3e9a5899f31ebcdd"), looks := true }, kinds := [], alts := [], laidByText := true, laidKinds := [.handle], laidTests := true, laidLooks := .later }
def QueueSortsCardSaid : Prop := Claim7.holds Tryd.pinned (.plain (OpenSpec.ofChange queueSortsSpec)) queueSortsCard

/-- THE TIED CARD OF 'chimelaw2.WheelPlays'. -/
def wheelPlaysCard : Claim7 := { stood := { row := wheelPlaysRow, standIns := [], harness := (true, "d3abbbaa94d65f5d4947a8c97795dd37ab4c0662434aeefa3e9a5899f31ebcdd"), looks := true }, kinds := [], alts := [], laidByText := true, laidKinds := [.handle], laidTests := true, laidLooks := .later }
def WheelPlaysCardSaid : Prop := Claim7.holds Tryd.pinned (.plain (OpenSpec.ofChange wheelPlaysSpec)) wheelPlaysCard

/-- THE TIED CARD OF 'chimelaw2.QueuePlays'. -/
def queuePlaysCard : Claim7 := { stood := { row := queuePlaysRow, standIns := [], harness := (true, "d3abbbaa94d65f5d4947a8c97795dd37ab4c0662434aeefa3e9a5899f31ebcdd"), looks := true }, kinds := [], alts := [], laidByText := true, laidKinds := [.handle], laidTests := true, laidLooks := .later }
def QueuePlaysCardSaid : Prop := Claim7.holds Tryd.pinned (.plain (OpenSpec.ofChange queuePlaysSpec)) queuePlaysCard

/-- THE TIED CARD OF 'chimelaw1.ClockBack'. -/
def clockBackCard : Claim7 := { stood := { row := clockBackRow, standIns := [], harness := (true, "d3abbbaa94d65f5d4947a8c97795dd37ab4c0662434aeefa3e9a5899f31ebcdd"), looks := true }, kinds := [], alts := [], laidByText := true, laidKinds := [.data, .data, .data, .data, .sentinel, .sentinel], laidTests := true, laidLooks := .later }
def ClockBackCardSaid : Prop := Claim7.holds Tryd.pinned (.plain (OpenSpec.ofChange clockBackSpec)) clockBackCard

/-- THE SECOND FORM's CARD OF 'chimelaw2.QueueSorts'. -/
def queueSortsUptoCard : Claim7 := { stood := { row := queueSortsUptoRow, standIns := [], harness := (true, "d3abbbaa94d65f5d4947a8c97795dd37ab4c0662434aeefa3e9a5899f31ebcdd"), looks := true }, kinds := [], alts := [], laidByText := true, laidKinds := [.handle], laidTests := true, laidLooks := .later }
def QueueSortsUptoCardSaid : Prop := Claim7.holds Tryd.pinned (.plain (OpenSpec.upto queueSortsSpec)) queueSortsUptoCard

/-- THE SECOND FORM's CARD OF 'chimelaw2.WheelPlays'. -/
def wheelPlaysUptoCard : Claim7 := { stood := { row := wheelPlaysUptoRow, standIns := [], harness := (true, "d3abbbaa94d65f5d4947a8c97795dd37ab4c0662434aeefa3e9a5899f31ebcdd"), looks := true }, kinds := [], alts := [], laidByText := true, laidKinds := [.handle], laidTests := true, laidLooks := .later }
def WheelPlaysUptoCardSaid : Prop := Claim7.holds Tryd.pinned (.plain (OpenSpec.upto wheelPlaysSpec)) wheelPlaysUptoCard

/-- THE SECOND FORM's CARD OF 'chimelaw2.QueuePlays'. -/
def queuePlaysUptoCard : Claim7 := { stood := { row := queuePlaysUptoRow, standIns := [], harness := (true, "d3abbbaa94d65f5d4947a8c97795dd37ab4c0662434aeefa3e9a5899f31ebcdd"), looks := true }, kinds := [], alts := [], laidByText := true, laidKinds := [.handle], laidTests := true, laidLooks := .later }
def QueuePlaysUptoCardSaid : Prop := Claim7.holds Tryd.pinned (.plain (OpenSpec.upto queuePlaysSpec)) queuePlaysUptoCard

/-- THE SECOND FORM's CARD OF 'chimelaw1.ClockBack'. -/
def clockBackUptoCard : Claim7 := { stood := { row := clockBackUptoRow, standIns := [], harness := (true, "d3abbbaa94d65f5d4947a8c97795dd37ab4c0662434aeefa3e9a5899f31ebcdd"), looks := true }, kinds := [], alts := [], laidByText := true, laidKinds := [.data, .data, .data, .data, .sentinel, .sentinel], laidTests := true, laidLooks := .later }
def ClockBackUptoCardSaid : Prop := Claim7.holds Tryd.pinned (.plain (OpenSpec.upto clockBackSpec)) clockBackUptoCard
end Rows
end Go.Proofs.YtlinbdabkpgckaaDoor
