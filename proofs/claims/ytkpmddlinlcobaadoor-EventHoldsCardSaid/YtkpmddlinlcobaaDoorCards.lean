/-
  DERIVED. GIVEN WITH THE SEED: THE CARDS: each row of YtkpmddlinlcobaaDoorRows.lean that lists a variable, with what it lists TIED to the program's text (the seventh form; the later family's looks); each row that meets fmt, with fmt's text TOLD by the authors' own Lean function (tested against real Go, not proved from fmt's source: count such statements apart). THE CARD IS WHAT COUNTS. Prove the row's statement (the work); the ties are given (YtkpmddlinlcobaaDoorTie.lean); close each card by the builder's one call (the guide's Derived/Test/ToyasCard.lean, 'card_holds'). Laid BY PROGRAM, IN A SANDBOX (cutbox-door.mjs). By AI agents, Wed Nov 11 2026. No macro, syntax, notation, axiom, sorry.
-/
import Derived.Test.YtkpmddlinlcobaaDoorRows
import GoSem.ClaimSeven
namespace Go.Proofs.YtkpmddlinlcobaaDoor
namespace Rows

/-- THE TIED CARD OF 'chimelaw2.EventHolds'. -/
def eventHoldsCard : Claim7 := { stood := { row := eventHoldsRow, standIns := [], harness := (true, "9c7fae6018579485d0c19024b86597ae61a0219f2f9c85d4f6a6c82e0c8327d9"), looks := false }, kinds := [], alts := [], laidByText := true, laidKinds := [.data], laidTests := true, laidLooks := .later }
def EventHoldsCardSaid : Prop := Claim7.holds Tryd.pinned (.plain (OpenSpec.ofChange eventHoldsSpec)) eventHoldsCard

/-- THE SECOND FORM's CARD OF 'chimelaw2.EventHolds'. -/
def eventHoldsUptoCard : Claim7 := { stood := { row := eventHoldsUptoRow, standIns := [], harness := (true, "9c7fae6018579485d0c19024b86597ae61a0219f2f9c85d4f6a6c82e0c8327d9"), looks := false }, kinds := [], alts := [], laidByText := true, laidKinds := [.data], laidTests := true, laidLooks := .later }
def EventHoldsUptoCardSaid : Prop := Claim7.holds Tryd.pinned (.plain (OpenSpec.upto eventHoldsSpec)) eventHoldsUptoCard
end Rows
end Go.Proofs.YtkpmddlinlcobaaDoor
