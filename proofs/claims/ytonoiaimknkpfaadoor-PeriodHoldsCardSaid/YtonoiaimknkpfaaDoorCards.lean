/-
  DERIVED. GIVEN WITH THE SEED: THE CARDS: each row of YtonoiaimknkpfaaDoorRows.lean that lists a variable, with what it lists TIED to the program's text (the seventh form; the later family's looks); each row that meets fmt, with fmt's text TOLD by the authors' own Lean function (tested against real Go, not proved from fmt's source: count such statements apart). THE CARD IS WHAT COUNTS. Prove the row's statement (the work); the ties are given (YtonoiaimknkpfaaDoorTie.lean); close each card by the builder's one call (the guide's Derived/Test/ToyasCard.lean, 'card_holds'). Laid BY PROGRAM, IN A SANDBOX (cutbox-door.mjs). By AI agents, Wed Nov 11 2026. No macro, syntax, notation, axiom, sorry.
-/
import Derived.Test.YtonoiaimknkpfaaDoorRows
import GoSem.ClaimSeven
namespace Go.Proofs.YtonoiaimknkpfaaDoor
namespace Rows

/-- THE TIED CARD OF 'chimelaw4.DayYears'. -/
def dayYearsCard : Claim7 := { stood := { row := dayYearsRow, standIns := [], harness := (true, "de161f32fb9b51eade339f33c6c5e6ef3f0c5506cf1b30b9a340e818006acd63"), looks := true }, kinds := [], alts := [], laidByText := true, laidKinds := [.data], laidTests := true, laidLooks := .later }
def DayYearsCardSaid : Prop := Claim7.holds Tryd.pinned (.plain (OpenSpec.ofChange dayYearsSpec)) dayYearsCard

/-- THE TIED CARD OF 'chimelaw1.DayBack'. -/
def dayBackCard : Claim7 := { stood := { row := dayBackRow, standIns := [], harness := (true, "de161f32fb9b51eade339f33c6c5e6ef3f0c5506cf1b30b9a340e818006acd63"), looks := true }, kinds := [], alts := [], laidByText := true, laidKinds := [.data], laidTests := true, laidLooks := .later }
def DayBackCardSaid : Prop := Claim7.holds Tryd.pinned (.plain (OpenSpec.ofChange dayBackSpec)) dayBackCard

/-- THE TIED CARD OF 'chimelaw4.WeekYears'. -/
def weekYearsCard : Claim7 := { stood := { row := weekYearsRow, standIns := [], harness := (true, "de161f32fb9b51eade339f33c6c5e6ef3f0c5506cf1b30b9a340e818006acd63"), looks := true }, kinds := [], alts := [], laidByText := true, laidKinds := [.data], laidTests := true, laidLooks := .later }
def WeekYearsCardSaid : Prop := Claim7.holds Tryd.pinned (.plain (OpenSpec.ofChange weekYearsSpec)) weekYearsCard

/-- THE TIED CARD OF 'chimelaw1.WeekHolds'. -/
def weekHoldsCard : Claim7 := { stood := { row := weekHoldsRow, standIns := [], harness := (true, "de161f32fb9b51eade339f33c6c5e6ef3f0c5506cf1b30b9a340e818006acd63"), looks := true }, kinds := [], alts := [], laidByText := true, laidKinds := [.data], laidTests := true, laidLooks := .later }
def WeekHoldsCardSaid : Prop := Claim7.holds Tryd.pinned (.plain (OpenSpec.ofChange weekHoldsSpec)) weekHoldsCard

/-- THE TIED CARD OF 'chimelaw1.DayTells'. -/
def dayTellsCard : Claim7 := { stood := { row := dayTellsRow, standIns := [], harness := (true, "de161f32fb9b51eade339f33c6c5e6ef3f0c5506cf1b30b9a340e818006acd63"), looks := true }, kinds := [], alts := [], laidByText := true, laidKinds := [.data, .handle], laidTests := true, laidLooks := .later }
def DayTellsCardSaid : Prop := Claim7.holds Tryd.pinned (.plain (OpenSpec.ofChange dayTellsSpec)) dayTellsCard

/-- THE TIED CARD OF 'chimelaw1.PeriodHolds'. -/
def periodHoldsCard : Claim7 := { stood := { row := periodHoldsRow, standIns := [], harness := (true, "de161f32fb9b51eade339f33c6c5e6ef3f0c5506cf1b30b9a340e818006acd63"), looks := true }, kinds := [], alts := [], laidByText := true, laidKinds := [.data], laidTests := true, laidLooks := .later }
def PeriodHoldsCardSaid : Prop := Claim7.holds Tryd.pinned (.plain (OpenSpec.ofChange periodHoldsSpec)) periodHoldsCard

/-- THE TIED CARD OF 'chimelaw4.PeriodSteps'. -/
def periodStepsCard : Claim7 := { stood := { row := periodStepsRow, standIns := [], harness := (true, "de161f32fb9b51eade339f33c6c5e6ef3f0c5506cf1b30b9a340e818006acd63"), looks := true }, kinds := [], alts := [], laidByText := true, laidKinds := [.data], laidTests := true, laidLooks := .later }
def PeriodStepsCardSaid : Prop := Claim7.holds Tryd.pinned (.plain (OpenSpec.ofChange periodStepsSpec)) periodStepsCard

/-- THE SECOND FORM's CARD OF 'chimelaw4.DayYears'. -/
def dayYearsUptoCard : Claim7 := { stood := { row := dayYearsUptoRow, standIns := [], harness := (true, "de161f32fb9b51eade339f33c6c5e6ef3f0c5506cf1b30b9a340e818006acd63"), looks := true }, kinds := [], alts := [], laidByText := true, laidKinds := [.data], laidTests := true, laidLooks := .later }
def DayYearsUptoCardSaid : Prop := Claim7.holds Tryd.pinned (.plain (OpenSpec.upto dayYearsSpec)) dayYearsUptoCard

/-- THE SECOND FORM's CARD OF 'chimelaw1.DayBack'. -/
def dayBackUptoCard : Claim7 := { stood := { row := dayBackUptoRow, standIns := [], harness := (true, "de161f32fb9b51eade339f33c6c5e6ef3f0c5506cf1b30b9a340e818006acd63"), looks := true }, kinds := [], alts := [], laidByText := true, laidKinds := [.data], laidTests := true, laidLooks := .later }
def DayBackUptoCardSaid : Prop := Claim7.holds Tryd.pinned (.plain (OpenSpec.upto dayBackSpec)) dayBackUptoCard

/-- THE SECOND FORM's CARD OF 'chimelaw4.WeekYears'. -/
def weekYearsUptoCard : Claim7 := { stood := { row := weekYearsUptoRow, standIns := [], harness := (true, "de161f32fb9b51eade339f33c6c5e6ef3f0c5506cf1b30b9a340e818006acd63"), looks := true }, kinds := [], alts := [], laidByText := true, laidKinds := [.data], laidTests := true, laidLooks := .later }
def WeekYearsUptoCardSaid : Prop := Claim7.holds Tryd.pinned (.plain (OpenSpec.upto weekYearsSpec)) weekYearsUptoCard

/-- THE SECOND FORM's CARD OF 'chimelaw1.WeekHolds'. -/
def weekHoldsUptoCard : Claim7 := { stood := { row := weekHoldsUptoRow, standIns := [], harness := (true, "de161f32fb9b51eade339f33c6c5e6ef3f0c5506cf1b30b9a340e818006acd63"), looks := true }, kinds := [], alts := [], laidByText := true, laidKinds := [.data], laidTests := true, laidLooks := .later }
def WeekHoldsUptoCardSaid : Prop := Claim7.holds Tryd.pinned (.plain (OpenSpec.upto weekHoldsSpec)) weekHoldsUptoCard

/-- THE SECOND FORM's CARD OF 'chimelaw1.DayTells'. -/
def dayTellsUptoCard : Claim7 := { stood := { row := dayTellsUptoRow, standIns := [], harness := (true, "de161f32fb9b51eade339f33c6c5e6ef3f0c5506cf1b30b9a340e818006acd63"), looks := true }, kinds := [], alts := [], laidByText := true, laidKinds := [.data, .handle], laidTests := true, laidLooks := .later }
def DayTellsUptoCardSaid : Prop := Claim7.holds Tryd.pinned (.plain (OpenSpec.upto dayTellsSpec)) dayTellsUptoCard

/-- THE SECOND FORM's CARD OF 'chimelaw1.PeriodHolds'. -/
def periodHoldsUptoCard : Claim7 := { stood := { row := periodHoldsUptoRow, standIns := [], harness := (true, "de161f32fb9b51eade339f33c6c5e6ef3f0c5506cf1b30b9a340e818006acd63"), looks := true }, kinds := [], alts := [], laidByText := true, laidKinds := [.data], laidTests := true, laidLooks := .later }
def PeriodHoldsUptoCardSaid : Prop := Claim7.holds Tryd.pinned (.plain (OpenSpec.upto periodHoldsSpec)) periodHoldsUptoCard

/-- THE SECOND FORM's CARD OF 'chimelaw4.PeriodSteps'. -/
def periodStepsUptoCard : Claim7 := { stood := { row := periodStepsUptoRow, standIns := [], harness := (true, "de161f32fb9b51eade339f33c6c5e6ef3f0c5506cf1b30b9a340e818006acd63"), looks := true }, kinds := [], alts := [], laidByText := true, laidKinds := [.data], laidTests := true, laidLooks := .later }
def PeriodStepsUptoCardSaid : Prop := Claim7.holds Tryd.pinned (.plain (OpenSpec.upto periodStepsSpec)) periodStepsUptoCard
end Rows
end Go.Proofs.YtonoiaimknkpfaaDoor
