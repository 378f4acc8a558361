/-
  NARROWER THAN 'FOR EVERY INPUT', by the rows' own cells (each row's printed sentence says how): DayYears: laid · DayBack: laid · WeekYears: laid · WeekHolds: laid · DayTells: laid · PeriodHolds: laid · PeriodSteps: laid.
  DERIVED. THE GIVEN ROWS OF THIS SEAT. 7 by the template 'for every input the law returns true; each argument reads behind the call as it read before'; 0 by the template 'total and deterministic' (their statements: YtonoiaimknkpfaaDoorTotals.lean).
  GIVEN WITH THE SEED: the statements are not yours to turn. If you find one false, say at which input.
  Laid BY PROGRAM, IN A SANDBOX (cutbox-rows.mjs): the forced cells as the released guide's own fill.sh prints them over the translation 363e94a6516fbbad… (all of the seat's roots in one cut). By AI agents, Wed Nov 11 2026. No macro, syntax, notation, axiom, sorry.
-/
import Derived.Test.YtonoiaimknkpfaaDoorChecked
import GoSem.Claim
import GoSem.ClaimJoined
import GoSem.ClaimMapViews
import Derived.JoinedTies
import Derived.KernelRfl
namespace Go.Proofs.YtonoiaimknkpfaaDoor
/- THE CELL 'sum', in the pinned program and in every row, IS THE sha256 OF THE DUMP (.gsa) THAT YtonoiaimknkpfaaDoorProg.lean LOADS. Nothing in Lean hashes anything: it is a label: what it is worth is what the hold of that sum in a sandbox is worth. -/
noncomputable def Tryd.pinned : Pinned := { name := "ytonoiaimknkpfaadoor", sum := "363e94a6516fbbad9e96a437709b8a377608e22fd535037251f28c5601672ba6", checked := Tryd.checked }
namespace Rows
def none {H : Type} : Left H := { results := [], args := [] }

/- WHAT THE LISTED PACKAGE-LEVEL VARIABLES READ AS WHEN THE CALL BEGINS. Each datum BY PROGRAM (the guide's laid-datum.mjs) off the statement by which the dump's own 'gosem.cut.vars' lays the variable. In a bare row this is a premise. The card (YtonoiaimknkpfaaDoorCards.lean) ties it to the program's text. -/
def laid_chimework_day_months {H : Type} : DataW H := .agg [.lit (.int .i64 31), .lit (.int .i64 28), .lit (.int .i64 31), .lit (.int .i64 30), .lit (.int .i64 31), .lit (.int .i64 30), .lit (.int .i64 31), .lit (.int .i64 31), .lit (.int .i64 30), .lit (.int .i64 31), .lit (.int .i64 30), .lit (.int .i64 31)]
def laid_errors_errorType {H : Type} : DataW H := .iface "internal/reflectlite.rtype" (.agg [.ptr (.lit (.string [101, 114, 114, 111, 114]))])

/-- 'chimelaw4.DayYears': WHATEVER THE INPUT: true; the input reads as it did. -/
def dayYearsSpec : ChangeSpec := { name := "dayYears", fn := fun _ => fun
  | [d] => { results := [.lit (.bool true)], args := [d] }
  | _ => none }
def dayYearsRow : OpenClaim := { program := "ytonoiaimknkpfaadoor", sum := "363e94a6516fbbad9e96a437709b8a377608e22fd535037251f28c5601672ba6", func := "chimework/chimelaw4.DayYears", spec := "dayYears", unfollowed := true, recurses := true, named := ["chimework/day.months"], apart := false, laid := [("chimework/day.months", laid_chimework_day_months)] }
def DayYearsSaid : Prop := dayYearsRow.holds Tryd.pinned (OpenSpec.ofChange dayYearsSpec)

/-- ITS FALSE NEIGHBOUR: 'it returns false'. Refute it at one input. -/
def dayYearsWrong : ChangeSpec := { name := "dayYears", fn := fun _ => fun
  | [d] => { results := [.lit (.bool false)], args := [d] }
  | _ => none }
def DayYearsWrongFalsely : Prop := dayYearsRow.holds Tryd.pinned (OpenSpec.ofChange dayYearsWrong)

/-- 'chimelaw1.DayBack': WHATEVER THE INPUT: true; the input reads as it did. -/
def dayBackSpec : ChangeSpec := { name := "dayBack", fn := fun _ => fun
  | [d1, d2] => { results := [.lit (.bool true)], args := [d1, d2] }
  | _ => none }
def dayBackRow : OpenClaim := { program := "ytonoiaimknkpfaadoor", sum := "363e94a6516fbbad9e96a437709b8a377608e22fd535037251f28c5601672ba6", func := "chimework/chimelaw1.DayBack", spec := "dayBack", unfollowed := true, recurses := true, named := ["chimework/day.months"], apart := false, laid := [("chimework/day.months", laid_chimework_day_months)] }
def DayBackSaid : Prop := dayBackRow.holds Tryd.pinned (OpenSpec.ofChange dayBackSpec)

/-- ITS FALSE NEIGHBOUR: 'it returns false'. Refute it at one input. -/
def dayBackWrong : ChangeSpec := { name := "dayBack", fn := fun _ => fun
  | [d1, d2] => { results := [.lit (.bool false)], args := [d1, d2] }
  | _ => none }
def DayBackWrongFalsely : Prop := dayBackRow.holds Tryd.pinned (OpenSpec.ofChange dayBackWrong)

/-- 'chimelaw4.WeekYears': WHATEVER THE INPUT: true; the input reads as it did. -/
def weekYearsSpec : ChangeSpec := { name := "weekYears", fn := fun _ => fun
  | [d] => { results := [.lit (.bool true)], args := [d] }
  | _ => none }
def weekYearsRow : OpenClaim := { program := "ytonoiaimknkpfaadoor", sum := "363e94a6516fbbad9e96a437709b8a377608e22fd535037251f28c5601672ba6", func := "chimework/chimelaw4.WeekYears", spec := "weekYears", unfollowed := true, recurses := true, named := ["chimework/day.months"], apart := false, laid := [("chimework/day.months", laid_chimework_day_months)] }
def WeekYearsSaid : Prop := weekYearsRow.holds Tryd.pinned (OpenSpec.ofChange weekYearsSpec)

/-- ITS FALSE NEIGHBOUR: 'it returns false'. Refute it at one input. -/
def weekYearsWrong : ChangeSpec := { name := "weekYears", fn := fun _ => fun
  | [d] => { results := [.lit (.bool false)], args := [d] }
  | _ => none }
def WeekYearsWrongFalsely : Prop := weekYearsRow.holds Tryd.pinned (OpenSpec.ofChange weekYearsWrong)

/-- 'chimelaw1.WeekHolds': WHATEVER THE INPUT: true; the input reads as it did. -/
def weekHoldsSpec : ChangeSpec := { name := "weekHolds", fn := fun _ => fun
  | [d] => { results := [.lit (.bool true)], args := [d] }
  | _ => none }
def weekHoldsRow : OpenClaim := { program := "ytonoiaimknkpfaadoor", sum := "363e94a6516fbbad9e96a437709b8a377608e22fd535037251f28c5601672ba6", func := "chimework/chimelaw1.WeekHolds", spec := "weekHolds", unfollowed := true, recurses := true, named := ["chimework/day.months"], apart := false, laid := [("chimework/day.months", laid_chimework_day_months)] }
def WeekHoldsSaid : Prop := weekHoldsRow.holds Tryd.pinned (OpenSpec.ofChange weekHoldsSpec)

/-- ITS FALSE NEIGHBOUR: 'it returns false'. Refute it at one input. -/
def weekHoldsWrong : ChangeSpec := { name := "weekHolds", fn := fun _ => fun
  | [d] => { results := [.lit (.bool false)], args := [d] }
  | _ => none }
def WeekHoldsWrongFalsely : Prop := weekHoldsRow.holds Tryd.pinned (OpenSpec.ofChange weekHoldsWrong)

/-- 'chimelaw1.DayTells': WHATEVER THE INPUT: true; the input reads as it did. -/
def dayTellsSpec : ChangeSpec := { name := "dayTells", fn := fun _ => fun
  | [d1, d2] => { results := [.lit (.bool true)], args := [d1, d2] }
  | _ => none }
def dayTellsRow : OpenClaim := { program := "ytonoiaimknkpfaadoor", sum := "363e94a6516fbbad9e96a437709b8a377608e22fd535037251f28c5601672ba6", func := "chimework/chimelaw1.DayTells", spec := "dayTells", inPlace := ["internal/reflectlite.ValueOf", "(internal/reflectlite.Value).Type", "(internal/reflectlite.Value).IsNil", "internal/reflectlite.TypeOf", "(internal/reflectlite.Value).Elem", "(internal/reflectlite.Value).Set"], unfollowed := true, recurses := true, named := ["chimework/day.months", "errors.errorType"], apart := false, laid := [("chimework/day.months", laid_chimework_day_months), ("errors.errorType", laid_errors_errorType)] }
def DayTellsSaid : Prop := dayTellsRow.holds Tryd.pinned (OpenSpec.ofChange dayTellsSpec)

/-- ITS FALSE NEIGHBOUR: 'it returns false'. Refute it at one input. -/
def dayTellsWrong : ChangeSpec := { name := "dayTells", fn := fun _ => fun
  | [d1, d2] => { results := [.lit (.bool false)], args := [d1, d2] }
  | _ => none }
def DayTellsWrongFalsely : Prop := dayTellsRow.holds Tryd.pinned (OpenSpec.ofChange dayTellsWrong)

/-- 'chimelaw1.PeriodHolds': WHATEVER THE INPUT: true; the input reads as it did. -/
def periodHoldsSpec : ChangeSpec := { name := "periodHolds", fn := fun _ => fun
  | [d1, d2, d3] => { results := [.lit (.bool true)], args := [d1, d2, d3] }
  | _ => none }
def periodHoldsRow : OpenClaim := { program := "ytonoiaimknkpfaadoor", sum := "363e94a6516fbbad9e96a437709b8a377608e22fd535037251f28c5601672ba6", func := "chimework/chimelaw1.PeriodHolds", spec := "periodHolds", unfollowed := true, recurses := true, named := ["chimework/day.months"], apart := false, laid := [("chimework/day.months", laid_chimework_day_months)] }
def PeriodHoldsSaid : Prop := periodHoldsRow.holds Tryd.pinned (OpenSpec.ofChange periodHoldsSpec)

/-- ITS FALSE NEIGHBOUR: 'it returns false'. Refute it at one input. -/
def periodHoldsWrong : ChangeSpec := { name := "periodHolds", fn := fun _ => fun
  | [d1, d2, d3] => { results := [.lit (.bool false)], args := [d1, d2, d3] }
  | _ => none }
def PeriodHoldsWrongFalsely : Prop := periodHoldsRow.holds Tryd.pinned (OpenSpec.ofChange periodHoldsWrong)

/-- 'chimelaw4.PeriodSteps': WHATEVER THE INPUT: true; the input reads as it did. -/
def periodStepsSpec : ChangeSpec := { name := "periodSteps", fn := fun _ => fun
  | [d1, d2, d3, d4] => { results := [.lit (.bool true)], args := [d1, d2, d3, d4] }
  | _ => none }
def periodStepsRow : OpenClaim := { program := "ytonoiaimknkpfaadoor", sum := "363e94a6516fbbad9e96a437709b8a377608e22fd535037251f28c5601672ba6", func := "chimework/chimelaw4.PeriodSteps", spec := "periodSteps", unfollowed := true, recurses := true, named := ["chimework/day.months"], apart := false, laid := [("chimework/day.months", laid_chimework_day_months)] }
def PeriodStepsSaid : Prop := periodStepsRow.holds Tryd.pinned (OpenSpec.ofChange periodStepsSpec)

/-- ITS FALSE NEIGHBOUR: 'it returns false'. Refute it at one input. -/
def periodStepsWrong : ChangeSpec := { name := "periodSteps", fn := fun _ => fun
  | [d1, d2, d3, d4] => { results := [.lit (.bool false)], args := [d1, d2, d3, d4] }
  | _ => none }
def PeriodStepsWrongFalsely : Prop := periodStepsRow.holds Tryd.pinned (OpenSpec.ofChange periodStepsWrong)

/- THE SECOND FORM. 'bulk': how many values and letters a reading holds, each counted each time it is reached (what is shared counts as often as it is met; a slice's spare places count too). A statement '..UptoSaid' is the law's where the arguments, and the package variables that the reading takes, are together of bulk at most 1048576: NARROWER than '..Said'. Prove '..Said' where nothing that the law and all that it calls make is longer than what came in: it says more and counts as full. Else prove '..UptoSaid'. A law counts once. -/
mutual
def uptoBulk {H : Type} : DataW H → Nat
  | .lit (.string bytes) => bytes.length + 1
  | .lit _ => 1
  | .nil => 1
  | .ptr d => uptoBulk d + 1
  | .slice elems spare => uptoBulkAll elems + uptoBulkAll spare + 1
  | .agg parts => uptoBulkAll parts + 1
  | .iface _ d => uptoBulk d + 1
  | .map entries => uptoBulkEntries entries + 1
  | .held _ => 1
def uptoBulkAll {H : Type} : List (DataW H) → Nat
  | [] => 0
  | d :: r => uptoBulk d + uptoBulkAll r
def uptoBulkEntries {H : Type} : List (Lit × DataW H) → Nat
  | [] => 0
  | x :: r => uptoBulkEntry x + uptoBulkEntries r
def uptoBulkEntry {H : Type} : Lit × DataW H → Nat
  | (.string bytes, d) => bytes.length + uptoBulk d + 1
  | (_, d) => uptoBulk d + 1
 end
def uptoSmall : (H : Type) → List (DataW H) → Bool := fun _ ds => decide (uptoBulkAll ds ≤ 1048576)
def OpenSpec.upto (s : _root_.Go.ChangeSpec) : _root_.Go.OpenSpec := { _root_.Go.OpenSpec.ofChange s with cond := some uptoSmall }

/-- 'chimelaw4.DayYears', WHERE WHAT IT READS IS OF BULK AT MOST 1048576: true; the input reads as it did. -/
def dayYearsUptoRow : OpenClaim := { program := "ytonoiaimknkpfaadoor", sum := "363e94a6516fbbad9e96a437709b8a377608e22fd535037251f28c5601672ba6", func := "chimework/chimelaw4.DayYears", spec := "dayYears", unfollowed := true, recurses := true, named := ["chimework/day.months"], apart := false, laid := [("chimework/day.months", laid_chimework_day_months)], narrowed := true }
def DayYearsUptoSaid : Prop := dayYearsUptoRow.holds Tryd.pinned (OpenSpec.upto dayYearsSpec)

/-- 'chimelaw1.DayBack', WHERE WHAT IT READS IS OF BULK AT MOST 1048576: true; the input reads as it did. -/
def dayBackUptoRow : OpenClaim := { program := "ytonoiaimknkpfaadoor", sum := "363e94a6516fbbad9e96a437709b8a377608e22fd535037251f28c5601672ba6", func := "chimework/chimelaw1.DayBack", spec := "dayBack", unfollowed := true, recurses := true, named := ["chimework/day.months"], apart := false, laid := [("chimework/day.months", laid_chimework_day_months)], narrowed := true }
def DayBackUptoSaid : Prop := dayBackUptoRow.holds Tryd.pinned (OpenSpec.upto dayBackSpec)

/-- 'chimelaw4.WeekYears', WHERE WHAT IT READS IS OF BULK AT MOST 1048576: true; the input reads as it did. -/
def weekYearsUptoRow : OpenClaim := { program := "ytonoiaimknkpfaadoor", sum := "363e94a6516fbbad9e96a437709b8a377608e22fd535037251f28c5601672ba6", func := "chimework/chimelaw4.WeekYears", spec := "weekYears", unfollowed := true, recurses := true, named := ["chimework/day.months"], apart := false, laid := [("chimework/day.months", laid_chimework_day_months)], narrowed := true }
def WeekYearsUptoSaid : Prop := weekYearsUptoRow.holds Tryd.pinned (OpenSpec.upto weekYearsSpec)

/-- 'chimelaw1.WeekHolds', WHERE WHAT IT READS IS OF BULK AT MOST 1048576: true; the input reads as it did. -/
def weekHoldsUptoRow : OpenClaim := { program := "ytonoiaimknkpfaadoor", sum := "363e94a6516fbbad9e96a437709b8a377608e22fd535037251f28c5601672ba6", func := "chimework/chimelaw1.WeekHolds", spec := "weekHolds", unfollowed := true, recurses := true, named := ["chimework/day.months"], apart := false, laid := [("chimework/day.months", laid_chimework_day_months)], narrowed := true }
def WeekHoldsUptoSaid : Prop := weekHoldsUptoRow.holds Tryd.pinned (OpenSpec.upto weekHoldsSpec)

/-- 'chimelaw1.DayTells', WHERE WHAT IT READS IS OF BULK AT MOST 1048576: true; the input reads as it did. -/
def dayTellsUptoRow : OpenClaim := { program := "ytonoiaimknkpfaadoor", sum := "363e94a6516fbbad9e96a437709b8a377608e22fd535037251f28c5601672ba6", func := "chimework/chimelaw1.DayTells", spec := "dayTells", inPlace := ["internal/reflectlite.ValueOf", "(internal/reflectlite.Value).Type", "(internal/reflectlite.Value).IsNil", "internal/reflectlite.TypeOf", "(internal/reflectlite.Value).Elem", "(internal/reflectlite.Value).Set"], unfollowed := true, recurses := true, named := ["chimework/day.months", "errors.errorType"], apart := false, laid := [("chimework/day.months", laid_chimework_day_months), ("errors.errorType", laid_errors_errorType)], narrowed := true }
def DayTellsUptoSaid : Prop := dayTellsUptoRow.holds Tryd.pinned (OpenSpec.upto dayTellsSpec)

/-- 'chimelaw1.PeriodHolds', WHERE WHAT IT READS IS OF BULK AT MOST 1048576: true; the input reads as it did. -/
def periodHoldsUptoRow : OpenClaim := { program := "ytonoiaimknkpfaadoor", sum := "363e94a6516fbbad9e96a437709b8a377608e22fd535037251f28c5601672ba6", func := "chimework/chimelaw1.PeriodHolds", spec := "periodHolds", unfollowed := true, recurses := true, named := ["chimework/day.months"], apart := false, laid := [("chimework/day.months", laid_chimework_day_months)], narrowed := true }
def PeriodHoldsUptoSaid : Prop := periodHoldsUptoRow.holds Tryd.pinned (OpenSpec.upto periodHoldsSpec)

/-- 'chimelaw4.PeriodSteps', WHERE WHAT IT READS IS OF BULK AT MOST 1048576: true; the input reads as it did. -/
def periodStepsUptoRow : OpenClaim := { program := "ytonoiaimknkpfaadoor", sum := "363e94a6516fbbad9e96a437709b8a377608e22fd535037251f28c5601672ba6", func := "chimework/chimelaw4.PeriodSteps", spec := "periodSteps", unfollowed := true, recurses := true, named := ["chimework/day.months"], apart := false, laid := [("chimework/day.months", laid_chimework_day_months)], narrowed := true }
def PeriodStepsUptoSaid : Prop := periodStepsUptoRow.holds Tryd.pinned (OpenSpec.upto periodStepsSpec)

end Rows
end Go.Proofs.YtonoiaimknkpfaaDoor
