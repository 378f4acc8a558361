/- The law AlarmCounts, as its frame takes it. -/
import Derived.Test.YtkpmddlinlcobaaGreatDoorAlarmCounts
namespace Go.Proofs.YtkpmddlinlcobaaGreatDoor
open Go.RowKit Go.Shelf
set_option linter.unusedVariables false

theorem alarmCounts_law (st af : Int) (ae : Bool) (ar ab : Int) (w : World) (hw : Months w) (w0 : (Lit.int .i64 st).wf = true) (w1 : (Lit.int .i64 af).wf = true) (w2 : (Lit.int .i64 ar).wf = true) (w3 : (Lit.int .i64 ab).wf = true) :
    Calls Tryz.prog 7 #[.int .i64 st, .agg #[.int .i64 af, .bool ae, .int .i64 ar, .int .i64 ab]] w fun e w' => e = .returned (.bool true) ∧ Below w.heap.size w w' :=
  alarmCounts_any st af ae ar ab w hw w0

end Go.Proofs.YtkpmddlinlcobaaGreatDoor
