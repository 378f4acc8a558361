/- times.Next: its contract. Conditions: texts and lists of a size that any machine's are. -/
import Derived.Test.YtgelojhpanbnaaaGreatDoorTimH
namespace Go.Proofs.YtgelojhpanbnaaaGreatDoor
open Go.RowKit Go.Shelf
set_option linter.unusedSimpArgs false
set_option linter.unusedVariables false

/-- the fault of a next time. -/
def nextE (F ZF a : Int) (L : List (Int × Int)) : Int := if readyE F ZF ≠ 0 then readyE F ZF else if timeB a = false then 1 else if L = [] then 5 else 0

/-- .. the time that is told. -/
def nextT (ln E : Int) (L : List (Int × Int)) : Value := if E = 0 then (match L with
  | [] => .agg #[.int .i64 0, .int .i64 0, .int .i64 0]
  | x :: _ => .agg #[.int .i64 x.1, .int .i64 x.2, .int .i64 (x.2 + ln)]) else .agg #[.int .i64 0, .int .i64 0, .int .i64 0]

theorem nextT_no {ln E : Int} {L : List (Int × Int)} (h : E ≠ 0) : nextT ln E L = .agg #[.int .i64 0, .int .i64 0, .int .i64 0] := by
  unfold nextT; rw [if_neg h]

end Go.Proofs.YtgelojhpanbnaaaGreatDoor
