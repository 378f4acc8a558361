/- The law AlarmHolds: closed facts of its row. No condition. -/
import Derived.Test.YtkpmddlinlcobaaGreatDoorAllF
import Derived.SevenTiedAt
import Derived.WalkKit
import Derived.ProofKit
import Derived.OpenShut
import Derived.ShutString
import Derived.ChangeOld
import Derived.Below
import Derived.Deep.DeepHandedRow
import Derived.Shelf.Vars
import Derived.Lib.SmallJoins
namespace Go.Proofs.YtkpmddlinlcobaaGreatDoor.lawAlarmHolds
open Go.ChangeShapes Go.WideShapes Go.ChangeAt Go.RowKit
open Go.ChangeMaps (open_string shut_string)
open Go.Joins
set_option linter.unusedVariables false
theorem rowPlace : (Rows.alarmHoldsRow.inPlace == Tryz.prog.inPlace 8) = true := by kernel_rfl
theorem rowUnf : (Rows.alarmHoldsRow.unfollowed == Tryz.prog.unfollowed 8) = true := by kernel_rfl
theorem rowRec : (Rows.alarmHoldsRow.recurses == Tryz.prog.recurses 8) = true := by kernel_rfl
theorem rowNamed : (Rows.alarmHoldsRow.named == Tryz.prog.varsNamed 8) = true := by kernel_rfl
end Go.Proofs.YtkpmddlinlcobaaGreatDoor.lawAlarmHolds
