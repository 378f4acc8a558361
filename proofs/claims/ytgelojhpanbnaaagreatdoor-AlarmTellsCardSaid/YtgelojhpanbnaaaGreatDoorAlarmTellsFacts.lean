/- The law AlarmTells: closed facts of its row. No condition. -/
import Derived.Test.YtgelojhpanbnaaaGreatDoorQ21
import Derived.SevenTiedAt
import Derived.WalkKit
import Derived.ProofKit
import Derived.OpenShut
import Derived.ShutString
import Derived.ChangeOld
import Derived.Below
import Derived.Deep.DeepHandedRow
import Derived.Shelf.Vars
import Derived.Lib.SmallJoins
namespace Go.Proofs.YtgelojhpanbnaaaGreatDoor.lawAlarmTells
open Go.ChangeShapes Go.WideShapes Go.ChangeAt Go.RowKit
open Go.ChangeMaps (open_string shut_string)
open Go.Joins
set_option linter.unusedVariables false
theorem rowPlace : (Rows.alarmTellsRow.inPlace == Tryz.prog.inPlace 5) = true := by kernel_rfl
theorem rowUnf : (Rows.alarmTellsRow.unfollowed == Tryz.prog.unfollowed 5) = true := by kernel_rfl
theorem rowRec : (Rows.alarmTellsRow.recurses == Tryz.prog.recurses 5) = true := by kernel_rfl
theorem rowNamed : (Rows.alarmTellsRow.named == Tryz.prog.varsNamed 5) = true := by kernel_rfl
end Go.Proofs.YtgelojhpanbnaaaGreatDoor.lawAlarmTells
