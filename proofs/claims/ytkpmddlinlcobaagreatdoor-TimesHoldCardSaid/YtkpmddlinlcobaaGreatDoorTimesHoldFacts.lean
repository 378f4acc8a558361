/- The law TimesHold: closed facts of its row. No condition. -/
import Derived.Test.YtkpmddlinlcobaaGreatDoorQ21
import Derived.SevenTiedAt
import Derived.WalkKit
import Derived.ProofKit
import Derived.OpenShut
import Derived.ShutString
import Derived.ChangeOld
import Derived.Below
import Derived.Deep.DeepHandedRow
import Derived.Shelf.Vars
import Derived.Lib.SmallJoins
namespace Go.Proofs.YtkpmddlinlcobaaGreatDoor.lawTimesHold
open Go.ChangeShapes Go.WideShapes Go.ChangeAt Go.RowKit
open Go.ChangeMaps (open_string shut_string)
open Go.Joins
set_option linter.unusedVariables false
theorem rowPlace : (Rows.timesHoldRow.inPlace == Tryz.prog.inPlace 5) = true := by kernel_rfl
theorem rowUnf : (Rows.timesHoldRow.unfollowed == Tryz.prog.unfollowed 5) = true := by kernel_rfl
theorem rowRec : (Rows.timesHoldRow.recurses == Tryz.prog.recurses 5) = true := by kernel_rfl
theorem rowNamed : (Rows.timesHoldRow.named == Tryz.prog.varsNamed 5) = true := by kernel_rfl
end Go.Proofs.YtkpmddlinlcobaaGreatDoor.lawTimesHold
