/- The law TopDays: closed facts of its row. No condition. -/
import Derived.Test.YtgelojhpanbnaaaGreatDoorQ21
import Derived.SevenTiedAt
import Derived.WalkKit
import Derived.ProofKit
import Derived.OpenShut
import Derived.ShutString
import Derived.ChangeOld
import Derived.Below
import Derived.Deep.DeepHandedRow
import Derived.Shelf.Vars
namespace Go.Proofs.YtgelojhpanbnaaaGreatDoor.lawTopDays
open Go.ChangeShapes Go.WideShapes Go.ChangeAt Go.RowKit
open Go.ChangeMaps (open_string shut_string)
set_option linter.unusedVariables false
theorem rowPlace : (Rows.topDaysRow.inPlace == Tryz.prog.inPlace 3) = true := by kernel_rfl
theorem rowUnf : (Rows.topDaysRow.unfollowed == Tryz.prog.unfollowed 3) = true := by kernel_rfl
theorem rowRec : (Rows.topDaysRow.recurses == Tryz.prog.recurses 3) = true := by kernel_rfl
theorem rowNamed : (Rows.topDaysRow.named == Tryz.prog.varsNamed 3) = true := by kernel_rfl
end Go.Proofs.YtgelojhpanbnaaaGreatDoor.lawTopDays
