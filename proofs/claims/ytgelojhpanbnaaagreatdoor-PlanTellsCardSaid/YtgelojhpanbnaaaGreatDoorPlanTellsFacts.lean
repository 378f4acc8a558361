/- The law PlanTells: closed facts of its row. No condition. -/
import Derived.Test.YtgelojhpanbnaaaGreatDoorQ21
import Derived.SevenTiedAt
import Derived.WalkKit
import Derived.ProofKit
import Derived.OpenShut
import Derived.ShutString
import Derived.ChangeOld
import Derived.Below
import Derived.Deep.DeepHandedRow
import Derived.Shelf.Vars
import Derived.Lib.SmallJoins
namespace Go.Proofs.YtgelojhpanbnaaaGreatDoor.lawPlanTells
open Go.ChangeShapes Go.WideShapes Go.ChangeAt Go.RowKit
open Go.ChangeMaps (open_string shut_string)
open Go.Joins
set_option linter.unusedVariables false
theorem rowPlace : (Rows.planTellsRow.inPlace == Tryz.prog.inPlace 7) = true := by kernel_rfl
theorem rowUnf : (Rows.planTellsRow.unfollowed == Tryz.prog.unfollowed 7) = true := by kernel_rfl
theorem rowRec : (Rows.planTellsRow.recurses == Tryz.prog.recurses 7) = true := by kernel_rfl
theorem rowNamed : (Rows.planTellsRow.named == Tryz.prog.varsNamed 7) = true := by kernel_rfl
end Go.Proofs.YtgelojhpanbnaaaGreatDoor.lawPlanTells
