/- The law PlanFits: closed facts of its row. No condition. -/
import Derived.Test.YtkpmddlinlcobaaGreatDoorAllF
import Derived.SevenTiedAt
import Derived.WalkKit
import Derived.ProofKit
import Derived.OpenShut
import Derived.ShutString
import Derived.ChangeOld
import Derived.Below
import Derived.Deep.DeepHandedRow
import Derived.Shelf.Vars
import Derived.Lib.SmallJoins
namespace Go.Proofs.YtkpmddlinlcobaaGreatDoor.lawPlanFits
open Go.ChangeShapes Go.WideShapes Go.ChangeAt Go.RowKit
open Go.ChangeMaps (open_string shut_string)
open Go.Joins
set_option linter.unusedVariables false
theorem rowPlace : (Rows.planFitsRow.inPlace == Tryz.prog.inPlace 11) = true := by kernel_rfl
theorem rowUnf : (Rows.planFitsRow.unfollowed == Tryz.prog.unfollowed 11) = true := by kernel_rfl
theorem rowRec : (Rows.planFitsRow.recurses == Tryz.prog.recurses 11) = true := by kernel_rfl
theorem rowNamed : (Rows.planFitsRow.named == Tryz.prog.varsNamed 11) = true := by kernel_rfl
end Go.Proofs.YtkpmddlinlcobaaGreatDoor.lawPlanFits
