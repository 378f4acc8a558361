/- The law TimesTells: closed facts of its row. No condition. -/
import Derived.Test.YtkpmddlinlcobaaGreatDoorQ21
import Derived.SevenTiedAt
import Derived.WalkKit
import Derived.ProofKit
import Derived.OpenShut
import Derived.ShutString
import Derived.ChangeOld
import Derived.Below
import Derived.Deep.DeepHandedRow
import Derived.Shelf.Vars
import Derived.Lib.SmallJoins
namespace Go.Proofs.YtkpmddlinlcobaaGreatDoor.lawTimesTells
open Go.ChangeShapes Go.WideShapes Go.ChangeAt Go.RowKit
open Go.ChangeMaps (open_string shut_string)
open Go.Joins
set_option linter.unusedVariables false
theorem rowPlace : (Rows.timesTellsRow.inPlace == Tryz.prog.inPlace 6) = true := by kernel_rfl
theorem rowUnf : (Rows.timesTellsRow.unfollowed == Tryz.prog.unfollowed 6) = true := by kernel_rfl
theorem rowRec : (Rows.timesTellsRow.recurses == Tryz.prog.recurses 6) = true := by kernel_rfl
theorem rowNamed : (Rows.timesTellsRow.named == Tryz.prog.varsNamed 6) = true := by kernel_rfl
end Go.Proofs.YtkpmddlinlcobaaGreatDoor.lawTimesTells
