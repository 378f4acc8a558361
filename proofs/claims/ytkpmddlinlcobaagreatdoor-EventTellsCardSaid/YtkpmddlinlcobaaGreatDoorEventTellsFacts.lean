/- The law EventTells: closed facts of its row. No condition. -/
import Derived.Test.YtkpmddlinlcobaaGreatDoorQ21
import Derived.SevenTiedAt
import Derived.WalkKit
import Derived.ProofKit
import Derived.OpenShut
import Derived.ShutString
import Derived.ChangeOld
import Derived.Below
import Derived.Deep.DeepHandedRow
import Derived.Shelf.Vars
import Derived.Lib.SmallJoins
namespace Go.Proofs.YtkpmddlinlcobaaGreatDoor.lawEventTells
open Go.ChangeShapes Go.WideShapes Go.ChangeAt Go.RowKit
open Go.ChangeMaps (open_string shut_string)
open Go.Joins
set_option linter.unusedVariables false
theorem rowPlace : (Rows.eventTellsRow.inPlace == Tryz.prog.inPlace 3) = true := by kernel_rfl
theorem rowUnf : (Rows.eventTellsRow.unfollowed == Tryz.prog.unfollowed 3) = true := by kernel_rfl
theorem rowRec : (Rows.eventTellsRow.recurses == Tryz.prog.recurses 3) = true := by kernel_rfl
theorem rowNamed : (Rows.eventTellsRow.named == Tryz.prog.varsNamed 3) = true := by kernel_rfl
end Go.Proofs.YtkpmddlinlcobaaGreatDoor.lawEventTells
