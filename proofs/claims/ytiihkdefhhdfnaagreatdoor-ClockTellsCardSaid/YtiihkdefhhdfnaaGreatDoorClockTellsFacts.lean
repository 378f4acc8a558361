/- The law ClockTells: closed facts of its row. No condition. -/
import Derived.Test.YtiihkdefhhdfnaaGreatDoorAllF
import Derived.SevenTiedAt
import Derived.WalkKit
import Derived.ProofKit
import Derived.OpenShut
import Derived.ShutString
import Derived.ChangeOld
import Derived.Below
import Derived.Deep.DeepHandedRow
import Derived.Shelf.Vars
import Derived.Lib.SmallJoins
namespace Go.Proofs.YtiihkdefhhdfnaaGreatDoor.lawClockTells
open Go.ChangeShapes Go.WideShapes Go.ChangeAt Go.RowKit
open Go.ChangeMaps (open_string shut_string)
open Go.Joins
set_option linter.unusedVariables false
theorem rowPlace : (Rows.clockTellsRow.inPlace == Tryz.prog.inPlace 3) = true := by kernel_rfl
theorem rowUnf : (Rows.clockTellsRow.unfollowed == Tryz.prog.unfollowed 3) = true := by kernel_rfl
theorem rowRec : (Rows.clockTellsRow.recurses == Tryz.prog.recurses 3) = true := by kernel_rfl
theorem rowNamed : (Rows.clockTellsRow.named == Tryz.prog.varsNamed 3) = true := by kernel_rfl
end Go.Proofs.YtiihkdefhhdfnaaGreatDoor.lawClockTells
