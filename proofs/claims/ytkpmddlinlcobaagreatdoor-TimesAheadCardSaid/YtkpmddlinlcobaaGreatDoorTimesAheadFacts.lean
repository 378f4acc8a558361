/- The law TimesAhead: closed facts of its row. No condition. -/
import Derived.Test.YtkpmddlinlcobaaGreatDoorAllF
import Derived.SevenTiedAt
import Derived.WalkKit
import Derived.ProofKit
import Derived.OpenShut
import Derived.ShutString
import Derived.ChangeOld
import Derived.Below
import Derived.Deep.DeepHandedRow
import Derived.Shelf.Vars
namespace Go.Proofs.YtkpmddlinlcobaaGreatDoor.lawTimesAhead
open Go.ChangeShapes Go.WideShapes Go.ChangeAt Go.RowKit
open Go.ChangeMaps (open_string shut_string)
set_option linter.unusedVariables false
theorem rowPlace : (Rows.timesAheadRow.inPlace == Tryz.prog.inPlace 4) = true := by kernel_rfl
theorem rowUnf : (Rows.timesAheadRow.unfollowed == Tryz.prog.unfollowed 4) = true := by kernel_rfl
theorem rowRec : (Rows.timesAheadRow.recurses == Tryz.prog.recurses 4) = true := by kernel_rfl
theorem rowNamed : (Rows.timesAheadRow.named == Tryz.prog.varsNamed 4) = true := by kernel_rfl
end Go.Proofs.YtkpmddlinlcobaaGreatDoor.lawTimesAhead
