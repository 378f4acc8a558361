/- The statement of the law AlarmCounts, for every input: from its walk to the given row, and the row's tied card. -/
import Derived.Test.YtkpmddlinlcobaaGreatDoorAlarmCountsLift
import Derived.Test.YtkpmddlinlcobaaGreatDoorAlarmCountsFacts
import Derived.Test.YtkpmddlinlcobaaGreatDoorRows
import Derived.Test.YtkpmddlinlcobaaGreatDoorAlarmCountsT
import Derived.Test.YtkpmddlinlcobaaGreatDoorQ09
import Derived.Test.YtkpmddlinlcobaaGreatDoorCards
import Derived.Test.YtkpmddlinlcobaaGreatDoorTie
import Derived.SevenTiedAt
import Derived.WalkKit
import Derived.ProofKit
import Derived.OpenShut
import Derived.ShutString
import Derived.ChangeOld
import Derived.Below
import Derived.Deep.DeepHandedRow
import Derived.Shelf.Vars
import Derived.Lib.SmallJoins
namespace Go.Proofs.YtkpmddlinlcobaaGreatDoor.lawAlarmCounts
open Go.ChangeShapes Go.WideShapes Go.ChangeAt Go.RowKit
open Go.ChangeMaps (open_string shut_string)
open Go.Joins
set_option linter.unusedVariables false
theorem closed : joinedFacts Tryz.prog 7 Tryz.f7 Rows.alarmCountsSpec Rows.alarmCountsRow = true := by
  unfold joinedFacts
  rw [progLaid, progMaps, progMay, rowPlace, rowUnf, rowRec, rowNamed]
  kernel_rfl
theorem closed2 : joinedFacts Tryz.pinned.checked.prog 7 Tryz.f7 (OpenSpec.ofChange Rows.alarmCountsSpec).bare Rows.alarmCountsRow = true := by
  rw [progPin]
  exact closed
theorem over : Rows.alarmCountsRow.holds Tryz.pinned (OpenSpec.ofChange Rows.alarmCountsSpec) :=
  OpenClaim.holds_of_cond 7 Tryz.f7 rfl rfl rfl rfl rfl rfl rfl ⟨rfl, rfl, rfl, rfl, rfl⟩ rfl rfl rfl rfl rfl (by kernel_rfl) Tryz.func7 closed2
    (of_decide_eq_true (by kernel_rfl)) (by unfold Func.isWrapper; first | (rw [if_pos (by decide +kernel)]; kernel_rfl) | (rw [if_neg (by decide +kernel)]; exact ⟨rfl, rfl⟩))
    (fun os started H enc _ F => by rw [OpenClaim.pre_eq_preRow]; exact lifted os started H enc F)
theorem bare : Rows.AlarmCountsSaid := over
/-- The statement: the tied card. -/
theorem proved : Rows.AlarmCountsCardSaid :=
  Claim7.holds_tied_plain_at .later [] _ _ _ _
    bare (fun _ h => by cases h) (by kernel_rfl) (fun _ h => by cases h) alarmCounts_row_tie rfl ⟨rfl, rfl⟩ (by kernel_rfl) rfl
    (fun f fn hf hfn => by
      obtain rfl : f = 7 := Option.some.inj ((show Tryz.prog.funcNamed Rows.alarmCountsRow.func = some 7 by kernel_rfl).symm.trans hf) |>.symm
      obtain rfl : fn = Tryz.f7 := (Option.some.inj (Tryz.func7.symm.trans hfn)).symm
      exact ⟨by kernel_rfl, fun j t ht => by
        rw [Tryz.params7] at ht
        have hm : t ∈ [3, 31] := by simpa using Array.mem_of_getElem? ht
        have hall : ([3, 31].all fun u => !Tryz.prog.wantsStandIn u) = true := by kernel_rfl
        exact (show Tryz.prog.wantsStandIn t = false by simpa using List.all_eq_true.1 hall t hm)⟩)
    (by kernel_rfl)
#print axioms proved
end Go.Proofs.YtkpmddlinlcobaaGreatDoor.lawAlarmCounts
