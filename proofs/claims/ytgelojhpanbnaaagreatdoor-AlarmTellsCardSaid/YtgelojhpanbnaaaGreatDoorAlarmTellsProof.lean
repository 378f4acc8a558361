/- The statement of the law AlarmTells, for every input: from its walk to the given row, and the row's tied card. -/
import Derived.Test.YtgelojhpanbnaaaGreatDoorAlarmTellsLift
import Derived.Test.YtgelojhpanbnaaaGreatDoorAlarmTellsFacts
import Derived.Test.YtgelojhpanbnaaaGreatDoorRows
import Derived.Test.YtgelojhpanbnaaaGreatDoorQ29
import Derived.Test.YtgelojhpanbnaaaGreatDoorQ09
import Derived.Test.YtgelojhpanbnaaaGreatDoorCards
import Derived.Test.YtgelojhpanbnaaaGreatDoorTie
import Derived.Test.YtgelojhpanbnaaaGreatDoorQ21
import Derived.SevenTiedAt
import Derived.Test.YtgelojhpanbnaaaGreatDoorOpenJ
import Derived.WalkKit
import Derived.ProofKit
import Derived.OpenShut
import Derived.ShutString
import Derived.ChangeOld
import Derived.Below
import Derived.Deep.DeepHandedRow
import Derived.Shelf.Vars
import Derived.Lib.SmallJoins
namespace Go.Proofs.YtgelojhpanbnaaaGreatDoor.lawAlarmTells
open Go.ChangeShapes Go.WideShapes Go.ChangeAt Go.RowKit
open Go.ChangeMaps (open_string shut_string)
open Go.Joins
set_option linter.unusedVariables false
theorem closed : joinedFacts Tryz.prog 5 Tryz.f5 Rows.alarmTellsSpec Rows.alarmTellsRow = true := by
  unfold joinedFacts
  rw [progLaid, progMaps, progMay, rowPlace, rowUnf, rowRec, rowNamed]
  kernel_rfl
theorem closed2 : joinedFacts Tryz.pinned.checked.prog 5 Tryz.f5 (OpenSpec.ofChange Rows.alarmTellsSpec).bare Rows.alarmTellsRow = true := by
  rw [progPin]
  exact closed
theorem over : Rows.alarmTellsRow.holds Tryz.pinned (OpenSpec.ofChange Rows.alarmTellsSpec) :=
  OpenClaim.holds_of_cond 5 Tryz.f5 rfl rfl rfl rfl rfl rfl rfl ⟨rfl, rfl, rfl, rfl, rfl⟩ rfl rfl rfl rfl rfl (by kernel_rfl) Tryz.func5 closed2
    (of_decide_eq_true (by kernel_rfl)) (by unfold Func.isWrapper; first | (rw [if_pos (by decide +kernel)]; kernel_rfl) | (rw [if_neg (by decide +kernel)]; exact ⟨rfl, rfl⟩))
    (fun os started H enc _ F => by rw [OpenClaim.pre_eq_preRow]; exact lifted os started H enc F)
theorem bare : Rows.AlarmTellsSaid := over
/-- The statement: the tied card. -/
theorem proved : Rows.AlarmTellsCardSaid :=
  Claim7.holds_tied_plain_at .later [] _ _ _ _
    bare (fun _ h => by cases h) (by kernel_rfl) (fun _ h => by cases h) alarmTells_row_tie rfl ⟨rfl, rfl⟩ (by kernel_rfl) rfl
    (fun f fn hf hfn => by
      obtain rfl : f = 5 := Option.some.inj ((show Tryz.prog.funcNamed Rows.alarmTellsRow.func = some 5 by kernel_rfl).symm.trans hf) |>.symm
      obtain rfl : fn = Tryz.f5 := (Option.some.inj (Tryz.func5.symm.trans hfn)).symm
      exact ⟨by kernel_rfl, fun j t ht => by
        rw [Tryz.params5] at ht
        have hm : t ∈ [33, 29, 3, 66] := by simpa using Array.mem_of_getElem? ht
        have hall : ([33, 29, 3, 66].all fun u => !Tryz.prog.wantsStandIn u) = true := by kernel_rfl
        exact (show Tryz.prog.wantsStandIn t = false by simpa using List.all_eq_true.1 hall t hm)⟩)
    (by kernel_rfl)
#print axioms proved
end Go.Proofs.YtgelojhpanbnaaaGreatDoor.lawAlarmTells
