/- The statement of the law TopDays, for every input: from its walk to the given row, and the row's tied card. -/
import Derived.Test.YtgelojhpanbnaaaGreatDoorTopDaysLift
import Derived.Test.YtgelojhpanbnaaaGreatDoorTopDaysFacts
import Derived.Test.YtgelojhpanbnaaaGreatDoorRows
import Derived.Test.YtgelojhpanbnaaaGreatDoorTopDaysT
import Derived.Test.YtgelojhpanbnaaaGreatDoorQ09
import Derived.Test.YtgelojhpanbnaaaGreatDoorCards
import Derived.Test.YtgelojhpanbnaaaGreatDoorTie
import Derived.SevenTiedAt
import Derived.Test.YtgelojhpanbnaaaGreatDoorQ10
import Derived.WalkKit
import Derived.ProofKit
import Derived.OpenShut
import Derived.ShutString
import Derived.ChangeOld
import Derived.Below
import Derived.Deep.DeepHandedRow
import Derived.Shelf.Vars
namespace Go.Proofs.YtgelojhpanbnaaaGreatDoor.lawTopDays
open Go.ChangeShapes Go.WideShapes Go.ChangeAt Go.RowKit
open Go.ChangeMaps (open_string shut_string)
set_option linter.unusedVariables false
theorem closed : joinedFacts Tryz.prog 3 Tryz.f3 Rows.topDaysSpec Rows.topDaysRow = true := by
  unfold joinedFacts
  rw [progLaid, progMaps, progMay, rowPlace, rowUnf, rowRec, rowNamed]
  kernel_rfl
theorem closed2 : joinedFacts Tryz.pinned.checked.prog 3 Tryz.f3 (OpenSpec.ofChange Rows.topDaysSpec).bare Rows.topDaysRow = true := by
  rw [progPin]
  exact closed
theorem over : Rows.topDaysRow.holds Tryz.pinned (OpenSpec.ofChange Rows.topDaysSpec) :=
  OpenClaim.holds_of_cond 3 Tryz.f3 rfl rfl rfl rfl rfl rfl rfl ⟨rfl, rfl, rfl, rfl, rfl⟩ rfl rfl rfl rfl rfl (by kernel_rfl) Tryz.func3 closed2
    (of_decide_eq_true (by kernel_rfl)) (by unfold Func.isWrapper; first | (rw [if_pos (by decide +kernel)]; kernel_rfl) | (rw [if_neg (by decide +kernel)]; exact ⟨rfl, rfl⟩))
    (fun os started H enc _ F => by rw [OpenClaim.pre_eq_preRow]; exact lifted os started H enc F)
theorem bare : Rows.TopDaysSaid := over
/-- The statement: the tied card. -/
theorem proved : Rows.TopDaysCardSaid :=
  Claim7.holds_tied_plain_at .later [] _ _ _ _
    bare (fun _ h => by cases h) (by kernel_rfl) (fun _ h => by cases h) topDays_row_tie rfl ⟨rfl, rfl⟩ (by kernel_rfl) rfl
    (fun f fn hf hfn => by
      obtain rfl : f = 3 := Option.some.inj ((show Tryz.prog.funcNamed Rows.topDaysRow.func = some 3 by kernel_rfl).symm.trans hf) |>.symm
      obtain rfl : fn = Tryz.f3 := (Option.some.inj (Tryz.func3.symm.trans hfn)).symm
      exact ⟨by kernel_rfl, fun j t ht => by
        rw [Tryz.params3] at ht
        have hm : t ∈ [29, 3] := by simpa using Array.mem_of_getElem? ht
        have hall : ([29, 3].all fun u => !Tryz.prog.wantsStandIn u) = true := by kernel_rfl
        exact (show Tryz.prog.wantsStandIn t = false by simpa using List.all_eq_true.1 hall t hm)⟩)
    (by kernel_rfl)
#print axioms proved
end Go.Proofs.YtgelojhpanbnaaaGreatDoor.lawTopDays
