/- The statement of the law ClockTells, for every input: from its walk to the given row, and the row's tied card. -/
import Derived.Test.YtiihkdefhhdfnaaGreatDoorClockTellsLift
import Derived.Test.YtiihkdefhhdfnaaGreatDoorClockTellsFacts
import Derived.Test.YtiihkdefhhdfnaaGreatDoorRows
import Derived.Test.YtiihkdefhhdfnaaGreatDoorClockTells
import Derived.Test.YtiihkdefhhdfnaaGreatDoorLaid
import Derived.Test.YtiihkdefhhdfnaaGreatDoorCards
import Derived.Test.YtiihkdefhhdfnaaGreatDoorTie
import Derived.Test.YtiihkdefhhdfnaaGreatDoorLaidErr
import Derived.Test.YtiihkdefhhdfnaaGreatDoorLaidStrC
import Derived.SevenTiedAt
import Derived.WalkKit
import Derived.ProofKit
import Derived.OpenShut
import Derived.ShutString
import Derived.ChangeOld
import Derived.Below
import Derived.Deep.DeepHandedRow
import Derived.Shelf.Vars
import Derived.Lib.SmallJoins
namespace Go.Proofs.YtiihkdefhhdfnaaGreatDoor.lawClockTells
open Go.ChangeShapes Go.WideShapes Go.ChangeAt Go.RowKit
open Go.ChangeMaps (open_string shut_string)
open Go.Joins
set_option linter.unusedVariables false
theorem closed : joinedFacts Tryz.prog 3 Tryz.f3 Rows.clockTellsSpec Rows.clockTellsRow = true := by
  unfold joinedFacts
  rw [progLaid, progMaps, progMay, rowPlace, rowUnf, rowRec, rowNamed]
  kernel_rfl
theorem closed2 : joinedFacts Tryz.pinned.checked.prog 3 Tryz.f3 (OpenSpec.ofChange Rows.clockTellsSpec).bare Rows.clockTellsRow = true := by
  rw [progPin]
  exact closed
theorem over : Rows.clockTellsRow.holds Tryz.pinned (OpenSpec.ofChange Rows.clockTellsSpec) :=
  OpenClaim.holds_of_cond 3 Tryz.f3 rfl rfl rfl rfl rfl rfl rfl ⟨rfl, rfl, rfl, rfl, rfl⟩ rfl rfl rfl rfl rfl (by kernel_rfl) Tryz.func3 closed2
    (of_decide_eq_true (by kernel_rfl)) (by unfold Func.isWrapper; first | (rw [if_pos (by decide +kernel)]; kernel_rfl) | (rw [if_neg (by decide +kernel)]; exact ⟨rfl, rfl⟩))
    (fun os started H enc _ F => by rw [OpenClaim.pre_eq_preRow]; exact lifted os started H enc F)
theorem bare : Rows.ClockTellsSaid := over
/-- The statement: the tied card. -/
theorem proved : Rows.ClockTellsCardSaid :=
  Claim7.holds_tied_plain_at .later [] _ _ _ _
    bare (fun _ h => by cases h) (by kernel_rfl) (fun _ h => by cases h) clockTells_row_tie rfl ⟨rfl, rfl⟩ (by kernel_rfl) rfl
    (fun f fn hf hfn => by
      obtain rfl : f = 3 := Option.some.inj ((show Tryz.prog.funcNamed Rows.clockTellsRow.func = some 3 by kernel_rfl).symm.trans hf) |>.symm
      obtain rfl : fn = Tryz.f3 := (Option.some.inj (Tryz.func3.symm.trans hfn)).symm
      exact ⟨by kernel_rfl, fun j t ht => by
        rw [Tryz.params3] at ht
        have hm : t ∈ [23, 3, 9, 3, 9] := by simpa using Array.mem_of_getElem? ht
        have hall : ([23, 3, 9, 3, 9].all fun u => !Tryz.prog.wantsStandIn u) = true := by kernel_rfl
        exact (show Tryz.prog.wantsStandIn t = false by simpa using List.all_eq_true.1 hall t hm)⟩)
    (by kernel_rfl)
#print axioms proved
end Go.Proofs.YtiihkdefhhdfnaaGreatDoor.lawClockTells
