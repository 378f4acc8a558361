/- Closed facts of the whole program that each law's frame asks. No condition. -/
import Derived.Test.YtiihkdefhhdfnaaGreatDoorRows
import Derived.JoinedCond
import Derived.WalkKit
import Derived.ProofKit
import Derived.KernelRfl
namespace Go.Proofs.YtiihkdefhhdfnaaGreatDoor
open Go.ChangeShapes Go.WideShapes Go.ChangeAt Go.RowKit

theorem progMay : Tryz.prog.mayEnter = true := by kernel_rfl

theorem progLaid : laidOutB Tryz.prog = true := by kernel_rfl

theorem progMaps : mapsRowed Tryz.prog = true := by kernel_rfl

theorem progPin : Tryz.pinned.checked.prog = Tryz.prog := by kernel_rfl

end Go.Proofs.YtiihkdefhhdfnaaGreatDoor
