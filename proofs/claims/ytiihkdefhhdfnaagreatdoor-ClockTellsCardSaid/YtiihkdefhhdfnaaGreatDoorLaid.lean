/- From the rows' condition on the listed package-level variables to what the walks ask: the table of months. -/
import Derived.Test.YtiihkdefhhdfnaaGreatDoorRows
import Derived.Test.YtiihkdefhhdfnaaGreatDoorDayB
import Derived.ProofKit
import Derived.LaidMore
import Derived.LaidSub
import Derived.MakeChecks
import Derived.OpenShut
import Derived.Lib.LaidTab
import Derived.Stop.Joined
namespace Go.Proofs.YtiihkdefhhdfnaaGreatDoor
open Go.ChangeShapes Go.WideShapes Go.ChangeAt Go.RowKit

theorem tMonths : (Tryz.prog.globals[0]?).map (·.type) = some 74 := by kernel_rfl

theorem months_of_laid {W : World} {l : List (String × DataW Unit)} (nm : String) (hg : Tryz.prog.globalNamed nm = some 0) (h : laidMetH Tryz.prog l W)
    (hl : (l.filter fun x => x.1 == nm) = [(nm, Lib.tabData .i64 [31, 28, 31, 30, 31, 30, 31, 31, 30, 31, 30, 31])]) : Months W := by
  have h1 := h.filter (fun x => x.1 == nm)
  rw [hl] at h1
  rw [MakeChecks.laidMetH_plain _ _ _ (by rfl)] at h1
  have hT := Lib.tabIs_of_head hg tMonths Tryz.underlying74 Tryz.underlying3 (by kernel_rfl) (by kernel_rfl) h1
  intro m h2 h3
  have hc := hT.cell hg (m.toNat - 1) (by simp; omega)
  rw [hc]
  obtain h | h | h | h | h | h | h | h | h | h | h | h : m = 1 ∨ m = 2 ∨ m = 3 ∨ m = 4 ∨ m = 5 ∨ m = 6 ∨ m = 7 ∨ m = 8 ∨ m = 9 ∨ m = 10 ∨ m = 11 ∨ m = 12 := by omega
  all_goals (subst h; rfl)
end Go.Proofs.YtiihkdefhhdfnaaGreatDoor
