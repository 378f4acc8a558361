/- From the rows' condition on the listed package-level variables to what the walks ask: the handle of the type error. -/
import Derived.Test.YtiihkdefhhdfnaaGreatDoorLaid
import Derived.Test.YtiihkdefhhdfnaaGreatDoorErr
import Derived.LaidHandle
namespace Go.Proofs.YtiihkdefhhdfnaaGreatDoor
open Go.ChangeShapes Go.WideShapes Go.ChangeAt Go.RowKit

theorem errOneRow : ((List.range 165).filter fun t => Tryz.prog.rowNamed t [101, 114, 114, 111, 114]) = [26] := by kernel_rfl

theorem errTypes : Tryz.prog.types.size = 165 := by kernel_rfl

theorem errT_of_laid {W : World} {l : List (String × DataW Unit)} (nm : String) (hg : Tryz.prog.globalNamed nm = some 1) (h : laidMetH Tryz.prog l W)
    (hx : (nm, Rows.laid_errors_errorType) ∈ l.filter fun x => x.2.handleName?.isSome) : ErrT W := by
  obtain ⟨_, hs⟩ := laidMetH_iff.1 h
  obtain ⟨name, u, ty, e1, e2, e3, e4, e5⟩ := hs _ hx
  have en : name = [101, 114, 114, 111, 114] := (Option.some.inj e1).symm
  subst en
  have eu : some u = some 99 := e2.symm.trans (by kernel_rfl)
  obtain rfl := Option.some.inj eu
  have hm : ty ∈ (List.range 165).filter fun t => Tryz.prog.rowNamed t [101, 114, 114, 111, 114] := List.mem_filter.2 ⟨List.mem_range.2 (by rw [← errTypes]; exact e3), e4⟩
  rw [errOneRow] at hm
  obtain rfl := List.mem_singleton.1 hm
  have hh : typeHandle Tryz.prog 26 = .pointer (some ⟨8, 26, none⟩) := by kernel_rfl
  rw [hh] at e5
  simpa [ErrT] using World.var?_cell hg e5 0

end Go.Proofs.YtiihkdefhhdfnaaGreatDoor
