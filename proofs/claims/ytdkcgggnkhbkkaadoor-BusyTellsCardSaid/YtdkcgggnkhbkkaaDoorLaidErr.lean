/- From the rows' condition on the listed package-level variables to what the walks ask: the handle of the type error. -/
import Derived.Test.YtdkcgggnkhbkkaaDoorLaid
import Derived.Test.YtdkcgggnkhbkkaaDoorErr
import Derived.LaidHandle
namespace Go.Proofs.YtdkcgggnkhbkkaaDoor
open Go.ChangeShapes Go.WideShapes Go.ChangeAt Go.RowKit

theorem errOneRow : ((List.range 355).filter fun t => Tryd.prog.rowNamed t [101, 114, 114, 111, 114]) = [28] := by kernel_rfl

theorem errTypes : Tryd.prog.types.size = 355 := by kernel_rfl

theorem errT_of_laid {W : World} {l : List (String × DataW Unit)} (nm : String) (hg : Tryd.prog.globalNamed nm = some 2) (h : laidMetH Tryd.prog l W)
    (hx : (nm, Rows.laid_errors_errorType) ∈ l.filter fun x => x.2.handleName?.isSome) : ErrT W := by
  obtain ⟨_, hs⟩ := laidMetH_iff.1 h
  obtain ⟨name, u, ty, e1, e2, e3, e4, e5⟩ := hs _ hx
  have en : name = [101, 114, 114, 111, 114] := (Option.some.inj e1).symm
  subst en
  have eu : some u = some 258 := e2.symm.trans (by kernel_rfl)
  obtain rfl := Option.some.inj eu
  have hm : ty ∈ (List.range 355).filter fun t => Tryd.prog.rowNamed t [101, 114, 114, 111, 114] := List.mem_filter.2 ⟨List.mem_range.2 (by rw [← errTypes]; exact e3), e4⟩
  rw [errOneRow] at hm
  obtain rfl := List.mem_singleton.1 hm
  have hh : typeHandle Tryd.prog 28 = .pointer (some ⟨8, 28, none⟩) := by kernel_rfl
  rw [hh] at e5
  simpa [ErrT] using World.var?_cell hg e5 0

end Go.Proofs.YtdkcgggnkhbkkaaDoor
