/- From the rows' condition on the listed package-level variables to what the walks ask: strconv's powers of ten and its ErrSyntax. -/
import Derived.Test.YtiihkdefhhdfnaaGreatDoorLaid
import Derived.Test.YtiihkdefhhdfnaaGreatDoorClkG
import Derived.Stop.LaidErr
namespace Go.Proofs.YtiihkdefhhdfnaaGreatDoor
open Go.ChangeShapes Go.WideShapes Go.ChangeAt Go.RowKit

theorem tPow : (Tryz.prog.globals[5]?).map (·.type) = some 125 := by kernel_rfl

theorem pow_of_laid {W : World} {l : List (String × DataW Unit)} (h : laidMetH Tryz.prog l W)
    (hl : (l.filter fun x => x.1 == "internal/strconv.uint64pow10") = [("internal/strconv.uint64pow10", Lib.tabData .u64 Lib.pow10Tab)]) : PowT W := by
  have h1 := h.filter (fun x => x.1 == "internal/strconv.uint64pow10")
  rw [hl] at h1
  rw [MakeChecks.laidMetH_plain _ _ _ (by rfl)] at h1
  exact Lib.tabIs_of_head (by kernel_rfl) tPow Tryz.underlying125 Tryz.underlying113 (by kernel_rfl) (by kernel_rfl) h1

theorem gSyn : Tryz.prog.globalNamed "strconv.ErrSyntax" = some 3 := by kernel_rfl
theorem tSyn : (Tryz.prog.globals[3]?).map (·.type) = some 26 := by kernel_rfl
theorem cES : Tryz.prog.cellsOf 134 = 1 := by kernel_rfl
theorem cStr : Tryz.prog.cellsOf 9 = 1 := by kernel_rfl
theorem starES : "*" ++ "errors.errorString" = "*errors.errorString" := by decide
theorem rowES (u : TypeId) (h : Tryz.prog.typeName? 3 u = some "*errors.errorString") : u = 132 :=
  typeName_ptr_named (nm := "errors.errorString") (by rw [starES]; kernel_rfl) (by kernel_rfl) (by decide) u (by rw [starES]; exact h)

theorem syn_of_laid {W : World} {l : List (String × DataW Unit)} (h : laidMetH Tryz.prog l W)
    (hl : (l.filter fun x => x.1 == "strconv.ErrSyntax") = [("strconv.ErrSyntax", Rows.laid_strconv_ErrSyntax)]) : SynT W := by
  have h1 := h.filter (fun x => x.1 == "strconv.ErrSyntax")
  rw [hl] at h1
  rw [MakeChecks.laidMetH_plain _ _ _ (by rfl)] at h1
  obtain ⟨a0, s0, hv0, -, -, -⟩ := laid_sentinel h1 gSyn tSyn Tryz.underlying26 rowES Tryz.underlying132 Tryz.underlying134 rfl rfl Tryz.underlying9 cES cStr
  exact ⟨_, _, by simpa using World.var?_cell gSyn hv0 0⟩
end Go.Proofs.YtiihkdefhhdfnaaGreatDoor
