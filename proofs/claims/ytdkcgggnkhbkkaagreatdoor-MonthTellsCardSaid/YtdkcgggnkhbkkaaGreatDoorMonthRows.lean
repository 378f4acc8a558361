/- The contract of month.Leaf; the law MonthRows: a leaf has as many lines as the month touches weeks, each as long: the walk. Condition: the table of months lies as it is laid. -/
import Derived.Test.YtdkcgggnkhbkkaaGreatDoorMonA
import Derived.Deep.DeepCutAuto
import Derived.Deep.CutBlock
import Derived.Outline
namespace Go.Proofs.YtdkcgggnkhbkkaaGreatDoor
open Go.RowKit Go.Shelf
set_option linter.unusedSimpArgs false
set_option linter.unusedVariables false

theorem marksE_nil (y m : Int) : marksE y m [] = if Cal.monthB y m = false then 1 else 0 := by
  unfold marksE
  by_cases h : Cal.monthB y m = false
  · rw [if_pos h, if_pos h]
  · rw [if_neg h, if_neg h, if_neg (by simp), if_neg (by simp), if_neg (by rw [risesB_yes List.Pairwise.nil]; decide)]

theorem marksL_ok {y m : Int} {D : List Int} (h : marksE y m D = 0) : marksL y m D = leafL (Cal.num y m 1) (Cal.dim y m) D := by rw [marksL, if_pos h]

set_option maxHeartbeats 1000000 in
theorem leaf_any (y m : Int) (w : World) (hw : Months w) :
    Calls Tryz.prog 34 #[.int .i64 y, .int .i64 m] w (MarksP y m [] w) := by
  have hk := marks_any y m (.slice none 0 0) [] w hw (intsR_nil w)
  have HK := Lib.hid hk; clear hk hw
  go_enter Tryz.func34, Tryz.ntmps34
  go_wp2_with fail
  refine HK.out.mono ?_; rintro e w1 ⟨v, rfl, hv, hb⟩
  obtain ⟨E, hE⟩ : ∃ E, E = errV (marksE y m []) := ⟨_, rfl⟩
  rw [← hE]
  have EE := Lib.hid hE; have V := Lib.hid hv; have B := Lib.hid hb
  clear hE hv hb
  go_wp2
  refine bodyPost_ret (results_tmp2 rfl _ _ _) rfl ?_
  exact ⟨v, by rw [← EE.out]; rfl, V.out, B.out⟩

theorem leafL_len (fi sz : Int) (D : List Int) : (leafL fi sz D).length = rowsN fi sz := leafTo_len ..

theorem leafL_row {fi sz : Int} {D : List Int} (h : sz ≤ 31) {k : Nat} (hk : k < (leafL fi sz D).length) : (leafL fi sz D)[k].length = 21 := by
  simp only [leafL, leafTo, List.getElem_map]
  rw [rowTo_len h]

end Go.Proofs.YtdkcgggnkhbkkaaGreatDoor
