/- The law WeekYears: fifty-two or fifty-three weeks, one behind the other, up to the next year's first, for every number. The walk. -/
import Derived.Test.YtonoiaimknkpfaaDoorWeekA
namespace Go.Proofs.YtonoiaimknkpfaaDoor
open Go.RowKit

set_option maxRecDepth 100000 in
set_option maxHeartbeats 2000000 in
theorem weekYears_in (y : Int) (w : World) (hw : Months w) (h1 : 1900 ≤ y) (h2 : y ≤ 2198) (k : Int) (hk : Cal.weeksI y = k) (h52 : k = 52 ∨ k = 53) :
    Calls Tryd.prog 5 #[.int .i64 y] w fun e w' => e = .returned (.bool true) ∧ Below w.heap.size w w' := by
  have k1 : Cal.weeksI 2026 = 53 := by decide
  obtain ⟨c0, c1, c2, c3⟩ := Cal.wk1_bd h1 (by omega)
  obtain ⟨d0, d1, d2, d3⟩ := Cal.wk1_bd (y := y + 1) (by omega) (by omega)
  have ha := Cal.ahead_bd y h1 (by omega)
  have hb := Cal.ahead_bd (y + 1) (by omega) (by omega)
  have hx := Cal.weeks_next h1 h2
  have hl1 : Cal.wk1 y ≤ 109573 := by omega
  have hl2 : Cal.wk1 (y + 1) ≤ 109573 := by omega
  have hn1 : 1 ≤ Cal.weeksI (y + 1) := by rcases (Cal.weeks_len (y := y + 1) (by omega) (by omega)).1 with h | h <;> omega
  have e1 : (Cal.wk1 (y + 1) - Cal.wk1 y == 7 * k) = true := by rw [hx, hk]; simp
  have HK := Lib.hid hk; clear hk
  have HX := Lib.hid hx; clear hx
  have hkk : k = Cal.weeksI y := HK.out.symm
  clear c1 c2 c3 d1 d2 d3 ha hb hkk
  rcases h52 with rfl | rfl
  all_goals
    first
      | (have e2 : (Cal.wk1 (y + 1) - Cal.wk1 y == 364) = true := e1; clear e1)
      | (have e2 : (Cal.wk1 (y + 1) - Cal.wk1 y == 371) = true := e1; clear e1)
    go_enter Tryd.func5, Tryd.ntmps5
    go_wp2_with fail
    refine (weeks_yes 2026 _ hw (by omega) (by omega)).mono ?_; rintro e w1 ⟨rfl, hb1⟩
    rw [k1]
    have hw1 := hw.below hb1
    go_wp2_with fail
    refine (weeks_yes y _ hw1 h1 (by omega)).mono ?_; rintro e w2 ⟨rfl, hb2⟩
    rw [HK.out]
    have hw2 := hw1.below hb2
    have hb02 := hb1.trans (hb2.mono hb1.size)
    go_wp2_with fail
    refine (wfirst_yes y 1 _ hw2 h1 (by omega) (by omega) (by rw [HK.out]; omega) (by omega)).mono ?_; rintro e w3 ⟨rfl, hb3⟩
    have hw3 := hw2.below hb3
    have hb03 := hb02.trans (hb3.mono hb02.size)
    go_wp2_with fail
    refine (wfirst_yes (y + 1) 1 _ hw3 (by omega) (by omega) (by omega) hn1 (by omega)).mono ?_; rintro e w4 ⟨rfl, hb4⟩
    have hb04 := hb03.trans (hb4.mono hb03.size)
    simp only [Int.sub_self, Int.zero_mul, Int.add_zero]
    go_wp2
    go_ret
    exact ⟨rfl, hb04⟩

set_option maxRecDepth 100000 in
set_option maxHeartbeats 2000000 in
theorem weekYears_last (w : World) (hw : Months w) :
    Calls Tryd.prog 5 #[.int .i64 2199] w fun e w' => e = .returned (.bool true) ∧ Below w.heap.size w w' := by
  have k1 : Cal.weeksI 2026 = 53 := by decide
  have k2 : Cal.weeksI 2199 = 52 := by decide
  have k3 : Cal.wk1 2199 = 109208 := by decide
  go_enter Tryd.func5, Tryd.ntmps5
  go_wp2_with fail
  refine (weeks_yes 2026 _ hw (by omega) (by omega)).mono ?_; rintro e w1 ⟨rfl, hb1⟩
  rw [k1]
  have hw1 := hw.below hb1
  go_wp2_with fail
  refine (weeks_yes 2199 _ hw1 (by omega) (by omega)).mono ?_; rintro e w2 ⟨rfl, hb2⟩
  rw [k2]
  have hw2 := hw1.below hb2
  have hb02 := hb1.trans (hb2.mono hb1.size)
  go_wp2_with fail
  refine (wfirst_yes 2199 1 _ hw2 (by omega) (by omega) (by omega) (by rw [k2]; omega) (by rw [k3]; omega)).mono ?_; rintro e w3 ⟨rfl, hb3⟩
  have hw3 := hw2.below hb3
  have hb03 := hb02.trans (hb3.mono hb02.size)
  go_wp2_with fail
  refine (wfirst_no 2200 1 _ hw3 (.inl (by omega))).mono ?_; rintro e w4 ⟨rfl, hb4⟩
  have hb04 := hb03.trans (hb4.mono hb03.size)
  go_wp2
  go_ret
  exact ⟨rfl, hb04⟩

set_option maxRecDepth 100000 in
set_option maxHeartbeats 2000000 in
theorem weekYears_out (y : Int) (w : World) (hw : Months w) (h : y < 1900 ∨ 2199 < y) :
    Calls Tryd.prog 5 #[.int .i64 y] w fun e w' => e = .returned (.bool true) ∧ Below w.heap.size w w' := by
  have k1 : Cal.weeksI 2026 = 53 := by decide
  by_cases h1 : y < 1900
  all_goals
    try (have h3 : 2199 < y := by omega)
    go_enter Tryd.func5, Tryd.ntmps5
    go_wp2_with fail
    refine (weeks_yes 2026 _ hw (by omega) (by omega)).mono ?_; rintro e w1 ⟨rfl, hb1⟩
    rw [k1]
    have hw1 := hw.below hb1
    go_wp2_with fail
    refine (weeks_no y _ hw1 h).mono ?_; rintro e w2 ⟨rfl, hb2⟩
    clear h
    go_wp2
    go_ret
    exact ⟨rfl, hb1.trans (hb2.mono hb1.size)⟩

theorem weekYears_top (y : Int) (w : World) (hw : Months w) (_ : (Lit.int .i64 y).wf = true) :
    Calls Tryd.prog 5 #[.int .i64 y] w fun e w' => e = .returned (.bool true) ∧ Below w.heap.size w w' := by
  by_cases h : 1900 ≤ y ∧ y ≤ 2199
  · rcases Int.lt_or_le y 2199 with h2 | h2
    · exact weekYears_in y w hw h.1 (by omega) _ rfl (Cal.weeks_len h.1 h.2).1
    · obtain rfl : y = 2199 := by omega
      exact weekYears_last w hw
  · exact weekYears_out y w hw (by omega)

end Go.Proofs.YtonoiaimknkpfaaDoor
