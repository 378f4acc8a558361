/- Contracts of week.Monday, week.first, week.Weeks, week.First, week.Week. -/
import Derived.Test.YtdamncbgobjpdaaDoorDayD
namespace Go.Proofs.YtdamncbgobjpdaaDoor
open Go.RowKit

theorem monday_any (n : Int) (w : World) (h1 : 1 ≤ n) (h2 : n ≤ 1000000) :
    Calls Tryd.prog 79 #[.int .i64 n] w fun e w' => e = .returned (.int .i64 (Cal.mondayI n)) ∧ w = w' := by
  go_enter Tryd.func79, Tryd.ntmps79
  go_wp2
  go_ret
  exact ⟨rfl, rfl⟩

theorem first_yes (y : Int) (w : World) (hw : Months w) (h1 : 1900 ≤ y) (h2 : y ≤ 2199) :
    Calls Tryd.prog 80 #[.int .i64 y] w fun e w' => e = .returned (.tuple #[.int .i64 (Cal.wk1 y), .nilIface]) ∧ Below w.heap.size w w' := by
  have hd := Cal.date_j4 h1 h2
  obtain ⟨_, _, b1, b2⟩ := Cal.num_bd hd
  go_enter Tryd.func80, Tryd.ntmps80
  go_wp2_with fail
  refine (of_yes y 1 4 _ hw hd).mono ?_; rintro e w1 ⟨rfl, hb1⟩
  go_wp2_with fail
  refine (monday_any _ _ b1 (by omega)).mono ?_; rintro e w1' ⟨rfl, rfl⟩
  go_wp2
  go_ret2
  exact ⟨rfl, hb1⟩

theorem first_no (y : Int) (w : World) (hw : Months w) (h : y < 1900 ∨ 2199 < y) :
    Calls Tryd.prog 80 #[.int .i64 y] w fun e w' => e = .returned (.tuple #[.int .i64 0, .iface 114 (.int .i64 1)]) ∧ Below w.heap.size w w' := by
  have hd : Cal.dateB y 1 4 = false := Cal.date_mk_no' (Cal.month_mk_no (by omega))
  go_enter Tryd.func80, Tryd.ntmps80
  go_wp2_with fail
  refine (of_no y 1 4 _ hw hd).mono ?_; rintro e w1 ⟨rfl, hb1⟩
  go_wp2
  go_ret2
  exact ⟨rfl, hb1⟩

theorem weeks_yes (y : Int) (w : World) (hw : Months w) (h1 : 1900 ≤ y) (h2 : y ≤ 2199) :
    Calls Tryd.prog 23 #[.int .i64 y] w fun e w' => e = .returned (.tuple #[.int .i64 (Cal.weeksI y), .nilIface]) ∧ Below w.heap.size w w' := by
  have hd := Cal.date_d28 h1 h2
  obtain ⟨b0, _, b1, b2⟩ := Cal.num_bd hd
  obtain ⟨c0, c1, c2, c3⟩ := Cal.wk1_bd h1 h2
  have e1 := Cal.num_d28 y
  have e2 := Cal.lp_01 y
  have hle : Cal.wk1 y ≤ Cal.num y 12 28 := by omega
  clear e1 b0 c3
  go_enter Tryd.func23, Tryd.ntmps23
  go_wp2_with fail
  refine (of_yes y 12 28 _ hw hd).mono ?_; rintro e w1 ⟨rfl, hb1⟩
  have hw1 := hw.below hb1
  go_wp2_with fail
  refine (first_yes y _ hw1 h1 h2).mono ?_; rintro e w2 ⟨rfl, hb2⟩
  go_wp2
  go_ret2
  exact ⟨rfl, hb1.trans (hb2.mono hb1.size)⟩

theorem weeks_no (y : Int) (w : World) (hw : Months w) (h : y < 1900 ∨ 2199 < y) :
    Calls Tryd.prog 23 #[.int .i64 y] w fun e w' => e = .returned (.tuple #[.int .i64 0, .iface 114 (.int .i64 1)]) ∧ Below w.heap.size w w' := by
  have hd : Cal.dateB y 12 28 = false := Cal.date_mk_no' (Cal.month_mk_no (by omega))
  go_enter Tryd.func23, Tryd.ntmps23
  go_wp2_with fail
  refine (of_no y 12 28 _ hw hd).mono ?_; rintro e w1 ⟨rfl, hb1⟩
  go_wp2
  go_ret2
  exact ⟨rfl, hb1⟩

/-- A week's first day. -/
theorem wfirst_yes (y k : Int) (w : World) (hw : Months w) (h1 : 1900 ≤ y) (h2 : y ≤ 2199) (h3 : 1 ≤ k) (h4 : k ≤ Cal.weeksI y) (h5 : Cal.wk1 y + (k - 1) * 7 ≤ 109573) :
    Calls Tryd.prog 26 #[.int .i64 y, .int .i64 k] w fun e w' => e = .returned (.tuple #[.int .i64 (Cal.wk1 y + (k - 1) * 7), .nilIface]) ∧ Below w.heap.size w w' := by
  obtain ⟨c0, c1, c2, c3⟩ := Cal.wk1_bd h1 h2
  have hl : Cal.weeksI y ≤ 53 := by rcases (Cal.weeks_len h1 h2).1 with h | h <;> omega
  clear c1 c2 c3
  go_enter Tryd.func26, Tryd.ntmps26
  go_wp2_with fail
  refine (weeks_yes y _ hw h1 h2).mono ?_; rintro e w1 ⟨rfl, hb1⟩
  have hw1 := hw.below hb1
  go_wp2_with fail
  refine (first_yes y _ hw1 h1 h2).mono ?_; rintro e w2 ⟨rfl, hb2⟩
  go_wp2_with (go_at_call 77; refine (day_yes _ _ (by omega) (by omega)).mono ?_; rintro e w' ⟨rfl, rfl⟩)
  go_ret2
  exact ⟨rfl, hb1.trans (hb2.mono hb1.size)⟩

theorem wfirst_no (y k : Int) (w : World) (hw : Months w) (h : (y < 1900 ∨ 2199 < y) ∨ k < 1 ∨ Cal.weeksI y < k ∨ 109573 < Cal.wk1 y + (k - 1) * 7) :
    Calls Tryd.prog 26 #[.int .i64 y, .int .i64 k] w fun e w' => e = .returned (.tuple #[.int .i64 0, .iface 114 (.int .i64 1)]) ∧ Below w.heap.size w w' := by
  by_cases hy : 1900 ≤ y ∧ y ≤ 2199
  · obtain ⟨h1, h2⟩ := hy
    obtain ⟨c0, c1, c2, c3⟩ := Cal.wk1_bd h1 h2
    have hl : Cal.weeksI y ≤ 53 := by rcases (Cal.weeks_len h1 h2).1 with h | h <;> omega
    have ha := Cal.ahead_bd y h1 (by omega)
    have hwm : Cal.wk1 y ≤ 110000 := by omega
    clear c1 c2 c3 ha
    by_cases k1 : k < 1
    · clear h
      go_enter Tryd.func26, Tryd.ntmps26
      go_wp2_with fail
      refine (weeks_yes y _ hw h1 h2).mono ?_; rintro e w1 ⟨rfl, hb1⟩
      have hw1 := hw.below hb1
      go_wp2_with fail
      refine (first_yes y _ hw1 h1 h2).mono ?_; rintro e w2 ⟨rfl, hb2⟩
      go_wp2
      go_ret2
      exact ⟨rfl, hb1.trans (hb2.mono hb1.size)⟩
    by_cases k2 : Cal.weeksI y < k
    · clear h
      go_enter Tryd.func26, Tryd.ntmps26
      go_wp2_with fail
      refine (weeks_yes y _ hw h1 h2).mono ?_; rintro e w1 ⟨rfl, hb1⟩
      have hw1 := hw.below hb1
      go_wp2_with fail
      refine (first_yes y _ hw1 h1 h2).mono ?_; rintro e w2 ⟨rfl, hb2⟩
      go_wp2
      go_ret2
      exact ⟨rfl, hb1.trans (hb2.mono hb1.size)⟩
    · have k3 : 109573 < Cal.wk1 y + (k - 1) * 7 := by omega
      clear h
      go_enter Tryd.func26, Tryd.ntmps26
      go_wp2_with fail
      refine (weeks_yes y _ hw h1 h2).mono ?_; rintro e w1 ⟨rfl, hb1⟩
      have hw1 := hw.below hb1
      go_wp2_with fail
      refine (first_yes y _ hw1 h1 h2).mono ?_; rintro e w2 ⟨rfl, hb2⟩
      go_wp2_with (go_at_call 77; refine (day_no _ _ (.inr (by omega))).mono ?_; rintro e w' ⟨rfl, rfl⟩)
      go_ret2
      exact ⟨rfl, hb1.trans (hb2.mono hb1.size)⟩
  · have hy' : y < 1900 ∨ 2199 < y := by omega
    clear hy h
    go_enter Tryd.func26, Tryd.ntmps26
    go_wp2_with fail
    refine (weeks_no y _ hw hy').mono ?_; rintro e w1 ⟨rfl, hb1⟩
    go_wp2
    go_ret2
    exact ⟨rfl, hb1⟩

/-- Which week a day is of: the year of its week's Thursday. -/
theorem week_yes (n y m d : Int) (w : World) (hw : Months w) (h1 : 1 ≤ n) (h2 : n ≤ 109573) (hd : Cal.dateB y m d = true) (hn : Cal.num y m d = Cal.mondayI n + 3) :
    Calls Tryd.prog 21 #[.int .i64 n] w fun e w' => e = .returned (.tuple #[.int .i64 y, .int .i64 ((n - Cal.wk1 y) / 7 + 1), .nilIface]) ∧ Below w.heap.size w w' := by
  obtain ⟨hm, _, _⟩ := Cal.date_yes hd
  obtain ⟨a1, a2, _, _⟩ := Cal.month_yes hm
  obtain ⟨c0, _, _, _⟩ := Cal.wk1_bd a1 a2
  have hle := (Cal.week_in hd hn).1
  obtain ⟨b1, b2⟩ := Cal.monday_bd n
  have N := Lib.hid hn; clear hn
  go_enter Tryd.func21, Tryd.ntmps21
  go_wp2_with (first | (go_at_call 77; refine (day_yes _ _ h1 h2).mono ?_; rintro e w' ⟨rfl, rfl⟩) | (go_at_call 79; refine (monday_any _ _ h1 (by omega)).mono ?_; rintro e w1' ⟨rfl, rfl⟩))
  rw [← N.out]
  refine (date_num y m d _ hw hd).mono ?_; rintro e w1 ⟨rfl, hb1⟩
  have hw1 := (hw.below hb1).alloc (.cells #[.int .i64 y, .int .i64 m, .int .i64 d] 48)
  go_wp2_with fail
  refine (first_yes y _ hw1 a1 a2).mono ?_; rintro e w2 ⟨rfl, hb2⟩
  have f0 := hb2.cell (p := ⟨w1.heap.size, 0, none⟩) (by simp)
  simp at f0
  go_wp2
  go_ret3
  exact ⟨rfl, (hb1.alloc hb1.size _).trans (hb2.mono (by have := hb1.size; simp; omega))⟩

theorem week_no (n : Int) (w : World) (h : n < 1 ∨ 109571 < n) :
    Calls Tryd.prog 21 #[.int .i64 n] w fun e w' => e = .returned (.tuple #[.int .i64 0, .int .i64 0, .iface 114 (.int .i64 1)]) ∧ Below w.heap.size w w' := by
  by_cases h1 : 1 ≤ n ∧ n ≤ 109573
  · obtain ⟨h1, h2⟩ := h1
    have h3 : 109573 < Cal.mondayI n + 3 := by unfold Cal.mondayI; omega
    have h4 := Cal.monday_bd n
    clear h
    go_enter Tryd.func21, Tryd.ntmps21
    go_wp2_with (first | (go_at_call 77; refine (day_yes _ _ h1 h2).mono ?_; rintro e w' ⟨rfl, rfl⟩) | (go_at_call 79; refine (monday_any _ _ h1 (by omega)).mono ?_; rintro e w1' ⟨rfl, rfl⟩))
    refine (date_no _ _ (.inr h3)).mono ?_; rintro e w1 ⟨rfl, hb1⟩
    go_wp2
    go_ret3
    exact ⟨rfl, hb1.alloc hb1.size _⟩
  · have h' : n < 1 ∨ 109573 < n := by omega
    clear h h1
    go_enter Tryd.func21, Tryd.ntmps21
    go_wp2_with (go_at_call 77; refine (day_no _ _ h').mono ?_; rintro e w' ⟨rfl, rfl⟩)
    go_ret3
    exact ⟨rfl, Below.refl _ _⟩

end Go.Proofs.YtdamncbgobjpdaaDoor
