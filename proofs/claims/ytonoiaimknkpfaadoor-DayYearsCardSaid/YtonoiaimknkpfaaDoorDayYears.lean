/- The law DayYears: a year's days, from its first to its last, and of its months together, for every number. The walk. -/
import Derived.Test.YtonoiaimknkpfaaDoorDayD
namespace Go.Proofs.YtonoiaimknkpfaaDoor
open Go.RowKit

theorem year_len (y : Int) : Cal.num y 12 31 - Cal.num y 1 1 + 1 = 365 + Cal.lp y := by
  unfold Cal.num; rw [Cal.cum_1]; simp [Cal.cum]; omega

set_option maxHeartbeats 2000000 in
theorem dayYears_in (y n : Int) (w : World) (hw : Months w) (h1 : 1900 ≤ y) (h2 : y ≤ 2199) (b : Bool) (hb : Cal.leapB y = b) (hn : 365 + Cal.lp y = n) (hbn : n = if b then 366 else 365) :
    Calls Tryd.prog 3 #[.int .i64 y] w fun e w' => e = .returned (.bool true) ∧ Below w.heap.size w w' := by
  have k0 : Cal.leapB 1900 = false := by decide
  have k1 : Cal.leapB 2000 = true := by decide
  have k2 : Cal.leapB 2024 = true := by decide
  have d1 : Cal.dateB y 1 1 = true := Cal.date_mk (Cal.month_mk h1 h2 (by omega) (by omega)) (by omega) (by have := Cal.dim_bd y 1; omega)
  have d2 : Cal.dateB y 12 31 = true := Cal.date_mk (Cal.month_mk h1 h2 (by omega) (by omega)) (by omega) (by simp [Cal.dim])
  obtain ⟨_, _, n1, n2⟩ := Cal.num_bd d1
  obtain ⟨_, _, n3, n4⟩ := Cal.num_bd d2
  have e1 : (Cal.num y 12 31 - Cal.num y 1 1 + 1 == n) = true := by rw [year_len, hn]; simp
  have HN := Lib.hid hn; clear hn
  rcases b with _ | _
  all_goals
    simp at hbn
    subst hbn
    go_enter Tryd.func3, Tryd.ntmps3
    go_wp2_with (go_at_call 10; refine (leap_any _ _).mono ?_; rintro e w' ⟨rfl, rfl⟩)
    refine (of_yes y 1 1 _ hw d1).mono ?_; rintro e w1 ⟨rfl, hb1⟩
    have hw1 := hw.below hb1
    go_wp2_with fail
    refine (of_yes y 12 31 _ hw1 d2).mono ?_; rintro e w2 ⟨rfl, hb2⟩
    have hw2 := hw1.below hb2
    have hbt := hb1.trans (hb2.mono hb1.size)
    go_wp2_with (go_at_call 10; refine (leap_any _ _).mono ?_; rintro e w' ⟨rfl, rfl⟩)
    go_loopg [8, 9] 12 (fun g s i wr => ∃ k : Int, 1 ≤ k ∧ k ≤ 13 ∧ i = .int .i64 k ∧ s = .int .i64 (Cal.cum y k) ∧ g = (13 - k).toNat ∧ wr = w2)
    case atStart => exact ⟨1, by omega, by omega, rfl, by rw [Cal.cum_1], rfl, rfl⟩
    case round =>
      obtain ⟨k, hk1, hk2, rfl, rfl, hg, rfl⟩ := hrel
      have G := Lib.hid hg; clear hg
      have cb := Cal.cum_bd y k
      have db := Cal.dim_bd y k
      by_cases hlt : k ≤ 12
      · have cs := Lib.hid (Cal.cum_succ y k hk1 hlt)
        have hmk := Cal.month_mk h1 h2 hk1 hlt
        go_wp2_with (go_at_call 12; refine (days_yes y k _ hw2 hmk).mono ?_; rintro e w' ⟨rfl, rfl⟩)
        go_roundg ((13 - (k + 1)).toNat)
        case measure => rw [G.out]; omega
        case rel => exact ⟨k + 1, by omega, by omega, rfl, by rw [cs.out], rfl, rfl⟩
      · obtain rfl : k = 13 := by omega
        have e2 : (Cal.cum y 13 == 365 + Cal.lp y) = true := by rw [Cal.cum_13]; simp
        rw [HN.out] at e2
        go_wp2
        go_ret
        exact ⟨rfl, hbt⟩

set_option maxHeartbeats 1000000 in
theorem dayYears_out (y : Int) (w : World) (hw : Months w) (h : y < 1900 ∨ 2199 < y) :
    Calls Tryd.prog 3 #[.int .i64 y] w fun e w' => e = .returned (.bool true) ∧ Below w.heap.size w w' := by
  have k0 : Cal.leapB 1900 = false := by decide
  have k1 : Cal.leapB 2000 = true := by decide
  have k2 : Cal.leapB 2024 = true := by decide
  have d1 : Cal.dateB y 1 1 = false := Cal.date_mk_no' (Cal.month_mk_no (by omega))
  have d2 : Cal.dateB y 12 31 = false := Cal.date_mk_no' (Cal.month_mk_no (by omega))
  by_cases h1 : y < 1900
  all_goals
    try (have h3 : 2199 < y := by omega)
    clear h
    go_enter Tryd.func3, Tryd.ntmps3
    go_wp2_with (go_at_call 10; refine (leap_any _ _).mono ?_; rintro e w' ⟨rfl, rfl⟩)
    refine (of_no y 1 1 _ hw d1).mono ?_; rintro e w1 ⟨rfl, hb1⟩
    have hw1 := hw.below hb1
    go_wp2_with fail
    refine (of_no y 12 31 _ hw1 d2).mono ?_; rintro e w2 ⟨rfl, hb2⟩
    have hbt := hb1.trans (hb2.mono hb1.size)
    go_wp2
    go_ret
    exact ⟨rfl, hbt⟩

theorem dayYears_top (y : Int) (w : World) (hw : Months w) (_ : (Lit.int .i64 y).wf = true) :
    Calls Tryd.prog 3 #[.int .i64 y] w fun e w' => e = .returned (.bool true) ∧ Below w.heap.size w w' := by
  by_cases h : 1900 ≤ y ∧ y ≤ 2199
  · refine dayYears_in y (365 + Cal.lp y) w hw h.1 h.2 _ rfl rfl ?_
    cases hl : Cal.leapB y
    · simp [Cal.leap_no hl]
    · simp [Cal.leap_yes hl]
  · exact dayYears_out y w hw (by omega)
end Go.Proofs.YtonoiaimknkpfaaDoor
