/- Contracts of the reference's calendar (chimeref1.Leap, Days, ahead, Of, Date, Weekday). -/
import Derived.Test.YtdkcgggnkhbkkaaDoorDayD
namespace Go.Proofs.YtdkcgggnkhbkkaaDoor
open Go.RowKit

theorem rleap_any (y : Int) (w : World) :
    Calls Tryd.prog 101 #[.int .i64 y] w fun e w' => e = .returned (.bool (Cal.leapB y)) ∧ w = w' := by
  have f4 : y.tmod 4 = 0 ↔ y % 4 = 0 := by rw [← Int.dvd_iff_tmod_eq_zero, Int.dvd_iff_emod_eq_zero]
  have f1 : y.tmod 100 = 0 ↔ y % 100 = 0 := by rw [← Int.dvd_iff_tmod_eq_zero, Int.dvd_iff_emod_eq_zero]
  have f0 : y.tmod 400 = 0 ↔ y % 400 = 0 := by rw [← Int.dvd_iff_tmod_eq_zero, Int.dvd_iff_emod_eq_zero]
  by_cases h4 : y % 4 = 0
  · by_cases h1 : y % 100 = 0
    · by_cases h0 : y % 400 = 0
      · have L := Lib.hid (Cal.leap_mod h4 (.inr h0))
        rcases Int.lt_or_le y 0 with hy | hy
        · have e4 : (y.tmod 4 == 0) = true := by simp [f4, h4]
          have e100 : (y.tmod 100 != 0) = false := by simp [f1, h1]
          have e400 : (y.tmod 400 == 0) = true := by simp [f0, h0]
          clear h4 h1 h0 f4 f1 f0
          go_enter Tryd.func101, Tryd.ntmps101
          go_wp2
          go_ret
          exact ⟨ret_bool L.out.symm, rfl⟩
        · have e4 : (y % 4 == 0) = true := by simp [h4]
          have e100 : (y % 100 != 0) = false := by simp [h1]
          have e400 : (y % 400 == 0) = true := by simp [h0]
          clear h4 h1 h0 f4 f1 f0
          go_enter Tryd.func101, Tryd.ntmps101
          go_wp2
          go_ret
          exact ⟨ret_bool L.out.symm, rfl⟩
      · have L := Lib.hid (Cal.leap_mod_no (y := y) (by omega))
        rcases Int.lt_or_le y 0 with hy | hy
        · have e4 : (y.tmod 4 == 0) = true := by simp [f4, h4]
          have e100 : (y.tmod 100 != 0) = false := by simp [f1, h1]
          have e400 : (y.tmod 400 == 0) = false := by simp [f0, h0]
          clear h4 h1 h0 f4 f1 f0
          go_enter Tryd.func101, Tryd.ntmps101
          go_wp2
          go_ret
          exact ⟨ret_bool L.out.symm, rfl⟩
        · have e4 : (y % 4 == 0) = true := by simp [h4]
          have e100 : (y % 100 != 0) = false := by simp [h1]
          have e400 : (y % 400 == 0) = false := by simp [h0]
          clear h4 h1 h0 f4 f1 f0
          go_enter Tryd.func101, Tryd.ntmps101
          go_wp2
          go_ret
          exact ⟨ret_bool L.out.symm, rfl⟩
    · have h0 : ¬ y % 400 = 0 := by omega
      have L := Lib.hid (Cal.leap_mod h4 (.inl h1))
      rcases Int.lt_or_le y 0 with hy | hy
      · have e4 : (y.tmod 4 == 0) = true := by simp [f4, h4]
        have e100 : (y.tmod 100 != 0) = true := by simp [f1, h1]
        have e400 : (y.tmod 400 == 0) = false := by simp [f0, h0]
        clear h4 h1 h0 f4 f1 f0
        go_enter Tryd.func101, Tryd.ntmps101
        go_wp2
        go_ret
        exact ⟨ret_bool L.out.symm, rfl⟩
      · have e4 : (y % 4 == 0) = true := by simp [h4]
        have e100 : (y % 100 != 0) = true := by simp [h1]
        have e400 : (y % 400 == 0) = false := by simp [h0]
        clear h4 h1 h0 f4 f1 f0
        go_enter Tryd.func101, Tryd.ntmps101
        go_wp2
        go_ret
        exact ⟨ret_bool L.out.symm, rfl⟩
  · have h0 : ¬ y % 400 = 0 := by omega
    have L := Lib.hid (Cal.leap_mod_no (y := y) (by omega))
    rcases Int.lt_or_le y 0 with hy | hy
    · have e4 : (y.tmod 4 == 0) = false := by simp [f4, h4]
      have e400 : (y.tmod 400 == 0) = false := by simp [f0, h0]
      clear h4 h0 f4 f1 f0
      go_enter Tryd.func101, Tryd.ntmps101
      go_wp2
      go_ret
      exact ⟨ret_bool L.out.symm, rfl⟩
    · have e4 : (y % 4 == 0) = false := by simp [h4]
      have e400 : (y % 400 == 0) = false := by simp [h0]
      clear h4 h0 f4 f1 f0
      go_enter Tryd.func101, Tryd.ntmps101
      go_wp2
      go_ret
      exact ⟨ret_bool L.out.symm, rfl⟩

theorem rdays_no (y m : Int) (w : World) (h : Cal.monthB y m = false) :
    Calls Tryd.prog 54 #[.int .i64 y, .int .i64 m] w fun e w' => e = .returned (.int .i64 0) ∧ w = w' := by
  have hn := Cal.month_no h
  clear h
  by_cases h1 : y < 1900
  · go_enter Tryd.func54, Tryd.ntmps54
    go_wp2
    go_ret
    exact ⟨rfl, rfl⟩
  by_cases h2 : 2199 < y
  · go_enter Tryd.func54, Tryd.ntmps54
    go_wp2
    go_ret
    exact ⟨rfl, rfl⟩
  by_cases h3 : m < 1
  · go_enter Tryd.func54, Tryd.ntmps54
    go_wp2
    go_ret
    exact ⟨rfl, rfl⟩
  · have h4 : 12 < m := by omega
    clear hn
    go_enter Tryd.func54, Tryd.ntmps54
    go_wp2
    go_ret
    exact ⟨rfl, rfl⟩

theorem rdays_yes (y m : Int) (w : World) (h : Cal.monthB y m = true) :
    Calls Tryd.prog 54 #[.int .i64 y, .int .i64 m] w fun e w' => e = .returned (.int .i64 (Cal.dim y m)) ∧ w = w' := by
  obtain ⟨h1, h2, h3, h4⟩ := Cal.month_yes h
  clear h
  by_cases hm : m = 2
  · subst hm
    have hd := Cal.dim_2 y
    by_cases hl : Cal.leapB y = true
    · have L := Lib.hid (hd.trans (by rw [Cal.leap_yes hl])); clear hd
      go_enter Tryd.func54, Tryd.ntmps54
      go_wp2_with (go_at_call 101; refine (rleap_any _ _).mono ?_; rintro e w' ⟨rfl, rfl⟩)
      go_ret
      exact ⟨by rw [L.out]; rfl, rfl⟩
    · have hl' : Cal.leapB y = false := by simpa using hl
      have L := Lib.hid (hd.trans (by rw [Cal.leap_no hl'])); clear hd hl
      go_enter Tryd.func54, Tryd.ntmps54
      go_wp2_with (go_at_call 101; refine (rleap_any _ _).mono ?_; rintro e w' ⟨rfl, rfl⟩)
      go_ret
      exact ⟨by rw [L.out]; rfl, rfl⟩
  · have hc : (m = 4 ∨ m = 6 ∨ m = 9 ∨ m = 11) ∨ (m = 1 ∨ m = 3 ∨ m = 5 ∨ m = 7 ∨ m = 8 ∨ m = 10 ∨ m = 12) := by omega
    have L := Lib.hid (Cal.dim_mon y m hm); clear hm
    rcases hc with (rfl | rfl | rfl | rfl) | (rfl | rfl | rfl | rfl | rfl | rfl | rfl)
    all_goals
      go_enter Tryd.func54, Tryd.ntmps54
      go_wp2_with (go_at_call 101; refine (rleap_any _ _).mono ?_; rintro e w' ⟨rfl, rfl⟩)
      go_ret
      exact ⟨by rw [L.out]; rfl, rfl⟩

end Go.Proofs.YtdkcgggnkhbkkaaDoor
