/- Contracts of the reference's calendar (chimeref1.Leap, Days, ahead, Of, Date, Weekday). -/
import Derived.Test.YtiihkdefhhdfnaaGreatDoorDayD
namespace Go.Proofs.YtiihkdefhhdfnaaGreatDoor
open Go.RowKit

theorem rleap_any (y : Int) (w : World) :
    Calls Tryz.prog 42 #[.int .i64 y] w fun e w' => e = .returned (.bool (Cal.leapB y)) ∧ w = w' := by
  have f4 : y.tmod 4 = 0 ↔ y % 4 = 0 := by rw [← Int.dvd_iff_tmod_eq_zero, Int.dvd_iff_emod_eq_zero]
  have f1 : y.tmod 100 = 0 ↔ y % 100 = 0 := by rw [← Int.dvd_iff_tmod_eq_zero, Int.dvd_iff_emod_eq_zero]
  have f0 : y.tmod 400 = 0 ↔ y % 400 = 0 := by rw [← Int.dvd_iff_tmod_eq_zero, Int.dvd_iff_emod_eq_zero]
  by_cases h4 : y % 4 = 0
  · by_cases h1 : y % 100 = 0
    · by_cases h0 : y % 400 = 0
      · have L := Lib.hid (Cal.leap_mod h4 (.inr h0))
        rcases Int.lt_or_le y 0 with hy | hy
        · have e4 : (y.tmod 4 == 0) = true := by simp [f4, h4]
          have e100 : (y.tmod 100 != 0) = false := by simp [f1, h1]
          have e400 : (y.tmod 400 == 0) = true := by simp [f0, h0]
          clear h4 h1 h0 f4 f1 f0
          go_enter Tryz.func42, Tryz.ntmps42
          go_wp2
          go_ret
          exact ⟨ret_bool L.out.symm, rfl⟩
        · have e4 : (y % 4 == 0) = true := by simp [h4]
          have e100 : (y % 100 != 0) = false := by simp [h1]
          have e400 : (y % 400 == 0) = true := by simp [h0]
          clear h4 h1 h0 f4 f1 f0
          go_enter Tryz.func42, Tryz.ntmps42
          go_wp2
          go_ret
          exact ⟨ret_bool L.out.symm, rfl⟩
      · have L := Lib.hid (Cal.leap_mod_no (y := y) (by omega))
        rcases Int.lt_or_le y 0 with hy | hy
        · have e4 : (y.tmod 4 == 0) = true := by simp [f4, h4]
          have e100 : (y.tmod 100 != 0) = false := by simp [f1, h1]
          have e400 : (y.tmod 400 == 0) = false := by simp [f0, h0]
          clear h4 h1 h0 f4 f1 f0
          go_enter Tryz.func42, Tryz.ntmps42
          go_wp2
          go_ret
          exact ⟨ret_bool L.out.symm, rfl⟩
        · have e4 : (y % 4 == 0) = true := by simp [h4]
          have e100 : (y % 100 != 0) = false := by simp [h1]
          have e400 : (y % 400 == 0) = false := by simp [h0]
          clear h4 h1 h0 f4 f1 f0
          go_enter Tryz.func42, Tryz.ntmps42
          go_wp2
          go_ret
          exact ⟨ret_bool L.out.symm, rfl⟩
    · have h0 : ¬ y % 400 = 0 := by omega
      have L := Lib.hid (Cal.leap_mod h4 (.inl h1))
      rcases Int.lt_or_le y 0 with hy | hy
      · have e4 : (y.tmod 4 == 0) = true := by simp [f4, h4]
        have e100 : (y.tmod 100 != 0) = true := by simp [f1, h1]
        have e400 : (y.tmod 400 == 0) = false := by simp [f0, h0]
        clear h4 h1 h0 f4 f1 f0
        go_enter Tryz.func42, Tryz.ntmps42
        go_wp2
        go_ret
        exact ⟨ret_bool L.out.symm, rfl⟩
      · have e4 : (y % 4 == 0) = true := by simp [h4]
        have e100 : (y % 100 != 0) = true := by simp [h1]
        have e400 : (y % 400 == 0) = false := by simp [h0]
        clear h4 h1 h0 f4 f1 f0
        go_enter Tryz.func42, Tryz.ntmps42
        go_wp2
        go_ret
        exact ⟨ret_bool L.out.symm, rfl⟩
  · have h0 : ¬ y % 400 = 0 := by omega
    have L := Lib.hid (Cal.leap_mod_no (y := y) (by omega))
    rcases Int.lt_or_le y 0 with hy | hy
    · have e4 : (y.tmod 4 == 0) = false := by simp [f4, h4]
      have e400 : (y.tmod 400 == 0) = false := by simp [f0, h0]
      clear h4 h0 f4 f1 f0
      go_enter Tryz.func42, Tryz.ntmps42
      go_wp2
      go_ret
      exact ⟨ret_bool L.out.symm, rfl⟩
    · have e4 : (y % 4 == 0) = false := by simp [h4]
      have e400 : (y % 400 == 0) = false := by simp [h0]
      clear h4 h0 f4 f1 f0
      go_enter Tryz.func42, Tryz.ntmps42
      go_wp2
      go_ret
      exact ⟨ret_bool L.out.symm, rfl⟩

theorem rahead_any (y : Int) (w : World) (h0 : 1 ≤ y) (h1 : y ≤ 10000) :
    Calls Tryz.prog 19 #[.int .i64 y] w fun e w' => e = .returned (.int .i64 (Cal.ahead y)) ∧ w = w' := by
  go_enter Tryz.func19, Tryz.ntmps19
  go_wp2
  go_ret
  exact ⟨ret_int (by unfold Cal.ahead; omega), rfl⟩

theorem rdays_no (y m : Int) (w : World) (h : Cal.monthB y m = false) :
    Calls Tryz.prog 18 #[.int .i64 y, .int .i64 m] w fun e w' => e = .returned (.int .i64 0) ∧ w = w' := by
  have hn := Cal.month_no h
  clear h
  by_cases h1 : y < 1900
  · go_enter Tryz.func18, Tryz.ntmps18
    go_wp2
    go_ret
    exact ⟨rfl, rfl⟩
  by_cases h2 : 2199 < y
  · go_enter Tryz.func18, Tryz.ntmps18
    go_wp2
    go_ret
    exact ⟨rfl, rfl⟩
  by_cases h3 : m < 1
  · go_enter Tryz.func18, Tryz.ntmps18
    go_wp2
    go_ret
    exact ⟨rfl, rfl⟩
  · have h4 : 12 < m := by omega
    clear hn
    go_enter Tryz.func18, Tryz.ntmps18
    go_wp2
    go_ret
    exact ⟨rfl, rfl⟩

theorem rdays_yes (y m : Int) (w : World) (h : Cal.monthB y m = true) :
    Calls Tryz.prog 18 #[.int .i64 y, .int .i64 m] w fun e w' => e = .returned (.int .i64 (Cal.dim y m)) ∧ w = w' := by
  obtain ⟨h1, h2, h3, h4⟩ := Cal.month_yes h
  clear h
  by_cases hm : m = 2
  · subst hm
    have hd := Cal.dim_2 y
    by_cases hl : Cal.leapB y = true
    · have L := Lib.hid (hd.trans (by rw [Cal.leap_yes hl])); clear hd
      go_enter Tryz.func18, Tryz.ntmps18
      go_wp2_with (go_at_call 42; refine (rleap_any _ _).mono ?_; rintro e w' ⟨rfl, rfl⟩)
      go_ret
      exact ⟨by rw [L.out]; rfl, rfl⟩
    · have hl' : Cal.leapB y = false := by simpa using hl
      have L := Lib.hid (hd.trans (by rw [Cal.leap_no hl'])); clear hd hl
      go_enter Tryz.func18, Tryz.ntmps18
      go_wp2_with (go_at_call 42; refine (rleap_any _ _).mono ?_; rintro e w' ⟨rfl, rfl⟩)
      go_ret
      exact ⟨by rw [L.out]; rfl, rfl⟩
  · have hc : (m = 4 ∨ m = 6 ∨ m = 9 ∨ m = 11) ∨ (m = 1 ∨ m = 3 ∨ m = 5 ∨ m = 7 ∨ m = 8 ∨ m = 10 ∨ m = 12) := by omega
    have L := Lib.hid (Cal.dim_mon y m hm); clear hm
    rcases hc with (rfl | rfl | rfl | rfl) | (rfl | rfl | rfl | rfl | rfl | rfl | rfl)
    all_goals
      go_enter Tryz.func18, Tryz.ntmps18
      go_wp2_with (go_at_call 42; refine (rleap_any _ _).mono ?_; rintro e w' ⟨rfl, rfl⟩)
      go_ret
      exact ⟨by rw [L.out]; rfl, rfl⟩

set_option maxHeartbeats 1000000 in
theorem rof_yes (y m d : Int) (w : World) (h : Cal.dateB y m d = true) :
    Calls Tryz.prog 4 #[.agg #[.int .i64 y, .int .i64 m, .int .i64 d]] w fun e w' => e = .returned (.int .i64 (Cal.num y m d)) ∧ Below w.heap.size w w' := by
  obtain ⟨hm, hd1, hd2⟩ := Cal.date_yes h
  obtain ⟨h1, h2, h3, h4⟩ := Cal.month_yes hm
  have hdb := Cal.dim_bd y m
  have hab := Cal.ahead_bd y h1 (by omega)
  clear h
  go_enter Tryz.func4, Tryz.ntmps4
  go_wp2_with (go_at_call 18; refine (rdays_yes y m _ hm).mono ?_; rintro e w' ⟨rfl, rfl⟩)
  go_quiet ((go_at_call 19; exact quiet_l (rahead_any _ _ (by omega) (by omega))))
  go_wp2
  go_loopg [4, 5] 11 (fun g s i wr => ∃ k : Int, 1 ≤ k ∧ k ≤ m ∧ i = .int .i64 k ∧ s = .int .i64 (d + Cal.ahead y + Cal.cum y k) ∧ g = (12 - k).toNat ∧ ∃ nq, wr = (w.alloc (.cells #[.int .i64 y, .int .i64 m, .int .i64 d] 23)).drewN nq)
  case atStart => exact ⟨1, by omega, by omega, rfl, by rw [Cal.cum_1]; simp, rfl, _, rfl⟩
  case round =>
    obtain ⟨k, hk1, hk2, rfl, rfl, hg, nq, rfl⟩ := hrel
    have G := Lib.hid hg; clear hg
    have hcb := Cal.cum_bd y k
    by_cases hlt : k < m
    · have Hcs := Lib.hid (Cal.cum_succ y k hk1 (by omega))
      have hkb := Cal.dim_bd y k
      have hmk := Cal.month_mk h1 h2 hk1 (by omega)
      go_wp2_with (go_at_call 18; refine (rdays_yes y k _ hmk).mono ?_; rintro e w' ⟨rfl, rfl⟩)
      go_roundg ((12 - (k + 1)).toNat)
      case measure => rw [G.out]; omega
      case rel => exact ⟨k + 1, by omega, by omega, rfl, by rw [Hcs.out]; go_num, rfl, _, rfl⟩
    · obtain rfl : k = m := by omega
      go_wp2
      go_ret
      exact ⟨ret_int (by unfold Cal.num; omega), below_drewN ((Below.refl _ _).alloc (Nat.le_refl _) _) _⟩

set_option maxHeartbeats 1000000 in
theorem rof_no (y m d : Int) (w : World) (h : Cal.dateB y m d = false) :
    Calls Tryz.prog 4 #[.agg #[.int .i64 y, .int .i64 m, .int .i64 d]] w fun e w' => e = .returned (.int .i64 0) ∧ Below w.heap.size w w' := by
  by_cases hm : Cal.monthB y m = true
  · have hd : d < 1 ∨ Cal.dim y m < d := by
      rcases Int.lt_or_le d 1 with h1 | h1
      · exact .inl h1
      · rcases Int.lt_or_le (Cal.dim y m) d with h2 | h2
        · exact .inr h2
        · rw [Cal.date_mk hm h1 h2] at h; cases h
    have hdb := Cal.dim_bd y m
    clear h
    by_cases hd1 : d < 1
    · clear hd
      go_enter Tryz.func4, Tryz.ntmps4
      go_wp2_with (go_at_call 18; refine (rdays_yes y m _ hm).mono ?_; rintro e w' ⟨rfl, rfl⟩)
      go_ret
      exact ⟨rfl, (Below.refl _ _).alloc (Nat.le_refl _) _⟩
    · have hd2 : Cal.dim y m < d := by omega
      clear hd
      go_enter Tryz.func4, Tryz.ntmps4
      go_wp2_with (go_at_call 18; refine (rdays_yes y m _ hm).mono ?_; rintro e w' ⟨rfl, rfl⟩)
      go_ret
      exact ⟨rfl, (Below.refl _ _).alloc (Nat.le_refl _) _⟩
  · have hm' : Cal.monthB y m = false := by simpa using hm
    clear hm h
    by_cases hd1 : d < 1
    · go_enter Tryz.func4, Tryz.ntmps4
      go_wp2_with (go_at_call 18; refine (rdays_no y m _ hm').mono ?_; rintro e w' ⟨rfl, rfl⟩)
      go_ret
      exact ⟨rfl, (Below.refl _ _).alloc (Nat.le_refl _) _⟩
    · have hd2 : 0 < d := by omega
      go_enter Tryz.func4, Tryz.ntmps4
      go_wp2_with (go_at_call 18; refine (rdays_no y m _ hm').mono ?_; rintro e w' ⟨rfl, rfl⟩)
      go_ret
      exact ⟨rfl, (Below.refl _ _).alloc (Nat.le_refl _) _⟩

theorem rdate_no (n : Int) (w : World) (h : n < 1 ∨ 109573 < n) :
    Calls Tryz.prog 23 #[.int .i64 n] w fun e w' => e = .returned (.tuple #[.agg #[.int .i64 0, .int .i64 0, .int .i64 0], .bool false]) ∧ Below w.heap.size w w' := by
  by_cases h1 : n < 1
  · clear h
    go_enter Tryz.func23, Tryz.ntmps23
    go_wp2
    exact bodyPost_ret (v := .tuple #[.agg #[.int .i64 0, .int .i64 0, .int .i64 0], .bool false]) (by simp [results, Tryz.results23, go_sem]) rfl ⟨rfl, (Below.refl _ _).alloc (Nat.le_refl _) _⟩
  · have h2 : 109573 < n := by omega
    clear h
    go_enter Tryz.func23, Tryz.ntmps23
    go_wp2
    exact bodyPost_ret (v := .tuple #[.agg #[.int .i64 0, .int .i64 0, .int .i64 0], .bool false]) (by simp [results, Tryz.results23, go_sem]) rfl ⟨rfl, (Below.refl _ _).alloc (Nat.le_refl _) _⟩

set_option maxHeartbeats 1000000 in
theorem rdate_yes (n : Int) (w : World) (h1 : 1 ≤ n) (h2 : n ≤ 109573) :
    Calls Tryz.prog 23 #[.int .i64 n] w fun e w' => ∃ y m d : Int, e = .returned (.tuple #[.agg #[.int .i64 y, .int .i64 m, .int .i64 d], .bool true]) ∧ Cal.dateB y m d = true ∧ Cal.num y m d = n ∧ Below w.heap.size w w' := by
  obtain ⟨g0, g1⟩ := Cal.ahead_guess n h1 h2
  go_enter Tryz.func23, Tryz.ntmps23
  go_wp2
  go_loopg [4] ((2199 - (1900 + (n - 1) / 366)).toNat) (fun k t wr => ∃ y : Int, 1900 ≤ y ∧ y ≤ 2199 ∧ Cal.ahead y < n ∧ k = (2199 - y).toNat ∧ t = .int .i64 y ∧
    wr = w.alloc (.cells #[.int .i64 0, .int .i64 0, .int .i64 0] 23))
  case atStart => exact ⟨_, by omega, g1, g0, rfl, rfl, rfl⟩
  case round =>
    obtain ⟨y, hy1, hy2, hy3, hgk, rfl, rfl⟩ := hrel
    have G := Lib.hid hgk; clear hgk
    by_cases hc : Cal.ahead (y + 1) < n
    · have hy4 : y + 1 ≤ 2199 := by
        rcases Int.lt_or_le 2199 (y + 1) with h | h
        · have e : y = 2199 := by omega
          subst e; have := Cal.ahead_2200; simp at hc; omega
        · exact h
      go_wp2_with (go_at_call 19; refine (rahead_any _ _ (by omega) (by omega)).mono ?_; rintro e w' ⟨rfl, rfl⟩)
      go_roundg ((2199 - (y + 1)).toNat)
      case measure => rw [G.out]; omega
      case rel => exact ⟨y + 1, by omega, hy4, hc, rfl, rfl, rfl⟩
    · have hy5 : n ≤ Cal.ahead (y + 1) := by omega
      have hs := Cal.ahead_succ y
      have hl := Cal.lp_01 y
      have hab := Cal.ahead_bd y hy1 (by omega)
      have hn' : n - Cal.ahead y ≤ 365 + Cal.lp y := by omega
      have HS := Lib.hid hs; clear hs
      go_wp2_with (go_at_call 19; refine (rahead_any _ _ (by omega) (by omega)).mono ?_; rintro e w' ⟨rfl, rfl⟩)
      go_loopg [0, 5] 11 (fun k t u wr => ∃ m : Int, 1 ≤ m ∧ m ≤ 12 ∧ Cal.cum y m < n - Cal.ahead y ∧ k = (12 - m).toNat ∧ u = .int .i64 m ∧ t = .int .i64 (n - Cal.ahead y - Cal.cum y m) ∧
        wr = w.alloc (.cells #[.int .i64 0, .int .i64 0, .int .i64 0] 23))
      case atStart => exact ⟨1, by omega, by omega, by rw [Cal.cum_1]; omega, rfl, rfl, by rw [Cal.cum_1]; simp, rfl⟩
      case round =>
        obtain ⟨m, hm1, hm2, hm3, hgk, rfl, rfl, rfl⟩ := hrel
        have G := Lib.hid hgk; clear hgk
        have cb := Cal.cum_bd y m
        have db := Cal.dim_bd y m
        have cs := Lib.hid (Cal.cum_succ y m hm1 hm2)
        have hmk := Cal.month_mk hy1 hy2 hm1 hm2
        by_cases hle : n - Cal.ahead y - Cal.cum y m ≤ Cal.dim y m
        · have hd := Lib.hid (Cal.date_mk hmk (by omega) hle)
          have hnum : Cal.num y m (n - Cal.ahead y - Cal.cum y m) = n := by unfold Cal.num; omega
          have HN := Lib.hid hnum; clear hnum
          go_wp2_with (go_at_call 18; refine (rdays_yes y m _ hmk).mono ?_; rintro e w' ⟨rfl, rfl⟩)
          refine bodyPost_ret (v := .tuple #[.agg #[.int .i64 y, .int .i64 m, .int .i64 (n - Cal.ahead y - Cal.cum y m)], .bool true]) (by simp [results, Tryz.results23, go_sem]) rfl ⟨y, m, _, rfl, hd.out, HN.out, ?_⟩
          exact (Below.refl _ _).alloc (Nat.le_refl _) _
        · have hm12 : m < 12 := by
            rcases Int.lt_or_le m 12 with h | h
            · exact h
            · obtain rfl : m = 12 := by omega
              have := Cal.cum_succ y 12 (by omega) (by omega); have h13 := Cal.cum_13 y; rw [show (12 : Int) + 1 = 13 from rfl] at this; omega
          go_wp2_with (go_at_call 18; refine (rdays_yes y m _ hmk).mono ?_; rintro e w' ⟨rfl, rfl⟩)
          go_roundg ((12 - (m + 1)).toNat)
          case measure => rw [G.out]; omega
          case rel => exact ⟨m + 1, by omega, by omega, by rw [cs.out]; omega, rfl, rfl, by rw [cs.out]; go_num, rfl⟩

/-- The date of a date's day is that date. -/
theorem rdate_num (y m d : Int) (w : World) (h : Cal.dateB y m d = true) :
    Calls Tryz.prog 23 #[.int .i64 (Cal.num y m d)] w fun e w' => e = .returned (.tuple #[.agg #[.int .i64 y, .int .i64 m, .int .i64 d], .bool true]) ∧ Below w.heap.size w w' := by
  obtain ⟨_, _, b1, b2⟩ := Cal.num_bd h
  refine (rdate_yes (Cal.num y m d) w b1 b2).mono ?_
  rintro e w' ⟨y', m', d', he, h', hn, hb⟩
  obtain ⟨rfl, rfl, rfl⟩ := Cal.num_inj h' h hn
  exact ⟨he, hb⟩

end Go.Proofs.YtiihkdefhhdfnaaGreatDoor
