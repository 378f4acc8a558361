/- Contracts of day.Date: the date of a day, and its error. -/
import Derived.Test.YtiihkdefhhdfnaaGreatDoorDayC
import Derived.Deep.LoopGhost
namespace Go.Proofs.YtiihkdefhhdfnaaGreatDoor
open Go.RowKit

set_option maxHeartbeats 1000000 in
theorem date_no (n : Int) (w : World) (h : n < 1 ∨ 109573 < n) :
    Calls Tryz.prog 26 #[.int .i64 n] w fun e w' => e = .returned (.tuple #[.agg #[.int .i64 0, .int .i64 0, .int .i64 0], .iface 44 (.int .i64 1)]) ∧ Below w.heap.size w w' := by
  go_enter Tryz.func26, Tryz.ntmps26
  go_wp2_with (go_at_call 46; refine (day_no n _ h).mono ?_; rintro e w' ⟨rfl, rfl⟩)
  exact bodyPost_ret (v := .tuple #[.agg #[.int .i64 0, .int .i64 0, .int .i64 0], .iface 44 (.int .i64 1)]) (by simp [results, Tryz.results26, go_sem]) rfl ⟨rfl, (Below.refl _ _).alloc (Nat.le_refl _) _⟩

set_option maxHeartbeats 1000000 in
theorem date_yes (n : Int) (w : World) (hw : Months w) (h1 : 1 ≤ n) (h2 : n ≤ 109573) :
    Calls Tryz.prog 26 #[.int .i64 n] w fun e w' => ∃ y m d : Int, e = .returned (.tuple #[.agg #[.int .i64 y, .int .i64 m, .int .i64 d], .nilIface]) ∧ Cal.dateB y m d = true ∧ Cal.num y m d = n ∧ Below w.heap.size w w' := by
  obtain ⟨g0, g1⟩ := Cal.ahead_guess n h1 h2
  go_enter Tryz.func26, Tryz.ntmps26
  go_wp2_with (go_at_call 46; refine (day_yes n _ h1 h2).mono ?_; rintro e w' ⟨rfl, rfl⟩)
  go_loopg [] ((2199 - (1900 + (n - 1) / 366)).toNat) (fun k wr => ∃ y : Int, 1900 ≤ y ∧ y ≤ 2199 ∧ Cal.ahead y < n ∧ k = (2199 - y).toNat ∧
    wr = (w.alloc (.cells #[.int .i64 0, .int .i64 0, .int .i64 0] 23)).alloc (.cells #[.int .i64 y, .int .i64 1, .int .i64 0] 23))
  case atStart => exact ⟨_, by omega, g1, g0, rfl, rfl⟩
  case round =>
    obtain ⟨y, hy1, hy2, hy3, hgk, rfl⟩ := hrel
    have G := Lib.hid hgk; clear hgk
    by_cases hc : Cal.ahead (y + 1) < n
    · have hy4 : y + 1 ≤ 2199 := by
        rcases Int.lt_or_le 2199 (y + 1) with h | h
        · have e : y = 2199 := by omega
          subst e; have := Cal.ahead_2200; simp at hc; omega
        · exact h
      go_wp2_with (go_at_call 44; refine (ahead_any _ _ (by omega) (by omega)).mono ?_; rintro e w' ⟨rfl, rfl⟩)
      go_roundg ((2199 - (y + 1)).toNat)
      case measure => rw [G.out]; omega
      case rel => exact ⟨y + 1, by omega, hy4, hc, rfl, rfl⟩
    · have hy5 : n ≤ Cal.ahead (y + 1) := by omega
      have hs := Cal.ahead_succ y
      have hl := Cal.lp_01 y
      have hab := Cal.ahead_bd y hy1 (by omega)
      have hn' : n - Cal.ahead y ≤ 365 + Cal.lp y := by omega
      have HS := Lib.hid hs; clear hs
      go_wp2_with (go_at_call 44; refine (ahead_any _ _ (by omega) (by omega)).mono ?_; rintro e w' ⟨rfl, rfl⟩)
      go_loopg [] 11 (fun k wr => ∃ m : Int, 1 ≤ m ∧ m ≤ 12 ∧ Cal.cum y m < n - Cal.ahead y ∧ k = (12 - m).toNat ∧
        wr = (w.alloc (.cells #[.int .i64 0, .int .i64 0, .int .i64 0] 23)).alloc (.cells #[.int .i64 y, .int .i64 m, .int .i64 (n - Cal.ahead y - Cal.cum y m)] 23))
      case atStart => exact ⟨1, by omega, by omega, by rw [Cal.cum_1]; omega, rfl, by rw [Cal.cum_1]; simp⟩
      case round =>
        obtain ⟨m, hm1, hm2, hm3, hgk, rfl⟩ := hrel
        have G := Lib.hid hgk; clear hgk
        have cb := Cal.cum_bd y m
        have db := Cal.dim_bd y m
        have cs := Lib.hid (Cal.cum_succ y m hm1 hm2)
        have hmk := Cal.month_mk hy1 hy2 hm1 hm2
        by_cases hle : n - Cal.ahead y - Cal.cum y m ≤ Cal.dim y m
        · have hd := Lib.hid (Cal.date_mk hmk (by omega) hle)
          have hnum : Cal.num y m (n - Cal.ahead y - Cal.cum y m) = n := by unfold Cal.num; omega
          have HN := Lib.hid hnum; clear hnum
          go_wp2_with (go_at_call 43; refine (days_yes y m _ ((hw.alloc _).alloc _) hmk).mono ?_; rintro e w' ⟨rfl, rfl⟩)
          refine bodyPost_ret (v := .tuple #[.agg #[.int .i64 y, .int .i64 m, .int .i64 (n - Cal.ahead y - Cal.cum y m)], .nilIface]) (by simp [results, Tryz.results26, go_sem]) rfl ⟨y, m, _, rfl, hd.out, HN.out, ?_⟩
          exact ((Below.refl _ _).alloc (Nat.le_refl _) _).alloc (by simp) _
        · have hm12 : m < 12 := by
            rcases Int.lt_or_le m 12 with h | h
            · exact h
            · obtain rfl : m = 12 := by omega
              have := Cal.cum_succ y 12 (by omega) (by omega); have h13 := Cal.cum_13 y; rw [show (12 : Int) + 1 = 13 from rfl] at this; omega
          go_wp2_with (go_at_call 43; refine (days_yes y m _ ((hw.alloc _).alloc _) hmk).mono ?_; rintro e w' ⟨rfl, rfl⟩)
          go_roundg ((12 - (m + 1)).toNat)
          case measure => rw [G.out]; omega
          case rel => exact ⟨m + 1, by omega, by omega, by rw [cs.out]; omega, rfl, by rw [cs.out, show n - Cal.ahead y - (Cal.cum y m + Cal.dim y m) = n - Cal.ahead y - Cal.cum y m - Cal.dim y m from by omega]⟩

/-- The date of a date's day is that date. -/
theorem date_num (y m d : Int) (w : World) (hw : Months w) (h : Cal.dateB y m d = true) :
    Calls Tryz.prog 26 #[.int .i64 (Cal.num y m d)] w fun e w' => e = .returned (.tuple #[.agg #[.int .i64 y, .int .i64 m, .int .i64 d], .nilIface]) ∧ Below w.heap.size w w' := by
  obtain ⟨_, _, b1, b2⟩ := Cal.num_bd h
  refine (date_yes (Cal.num y m d) w hw b1 b2).mono ?_
  rintro e w' ⟨y', m', d', he, h', hn, hb⟩
  obtain ⟨rfl, rfl, rfl⟩ := Cal.num_inj h' h hn
  exact ⟨he, hb⟩