/- Contracts of day.Of: the day of a date, and its error. -/
import Derived.Test.YtiihkdefhhdfnaaGreatDoorDayB
namespace Go.Proofs.YtiihkdefhhdfnaaGreatDoor
open Go.RowKit

set_option maxHeartbeats 1000000 in
theorem of_yes (y m d : Int) (w : World) (hw : Months w) (h : Cal.dateB y m d = true) :
    Calls Tryz.prog 20 #[.agg #[.int .i64 y, .int .i64 m, .int .i64 d]] w fun e w' => e = .returned (.tuple #[.int .i64 (Cal.num y m d), .nilIface]) ∧ Below w.heap.size w w' := by
  obtain ⟨hm, hd1, hd2⟩ := Cal.date_yes h
  obtain ⟨h1, h2, h3, h4⟩ := Cal.month_yes hm
  have hdb := Cal.dim_bd y m
  have hab := Cal.ahead_bd y h1 (by omega)
  have hm1 : ((1 : Int) < m) = ((1 : Int) < m) := rfl
  clear h hm1
  go_enter Tryz.func20, Tryz.ntmps20
  go_wp2_with (go_at_call 43; refine (days_yes y m _ (hw.alloc _) hm).mono ?_; rintro e w' ⟨rfl, rfl⟩)
  go_quiet ((go_at_call 44; exact quiet_l (ahead_any _ _ (by omega) (by omega))))
  go_wp2
  go_loop [6, 7] (fun s i => ∃ k : Int, 1 ≤ k ∧ k ≤ m ∧ i = .int .i64 k ∧ s = .int .i64 (Cal.ahead y + d + Cal.cum y k)) (fun _ i => (12 - intOf i).toNat)
  case atStart => exact ⟨1, by omega, by omega, rfl, by rw [Cal.cum_1]; simp⟩
  case round =>
    obtain ⟨k, hk1, hk2, rfl, rfl⟩ := hrel
    have hcb := Cal.cum_bd y k
    by_cases hlt : k < m
    · have hcs := Cal.cum_succ y k hk1 (by omega)
      have hkb := Cal.dim_bd y k
      have hmk := Cal.month_mk h1 h2 hk1 (by omega)
      have Hcs := Lib.hid hcs; clear hcs
      go_wp2_with (go_at_call 43; refine (days_yes y k _ ((hw.alloc _).drewN _) hmk).mono ?_; rintro e w' ⟨rfl, rfl⟩)
      go_round
      case rel => exact ⟨k + 1, by omega, by omega, rfl, by rw [Hcs.out]; go_num⟩
      case measure => simp [intOf]; omega
    · obtain rfl : k = m := by omega
      go_wp2
      go_ret2
      exact ⟨by rw [show Cal.num y k d = Cal.ahead y + d + Cal.cum y k from by unfold Cal.num; omega]; rfl, below_drewN ((Below.refl _ _).alloc (Nat.le_refl _) _) _⟩

set_option maxHeartbeats 1000000 in
theorem of_no (y m d : Int) (w : World) (hw : Months w) (h : Cal.dateB y m d = false) :
    Calls Tryz.prog 20 #[.agg #[.int .i64 y, .int .i64 m, .int .i64 d]] w fun e w' => e = .returned (.tuple #[.int .i64 0, .iface 44 (.int .i64 1)]) ∧ Below w.heap.size w w' := by
  by_cases hm : Cal.monthB y m = true
  · have hd : d < 1 ∨ Cal.dim y m < d := by
      rcases Int.lt_or_le d 1 with h1 | h1
      · exact .inl h1
      · rcases Int.lt_or_le (Cal.dim y m) d with h2 | h2
        · exact .inr h2
        · rw [Cal.date_mk hm h1 h2] at h; cases h
    have hdb := Cal.dim_bd y m
    clear h
    by_cases hd1 : d < 1
    · clear hd
      go_enter Tryz.func20, Tryz.ntmps20
      go_wp2_with (go_at_call 43; refine (days_yes y m _ (hw.alloc _) hm).mono ?_; rintro e w' ⟨rfl, rfl⟩)
      go_ret2
      exact ⟨rfl, (Below.refl _ _).alloc (Nat.le_refl _) _⟩
    · have hd2 : Cal.dim y m < d := by omega
      clear hd
      go_enter Tryz.func20, Tryz.ntmps20
      go_wp2_with (go_at_call 43; refine (days_yes y m _ (hw.alloc _) hm).mono ?_; rintro e w' ⟨rfl, rfl⟩)
      go_ret2
      exact ⟨rfl, (Below.refl _ _).alloc (Nat.le_refl _) _⟩
  · have hm' : Cal.monthB y m = false := by simpa using hm
    clear hm h
    go_enter Tryz.func20, Tryz.ntmps20
    go_wp2_with (go_at_call 43; refine (days_no y m _ hm').mono ?_; rintro e w' ⟨rfl, rfl⟩)
    go_ret2
    exact ⟨rfl, (Below.refl _ _).alloc (Nat.le_refl _) _⟩
end Go.Proofs.YtiihkdefhhdfnaaGreatDoor
