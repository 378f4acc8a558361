/- Contracts of clock.Valid, clock.Add, clock.Split: they only compute. No condition but the bounds that each states. -/
import Derived.Test.YtiihkdefhhdfnaaGreatDoorDayA
namespace Go.Proofs.YtiihkdefhhdfnaaGreatDoor
open Go.RowKit

/-- is a number a time? -/
def timeB (t : Int) : Bool := decide (1 ≤ t) && decide (t < 157785120)

theorem timeB_yes {t : Int} (h : timeB t = true) : 1 ≤ t ∧ t < 157785120 := by simpa [timeB] using h

theorem timeB_no {t : Int} (h : timeB t = false) : t < 1 ∨ 157785120 ≤ t := by
  simp [timeB] at h; omega

theorem timeB_mk {t : Int} (h : 1 ≤ t) (h2 : t < 157785120) : timeB t = true := by simp [timeB, h, h2]

theorem timeB_mk_no {t : Int} (h : t < 1 ∨ 157785120 ≤ t) : timeB t = false := by
  simp [timeB]; omega

theorem valid_any (t : Int) (w : World) :
    Calls Tryz.prog 21 #[.int .i64 t] w fun e w' => e = .returned (.bool (timeB t)) ∧ w = w' := by
  by_cases h : 1 ≤ t
  · by_cases h2 : t < 157785120
    · go_enter Tryz.func21, Tryz.ntmps21
      go_wp2_with (go_at_call 34; refine (last_any _).mono ?_; rintro e w' ⟨rfl, rfl⟩)
      go_ret
      exact ⟨ret_bool (timeB_mk h h2).symm, rfl⟩
    · go_enter Tryz.func21, Tryz.ntmps21
      go_wp2_with (go_at_call 34; refine (last_any _).mono ?_; rintro e w' ⟨rfl, rfl⟩)
      go_ret
      exact ⟨ret_bool (by rw [timeB_mk_no (by omega)]; simp; omega), rfl⟩
  · go_enter Tryz.func21, Tryz.ntmps21
    go_wp2_with (go_at_call 34; refine (last_any _).mono ?_; rintro e w' ⟨rfl, rfl⟩)
    go_ret
    exact ⟨ret_bool (timeB_mk_no (by omega)).symm, rfl⟩

theorem valid_yes (t : Int) (w : World) (h : timeB t = true) :
    Calls Tryz.prog 21 #[.int .i64 t] w fun e w' => e = .returned (.bool true) ∧ w = w' := by
  rw [← h]; exact valid_any t w

theorem valid_no (t : Int) (w : World) (h : timeB t = false) :
    Calls Tryz.prog 21 #[.int .i64 t] w fun e w' => e = .returned (.bool false) ∧ w = w' := by
  rw [← h]; exact valid_any t w

theorem split_yes (t : Int) (w : World) (h : timeB t = true) :
    Calls Tryz.prog 9 #[.int .i64 t] w fun e w' => e = .returned (.tuple #[.int .i64 (t / 1440 + 1), .int .i64 (t % 1440), .nilIface]) ∧ w = w' := by
  have hb := timeB_yes h
  have H := Lib.hid h; clear h
  obtain ⟨h1, h2⟩ := hb
  go_enter Tryz.func9, Tryz.ntmps9
  go_wp2_with (go_at_call 21; refine (valid_yes _ _ H.out).mono ?_; rintro e w' ⟨rfl, rfl⟩)
  go_ret3
  exact ⟨rfl, rfl⟩

theorem split_no (t : Int) (w : World) (h : timeB t = false) :
    Calls Tryz.prog 9 #[.int .i64 t] w fun e w' => e = .returned (.tuple #[.int .i64 0, .int .i64 0, .iface 44 (.int .i64 1)]) ∧ w = w' := by
  have H := Lib.hid h; clear h
  go_enter Tryz.func9, Tryz.ntmps9
  go_wp2_with (go_at_call 21; refine (valid_no _ _ H.out).mono ?_; rintro e w' ⟨rfl, rfl⟩)
  go_ret3
  exact ⟨rfl, rfl⟩

theorem add_yes (t m : Int) (w : World) (h : timeB t = true) (h1 : -157785120 ≤ m) (h2 : m ≤ 157785120) (h3 : timeB (t + m) = true) :
    Calls Tryz.prog 13 #[.int .i64 t, .int .i64 m] w fun e w' => e = .returned (.tuple #[.int .i64 (t + m), .nilIface]) ∧ w = w' := by
  obtain ⟨a1, a2⟩ := timeB_yes h
  go_enter Tryz.func13, Tryz.ntmps13
  go_wp2_with (first | (go_at_call 34; refine (last_any _).mono ?_; rintro e w' ⟨rfl, rfl⟩) | (go_at_call 21; refine (valid_any _ _).mono ?_; rintro e w' ⟨rfl, rfl⟩))
  go_ret2
  exact ⟨rfl, rfl⟩

theorem add_no (t m : Int) (w : World) (h : timeB t = false ∨ m < -157785120 ∨ 157785120 < m ∨ timeB (t + m) = false) :
    Calls Tryz.prog 13 #[.int .i64 t, .int .i64 m] w fun e w' => e = .returned (.tuple #[.int .i64 0, .iface 44 (.int .i64 1)]) ∧ w = w' := by
  by_cases c : timeB t = true
  · obtain ⟨a1, a2⟩ := timeB_yes c
    by_cases c1 : m < -157785120
    · clear h
      go_enter Tryz.func13, Tryz.ntmps13
      go_wp2_with (first | (go_at_call 34; refine (last_any _).mono ?_; rintro e w' ⟨rfl, rfl⟩) | (go_at_call 21; refine (valid_any _ _).mono ?_; rintro e w' ⟨rfl, rfl⟩))
      go_ret2
      exact ⟨rfl, rfl⟩
    by_cases c2 : 157785120 < m
    · clear h
      go_enter Tryz.func13, Tryz.ntmps13
      go_wp2_with (first | (go_at_call 34; refine (last_any _).mono ?_; rintro e w' ⟨rfl, rfl⟩) | (go_at_call 21; refine (valid_any _ _).mono ?_; rintro e w' ⟨rfl, rfl⟩))
      go_ret2
      exact ⟨rfl, rfl⟩
    · have h3 : timeB (t + m) = false := by
        rcases h with h | h | h | h
        · rw [c] at h; cases h
        · omega
        · omega
        · exact h
      clear h
      go_enter Tryz.func13, Tryz.ntmps13
      go_wp2_with (first | (go_at_call 34; refine (last_any _).mono ?_; rintro e w' ⟨rfl, rfl⟩) | (go_at_call 21; refine (valid_any _ _).mono ?_; rintro e w' ⟨rfl, rfl⟩))
      go_ret2
      exact ⟨rfl, rfl⟩
  · have c' : timeB t = false := by simpa using c
    clear c h
    go_enter Tryz.func13, Tryz.ntmps13
    go_wp2_with (first | (go_at_call 34; refine (last_any _).mono ?_; rintro e w' ⟨rfl, rfl⟩) | (go_at_call 21; refine (valid_any _ _).mono ?_; rintro e w' ⟨rfl, rfl⟩))
    go_ret2
    exact ⟨rfl, rfl⟩

end Go.Proofs.YtiihkdefhhdfnaaGreatDoor
