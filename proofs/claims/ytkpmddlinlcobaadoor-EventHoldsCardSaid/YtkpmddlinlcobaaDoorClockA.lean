/- Contracts of clock.Valid, clock.Add, clock.Split: they only compute. No condition but the bounds that each states. -/
import Derived.Test.YtkpmddlinlcobaaDoorDayA
namespace Go.Proofs.YtkpmddlinlcobaaDoor
open Go.RowKit

/-- is a number a time? -/
def timeB (t : Int) : Bool := decide (1 ≤ t) && decide (t < 157785120)

theorem timeB_yes {t : Int} (h : timeB t = true) : 1 ≤ t ∧ t < 157785120 := by simpa [timeB] using h

theorem timeB_no {t : Int} (h : timeB t = false) : t < 1 ∨ 157785120 ≤ t := by
  simp [timeB] at h; omega

theorem timeB_mk {t : Int} (h : 1 ≤ t) (h2 : t < 157785120) : timeB t = true := by simp [timeB, h, h2]

theorem timeB_mk_no {t : Int} (h : t < 1 ∨ 157785120 ≤ t) : timeB t = false := by
  simp [timeB]; omega

theorem valid_any (t : Int) (w : World) :
    Calls Tryd.prog 8 #[.int .i64 t] w fun e w' => e = .returned (.bool (timeB t)) ∧ w = w' := by
  by_cases h : 1 ≤ t
  · by_cases h2 : t < 157785120
    · go_enter Tryd.func8, Tryd.ntmps8
      go_wp2_with (go_at_call 22; refine (last_any _).mono ?_; rintro e w' ⟨rfl, rfl⟩)
      go_ret
      exact ⟨ret_bool (timeB_mk h h2).symm, rfl⟩
    · go_enter Tryd.func8, Tryd.ntmps8
      go_wp2_with (go_at_call 22; refine (last_any _).mono ?_; rintro e w' ⟨rfl, rfl⟩)
      go_ret
      exact ⟨ret_bool (by rw [timeB_mk_no (by omega)]; simp; omega), rfl⟩
  · go_enter Tryd.func8, Tryd.ntmps8
    go_wp2_with (go_at_call 22; refine (last_any _).mono ?_; rintro e w' ⟨rfl, rfl⟩)
    go_ret
    exact ⟨ret_bool (timeB_mk_no (by omega)).symm, rfl⟩

theorem valid_yes (t : Int) (w : World) (h : timeB t = true) :
    Calls Tryd.prog 8 #[.int .i64 t] w fun e w' => e = .returned (.bool true) ∧ w = w' := by
  rw [← h]; exact valid_any t w

theorem valid_no (t : Int) (w : World) (h : timeB t = false) :
    Calls Tryd.prog 8 #[.int .i64 t] w fun e w' => e = .returned (.bool false) ∧ w = w' := by
  rw [← h]; exact valid_any t w

end Go.Proofs.YtkpmddlinlcobaaDoor
