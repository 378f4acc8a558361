/- The law ClockDays: a day later it is the same minute of the next day, for every number. The walk. -/
import Derived.Test.YtonoiaimknkpfaaClockA
namespace Go.Proofs.Ytonoiaimknkpfaa
open Go.RowKit

theorem clockDays_walk (t : Int) (w : World) :
    Calls Try.prog 4 #[.int .i64 t] w fun e w' => e = .returned (.bool true) ∧ w = w' := by
  have k1 : timeB 100 = true := by decide
  have k2 : timeB (100 + 1440) = true := by decide
  by_cases c : timeB t = true
  · obtain ⟨a1, a2⟩ := timeB_yes c
    by_cases d : timeB (t + 1440) = true
    · obtain ⟨b1, b2⟩ := timeB_yes d
      have e1 : ((t + 1440) / 1440 + 1 == t / 1440 + 1 + 1) = true := by simp; omega
      have e2 : ((t + 1440) % 1440 == t % 1440) = true := by simp
      go_enter Try.func4, Try.ntmps4
      go_wp2_with (first
        | (go_at_call 9; ((with_reducible refine (add_yes 100 1440 _ k1 (by omega) (by omega) k2).mono ?_); rintro e w' ⟨rfl, rfl⟩))
        | (go_at_call 9; ((with_reducible refine (add_yes t 1440 _ c (by omega) (by omega) d).mono ?_); rintro e w' ⟨rfl, rfl⟩))
        | (go_at_call 10; ((with_reducible refine (split_yes t _ c).mono ?_); rintro e w' ⟨rfl, rfl⟩))
        | (go_at_call 10; ((with_reducible refine (split_yes (t + 1440) _ d).mono ?_); rintro e w' ⟨rfl, rfl⟩)))
      go_ret
      exact ⟨rfl, rfl⟩
    · have d' : timeB (t + 1440) = false := by simpa using d
      clear d
      go_enter Try.func4, Try.ntmps4
      go_wp2_with (first
        | (go_at_call 9; ((with_reducible refine (add_yes 100 1440 _ k1 (by omega) (by omega) k2).mono ?_); rintro e w' ⟨rfl, rfl⟩))
        | (go_at_call 9; ((with_reducible refine (add_no t 1440 _ (Or.inr (Or.inr (Or.inr d')))).mono ?_); rintro e w' ⟨rfl, rfl⟩))
        | (go_at_call 10; ((with_reducible refine (split_yes t _ c).mono ?_); rintro e w' ⟨rfl, rfl⟩)))
      go_ret
      exact ⟨rfl, rfl⟩
  · have c' : timeB t = false := by simpa using c
    clear c
    go_enter Try.func4, Try.ntmps4
    go_wp2_with (first
      | (go_at_call 9; ((with_reducible refine (add_yes 100 1440 _ k1 (by omega) (by omega) k2).mono ?_); rintro e w' ⟨rfl, rfl⟩))
      | (go_at_call 9; ((with_reducible refine (add_no t 1440 _ (Or.inl c')).mono ?_); rintro e w' ⟨rfl, rfl⟩))
      | (go_at_call 10; ((with_reducible refine (split_no t _ c').mono ?_); rintro e w' ⟨rfl, rfl⟩)))
    go_ret
    exact ⟨rfl, rfl⟩

theorem clockDays_top (t : Int) (w : World) (_ : (Lit.int .i64 t).wf = true) :
    Calls Try.prog 4 #[.int .i64 t] w fun e w' => e = .returned (.bool true) ∧ Below w.heap.size w w' :=
  (clockDays_walk t w).mono fun _ _ ⟨he, hw⟩ => ⟨he, hw ▸ Below.refl _ _⟩
end Go.Proofs.Ytonoiaimknkpfaa
