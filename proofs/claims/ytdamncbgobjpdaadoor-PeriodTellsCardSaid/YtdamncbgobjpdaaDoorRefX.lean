/- The contract of chimeref1.NthOf for every input. -/
import Derived.Test.YtdamncbgobjpdaaDoorRefW
namespace Go.Proofs.YtdamncbgobjpdaaDoor
open Go.RowKit

set_option maxRecDepth 100000 in
set_option maxHeartbeats 4000000 in
theorem rnth_bad (y m k wd : Int) (w : World) (h : Cal.monthB y m = false ∨ nthB k wd = false) :
    Calls Tryd.prog 27 #[.int .i64 y, .int .i64 m, .agg #[.int .i64 k, .int .i64 wd]] w fun e w' => e = .returned (.tuple #[.int .i64 0, .int .i64 1]) ∧ Below w.heap.size w w' := by
  by_cases hm : Cal.monthB y m = true
  · have hk : nthB k wd = false := by rcases h with h | h; (rw [hm] at h; cases h); exact h
    have hn := nth_ok_no hk
    have hdb := Cal.dim_bd y m
    have es : (Cal.dim y m == 0) = false := by simp; omega
    clear h hk
    by_cases c1 : wd < 1
    · clear hn
      go_enter Tryd.func27, Tryd.ntmps27
      go_wp2_with (go_at_call 82; refine (rdays_yes y m _ hm).mono ?_; rintro e w' ⟨rfl, rfl⟩)
      go_ret2
      exact ⟨rfl, (Below.refl _ _).alloc (Nat.le_refl _) _⟩
    by_cases c2 : 7 < wd
    · clear hn
      go_enter Tryd.func27, Tryd.ntmps27
      go_wp2_with (go_at_call 82; refine (rdays_yes y m _ hm).mono ?_; rintro e w' ⟨rfl, rfl⟩)
      go_ret2
      exact ⟨rfl, (Below.refl _ _).alloc (Nat.le_refl _) _⟩
    by_cases c3 : k = 0
    · subst c3
      clear hn
      go_enter Tryd.func27, Tryd.ntmps27
      go_wp2_with (go_at_call 82; refine (rdays_yes y m _ hm).mono ?_; rintro e w' ⟨rfl, rfl⟩)
      go_ret2
      exact ⟨rfl, (Below.refl _ _).alloc (Nat.le_refl _) _⟩
    have e0 : (k == 0) = false := by simp [c3]
    by_cases c4 : k < -5
    · clear hn c3
      go_enter Tryd.func27, Tryd.ntmps27
      go_wp2_with (go_at_call 82; refine (rdays_yes y m _ hm).mono ?_; rintro e w' ⟨rfl, rfl⟩)
      go_ret2
      exact ⟨rfl, (Below.refl _ _).alloc (Nat.le_refl _) _⟩
    · have c5 : 5 < k := by omega
      clear hn c3
      go_enter Tryd.func27, Tryd.ntmps27
      go_wp2_with (go_at_call 82; refine (rdays_yes y m _ hm).mono ?_; rintro e w' ⟨rfl, rfl⟩)
      go_ret2
      exact ⟨rfl, (Below.refl _ _).alloc (Nat.le_refl _) _⟩
  · have hm' : Cal.monthB y m = false := by simpa using hm
    clear h hm
    go_enter Tryd.func27, Tryd.ntmps27
    go_wp2_with (go_at_call 82; refine (rdays_no y m _ hm').mono ?_; rintro e w' ⟨rfl, rfl⟩)
    go_ret2
    exact ⟨rfl, (Below.refl _ _).alloc (Nat.le_refl _) _⟩

theorem rnth_any (y m k wd : Int) (w : World) :
    Calls Tryd.prog 27 #[.int .i64 y, .int .i64 m, .agg #[.int .i64 k, .int .i64 wd]] w fun e w' => e = .returned (.tuple #[.int .i64 (nthAt y m k wd), .int .i64 (nthE y m k wd)]) ∧ Below w.heap.size w w' := by
  by_cases hm : Cal.monthB y m = true ∧ nthB k wd = true
  · exact rnth_ok y m k wd w hm.1 hm.2
  · have e1 : nthAt y m k wd = 0 := by rw [nthAt, if_neg (fun h => hm ⟨h.1, h.2.1⟩)]
    have e2 : nthE y m k wd = 1 := by rw [nthE, if_neg hm]
    rw [e1, e2]
    refine rnth_bad y m k wd w ?_
    cases h1 : Cal.monthB y m
    · exact .inl rfl
    · cases h2 : nthB k wd
      · exact .inr rfl
      · exact absurd ⟨h1, h2⟩ hm

end Go.Proofs.YtdamncbgobjpdaaDoor
