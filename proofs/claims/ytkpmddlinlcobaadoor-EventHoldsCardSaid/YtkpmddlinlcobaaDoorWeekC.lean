/- Contracts of week.Nth. -/
import Derived.Test.YtkpmddlinlcobaaDoorWeekB
namespace Go.Proofs.YtkpmddlinlcobaaDoor
open Go.RowKit

/-- The day that is the k-th of its weekday in a stretch of so many days (below 0: from its end). -/
def nthI (n1 size k wd : Int) : Int := if k < 0 then n1 + size - 1 - (n1 + size - 1 - 1 - (wd - 1)) % 7 + (k + 1) * 7 else n1 + (wd - 1 - (n1 - 1)) % 7 + (k - 1) * 7

/-- may a weekday and a count be asked for? -/
def nthB (k wd : Int) : Bool := decide (1 ≤ wd) && decide (wd ≤ 7) && (k != 0) && decide (-5 ≤ k) && decide (k ≤ 5)

theorem nth_ok {k wd : Int} (h : nthB k wd = true) : 1 ≤ wd ∧ wd ≤ 7 ∧ k ≠ 0 ∧ -5 ≤ k ∧ k ≤ 5 := by simpa [nthB, and_assoc] using h

theorem nth_ok_no {k wd : Int} (h : nthB k wd = false) : wd < 1 ∨ 7 < wd ∨ k = 0 ∨ k < -5 ∨ 5 < k := by simp [nthB] at h; omega

/-- A day is found by its weekday, from either end of its month. -/
theorem nth_of {y m d : Int} (h : Cal.dateB y m d = true) :
    nthI (Cal.num y m 1) (Cal.dim y m) ((d - 1) / 7 + 1) ((Cal.num y m d - 1) % 7 + 1) = Cal.num y m d ∧
    nthI (Cal.num y m 1) (Cal.dim y m) (-((Cal.dim y m - d) / 7 + 1)) ((Cal.num y m d - 1) % 7 + 1) = Cal.num y m d ∧
    nthB ((d - 1) / 7 + 1) ((Cal.num y m d - 1) % 7 + 1) = true ∧ nthB (-((Cal.dim y m - d) / 7 + 1)) ((Cal.num y m d - 1) % 7 + 1) = true := by
  obtain ⟨hm, h1, h2⟩ := Cal.date_yes h
  have hdb := Cal.dim_bd y m
  have e : Cal.num y m 1 = Cal.num y m d - (d - 1) := by unfold Cal.num; omega
  refine ⟨?_, ?_, ?_, ?_⟩
  · rw [nthI, if_neg (by omega), e]; omega
  · rw [nthI, if_pos (by omega), e]; omega
  · simp [nthB]; omega
  · simp [nthB]; omega

end Go.Proofs.YtkpmddlinlcobaaDoor
