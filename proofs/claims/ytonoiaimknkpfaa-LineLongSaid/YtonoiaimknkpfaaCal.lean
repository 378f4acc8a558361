/- Plain calendar arithmetic (no program in sight): years, months, days by number. No condition. -/
import Derived.Below
namespace Go.Proofs.Ytonoiaimknkpfaa.Cal

/-- 1 where a year has 366 days, else 0. -/
def lp (y : Int) : Int := if y % 4 = 0 ∧ (y % 100 ≠ 0 ∨ y % 400 = 0) then 1 else 0
/-- days ahead of a year, from the first year on. -/
def ahead (y : Int) : Int := 365 * (y - 1) + (y - 1) / 4 - (y - 1) / 100 + (y - 1) / 400 - 693595
/-- days of a month. -/
def dim (y m : Int) : Int := if m = 2 then 28 + lp y else if m = 4 ∨ m = 6 ∨ m = 9 ∨ m = 11 then 30 else 31
/-- days ahead of a month in its year. -/
def cum (y m : Int) : Int :=
  if m ≤ 1 then 0 else if m = 2 then 31 else
    (if m = 3 then 59 else if m = 4 then 90 else if m = 5 then 120 else if m = 6 then 151 else if m = 7 then 181 else if m = 8 then 212
      else if m = 9 then 243 else if m = 10 then 273 else if m = 11 then 304 else if m = 12 then 334 else 365) + lp y
/-- the last day. -/
def last : Int := 109573

theorem lp_01 (y : Int) : 0 ≤ lp y ∧ lp y ≤ 1 := by unfold lp; split <;> omega
theorem ahead_succ (y : Int) : ahead (y + 1) = ahead y + 365 + lp y := by unfold ahead lp; split <;> omega
theorem ahead_1900 : ahead 1900 = 0 := by decide
theorem ahead_2200 : ahead 2200 = 109573 := by decide
theorem ahead_mono (a b : Int) (h : a ≤ b) : ahead a ≤ ahead b := by unfold ahead; omega
theorem ahead_bd (y : Int) (h1 : 1900 ≤ y) (h2 : y ≤ 2200) : 0 ≤ ahead y ∧ ahead y ≤ 109573 := by unfold ahead; omega
theorem ahead_guess (n : Int) (h1 : 1 ≤ n) (h2 : n ≤ 109573) : ahead (1900 + (n - 1) / 366) < n ∧ 1900 + (n - 1) / 366 ≤ 2199 := by unfold ahead; omega
theorem dim_bd (y m : Int) : 28 ≤ dim y m ∧ dim y m ≤ 31 := by
  have := lp_01 y; unfold dim; split <;> (try split) <;> omega
theorem cum_succ (y m : Int) (h1 : 1 ≤ m) (h2 : m ≤ 12) : cum y (m + 1) = cum y m + dim y m := by
  obtain h | h | h | h | h | h | h | h | h | h | h | h : m = 1 ∨ m = 2 ∨ m = 3 ∨ m = 4 ∨ m = 5 ∨ m = 6 ∨ m = 7 ∨ m = 8 ∨ m = 9 ∨ m = 10 ∨ m = 11 ∨ m = 12 := by omega
  all_goals (subst h; simp [cum, dim]; try omega)
theorem cum_1 (y : Int) : cum y 1 = 0 := by simp [cum]
theorem cum_13 (y : Int) : cum y 13 = 365 + lp y := by simp [cum]
theorem cum_bd (y m : Int) : 0 ≤ cum y m ∧ cum y m ≤ 366 := by
  have := lp_01 y; unfold cum; repeat' split
  all_goals omega
end Go.Proofs.Ytonoiaimknkpfaa.Cal
