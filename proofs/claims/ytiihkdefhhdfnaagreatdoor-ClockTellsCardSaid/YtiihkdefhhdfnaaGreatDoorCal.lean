/- Plain calendar arithmetic (no program in sight): years, months, days by number. No condition. -/
import Derived.Below
namespace Go.Proofs.YtiihkdefhhdfnaaGreatDoor.Cal

/-- 1 where a year has 366 days, else 0. -/
def lp (y : Int) : Int := if y % 4 = 0 ∧ (y % 100 ≠ 0 ∨ y % 400 = 0) then 1 else 0
/-- days ahead of a year, from the first year on. -/
def ahead (y : Int) : Int := 365 * (y - 1) + (y - 1) / 4 - (y - 1) / 100 + (y - 1) / 400 - 693595
/-- days of a month. -/
def dim (y m : Int) : Int := if m = 2 then 28 + lp y else if m = 4 ∨ m = 6 ∨ m = 9 ∨ m = 11 then 30 else 31
/-- days of a month, as the table has them. -/
def mon (m : Int) : Int := if m = 2 then 28 else if m = 4 ∨ m = 6 ∨ m = 9 ∨ m = 11 then 30 else 31
/-- is there such a month? -/
def monthB (y m : Int) : Bool := decide (1900 ≤ y) && decide (y ≤ 2199) && decide (1 ≤ m) && decide (m ≤ 12)
/-- is there such a date? -/
def dateB (y m d : Int) : Bool := monthB y m && decide (1 ≤ d) && decide (d ≤ dim y m)
/-- has a year 366 days? -/
def leapB (y : Int) : Bool := decide (lp y = 1)
/-- days ahead of a month in its year. -/
def cum (y m : Int) : Int :=
  if m ≤ 1 then 0 else if m = 2 then 31 else
    (if m = 3 then 59 else if m = 4 then 90 else if m = 5 then 120 else if m = 6 then 151 else if m = 7 then 181 else if m = 8 then 212
      else if m = 9 then 243 else if m = 10 then 273 else if m = 11 then 304 else if m = 12 then 334 else 365) + lp y
/-- a date's day. -/
def num (y m d : Int) : Int := ahead y + cum y m + d
/-- the last day. -/
def last : Int := 109573

theorem lp_01 (y : Int) : 0 ≤ lp y ∧ lp y ≤ 1 := by unfold lp; split <;> omega
theorem ahead_succ (y : Int) : ahead (y + 1) = ahead y + 365 + lp y := by unfold ahead lp; split <;> omega
theorem ahead_1900 : ahead 1900 = 0 := by decide
theorem ahead_2200 : ahead 2200 = 109573 := by decide
theorem ahead_mono (a b : Int) (h : a ≤ b) : ahead a ≤ ahead b := by unfold ahead; omega
theorem ahead_bd (y : Int) (h1 : 1900 ≤ y) (h2 : y ≤ 2200) : 0 ≤ ahead y ∧ ahead y ≤ 109573 := by unfold ahead; omega
theorem ahead_guess (n : Int) (h1 : 1 ≤ n) (h2 : n ≤ 109573) : ahead (1900 + (n - 1) / 366) < n ∧ 1900 + (n - 1) / 366 ≤ 2199 := by unfold ahead; omega
theorem dim_bd (y m : Int) : 28 ≤ dim y m ∧ dim y m ≤ 31 := by
  have := lp_01 y; unfold dim; split <;> (try split) <;> omega
theorem cum_succ (y m : Int) (h1 : 1 ≤ m) (h2 : m ≤ 12) : cum y (m + 1) = cum y m + dim y m := by
  obtain h | h | h | h | h | h | h | h | h | h | h | h : m = 1 ∨ m = 2 ∨ m = 3 ∨ m = 4 ∨ m = 5 ∨ m = 6 ∨ m = 7 ∨ m = 8 ∨ m = 9 ∨ m = 10 ∨ m = 11 ∨ m = 12 := by omega
  all_goals (subst h; simp [cum, dim]; try omega)
theorem cum_1 (y : Int) : cum y 1 = 0 := by simp [cum]
theorem cum_13 (y : Int) : cum y 13 = 365 + lp y := by simp [cum]
theorem cum_bd (y m : Int) : 0 ≤ cum y m ∧ cum y m ≤ 366 := by
  have := lp_01 y; unfold cum; repeat' split
  all_goals omega
theorem mon_bd (m : Int) : 28 ≤ mon m ∧ mon m ≤ 31 := by unfold mon; split <;> (try split) <;> omega
theorem dim_2 (y : Int) : dim y 2 = mon 2 + lp y := by simp [dim, mon]
theorem dim_mon (y m : Int) (h : m ≠ 2) : dim y m = mon m := by simp [dim, mon, h]
theorem leap_yes {y : Int} (h : leapB y = true) : lp y = 1 := by simpa [leapB] using h
theorem leap_no {y : Int} (h : leapB y = false) : lp y = 0 := by have := lp_01 y; simp [leapB] at h; omega
theorem month_yes {y m : Int} (h : monthB y m = true) : 1900 ≤ y ∧ y ≤ 2199 ∧ 1 ≤ m ∧ m ≤ 12 := by simpa [monthB, and_assoc] using h
theorem month_no {y m : Int} (h : monthB y m = false) : y < 1900 ∨ 2199 < y ∨ m < 1 ∨ 12 < m := by simp [monthB] at h; omega
theorem month_mk {y m : Int} (h1 : 1900 ≤ y) (h2 : y ≤ 2199) (h3 : 1 ≤ m) (h4 : m ≤ 12) : monthB y m = true := by simp [monthB, h1, h2, h3, h4]
theorem month_mk_no {y m : Int} (h : y < 1900 ∨ 2199 < y ∨ m < 1 ∨ 12 < m) : monthB y m = false := by simp [monthB]; omega
theorem date_yes {y m d : Int} (h : dateB y m d = true) : monthB y m = true ∧ 1 ≤ d ∧ d ≤ dim y m := by simpa [dateB, and_assoc] using h
theorem date_mk {y m d : Int} (h : monthB y m = true) (h1 : 1 ≤ d) (h2 : d ≤ dim y m) : dateB y m d = true := by simp [dateB, h, h1, h2]
theorem date_mk_no {y m d : Int} (h : d < 1 ∨ dim y m < d) : dateB y m d = false := by simp [dateB]; omega
theorem date_mk_no' {y m d : Int} (h : monthB y m = false) : dateB y m d = false := by simp [dateB, h]
theorem leap_mod {y : Int} (h4 : y % 4 = 0) (h : y % 100 ≠ 0 ∨ y % 400 = 0) : leapB y = true := by simp [leapB, lp, h4]; omega
theorem leap_mod_no {y : Int} (h : ¬ (y % 4 = 0 ∧ (y % 100 ≠ 0 ∨ y % 400 = 0))) : leapB y = false := by
  simp only [leapB, lp, if_neg h]; decide

theorem cum_le (y m : Int) (h1 : 1 ≤ m) (h2 : m ≤ 12) : cum y (m + 1) ≤ 365 + lp y := by
  have hl := lp_01 y
  obtain h | h | h | h | h | h | h | h | h | h | h | h : m = 1 ∨ m = 2 ∨ m = 3 ∨ m = 4 ∨ m = 5 ∨ m = 6 ∨ m = 7 ∨ m = 8 ∨ m = 9 ∨ m = 10 ∨ m = 11 ∨ m = 12 := by omega
  all_goals (subst h; simp [cum]; try omega)

theorem cum_mono (y m k : Int) (h1 : 1 ≤ m) (h2 : m < k) (h3 : k ≤ 12) : cum y (m + 1) ≤ cum y k := by
  have hl := lp_01 y
  obtain h | h | h | h | h | h | h | h | h | h | h : m = 1 ∨ m = 2 ∨ m = 3 ∨ m = 4 ∨ m = 5 ∨ m = 6 ∨ m = 7 ∨ m = 8 ∨ m = 9 ∨ m = 10 ∨ m = 11 := by omega
  all_goals
    subst h
    obtain h | h | h | h | h | h | h | h | h | h | h : k = 2 ∨ k = 3 ∨ k = 4 ∨ k = 5 ∨ k = 6 ∨ k = 7 ∨ k = 8 ∨ k = 9 ∨ k = 10 ∨ k = 11 ∨ k = 12 := by omega
    all_goals (subst h; first | omega | (simp [cum]; omega) | simp [cum])

theorem num_bd {y m d : Int} (h : dateB y m d = true) : ahead y < num y m d ∧ num y m d ≤ ahead (y + 1) ∧ 1 ≤ num y m d ∧ num y m d ≤ 109573 := by
  obtain ⟨hm, h1, h2⟩ := date_yes h
  obtain ⟨a, b, c, e⟩ := month_yes hm
  have k1 := cum_bd y m
  have k2 := cum_succ y m c e
  have k3 := cum_le y m c e
  have k4 := ahead_succ y
  have k5 := ahead_bd y a (by omega)
  have k6 := ahead_mono (y + 1) 2200 (by omega)
  rw [ahead_2200] at k6
  unfold num
  omega

theorem num_inj {y m d y' m' d' : Int} (h : dateB y m d = true) (h' : dateB y' m' d' = true) (he : num y m d = num y' m' d') : y = y' ∧ m = m' ∧ d = d' := by
  have b1 := num_bd h
  have b2 := num_bd h'
  have hy : y = y' := by
    rcases Int.lt_or_le y y' with c | c
    · have := ahead_mono (y + 1) y' (by omega); omega
    · rcases Int.lt_or_le y' y with e | e
      · have := ahead_mono (y' + 1) y (by omega); omega
      · omega
  subst hy
  obtain ⟨hm, h1, h2⟩ := date_yes h
  obtain ⟨hm', h1', h2'⟩ := date_yes h'
  obtain ⟨_, _, c1, c2⟩ := month_yes hm
  obtain ⟨_, _, c1', c2'⟩ := month_yes hm'
  have s1 := cum_succ y m c1 c2
  have s2 := cum_succ y m' c1' c2'
  have hmm : m = m' := by
    rcases Int.lt_or_le m m' with c | c
    · have := cum_mono y m m' c1 c c2'; unfold num at he; omega
    · rcases Int.lt_or_le m' m with e | e
      · have := cum_mono y m' m c1' e c2; unfold num at he; omega
      · omega
  subst hmm
  exact ⟨rfl, rfl, by unfold num at he; omega⟩

theorem ex_year (n : Int) (h1 : 1 ≤ n) (h2 : n ≤ 109573) : ∃ y : Int, 1900 ≤ y ∧ y ≤ 2199 ∧ ahead y < n ∧ n ≤ ahead (y + 1) := by
  obtain ⟨g0, g1⟩ := ahead_guess n h1 h2
  rcases Int.lt_or_le (ahead (1900 + (n - 1) / 366 + 1)) n with c | c
  · refine ⟨1900 + (n - 1) / 366 + 1, by omega, ?_, c, ?_⟩
    · rcases Int.lt_or_le 2199 (1900 + (n - 1) / 366 + 1) with e | e
      · have := ahead_mono 2200 (1900 + (n - 1) / 366 + 1) (by omega); rw [ahead_2200] at this; omega
      · exact e
    · unfold ahead; omega
  · exact ⟨_, by omega, g1, g0, c⟩

theorem ex_month (y r : Int) (h1 : 1 ≤ r) (h2 : r ≤ 365 + lp y) : ∃ m : Int, 1 ≤ m ∧ m ≤ 12 ∧ cum y m < r ∧ r ≤ cum y m + dim y m := by
  have step : ∀ k : Nat, k ≤ 11 → (∃ m : Int, 1 ≤ m ∧ m ≤ 12 ∧ cum y m < r ∧ r ≤ cum y m + dim y m) ∨ cum y (k + 1 : Int) < r := by
    intro k
    induction k with
    | zero => intro _; right; have := cum_1 y; simpa [this] using (by omega : 0 < r)
    | succ k ih =>
      intro hk
      rcases ih (by omega) with h | h
      · exact .inl h
      · rcases Int.lt_or_le (cum y (k + 1 : Int) + dim y (k + 1 : Int)) r with c | c
        · right
          have := cum_succ y (k + 1 : Int) (by omega) (by omega)
          rw [show ((k + 1 : Nat) : Int) + 1 = (k : Int) + 1 + 1 by omega, this]; exact c
        · exact .inl ⟨k + 1, by omega, by omega, h, c⟩
  rcases step 11 (by omega) with h | h
  · exact h
  · refine ⟨12, by omega, by omega, by simpa using h, ?_⟩
    have := cum_succ y 12 (by omega) (by omega)
    have h13 := cum_13 y
    rw [show (12 : Int) + 1 = 13 from rfl, h13] at this
    omega

theorem ex_date (n : Int) (h1 : 1 ≤ n) (h2 : n ≤ 109573) : ∃ y m d : Int, dateB y m d = true ∧ num y m d = n := by
  obtain ⟨y, a, b, c, e⟩ := ex_year n h1 h2
  have hs := ahead_succ y
  obtain ⟨m, f, g, i, j⟩ := ex_month y (n - ahead y) (by omega) (by omega)
  exact ⟨y, m, n - ahead y - cum y m, date_mk (month_mk a b f g) (by omega) (by omega), by unfold num; omega⟩

/-- The day behind a date: of its month, or the first one of the next month, or of the next year. -/
theorem next_in {y m d : Int} (h : dateB y m d = true) (hd : d < dim y m) : dateB y m (d + 1) = true ∧ num y m (d + 1) = num y m d + 1 := by
  obtain ⟨hm, h1, h2⟩ := date_yes h
  exact ⟨date_mk hm (by omega) (by omega), by unfold num; omega⟩

theorem next_month {y m d : Int} (h : dateB y m d = true) (hd : d = dim y m) (hm : m < 12) : dateB y (m + 1) 1 = true ∧ num y (m + 1) 1 = num y m d + 1 := by
  obtain ⟨hm', h1, h2⟩ := date_yes h
  obtain ⟨a, b, c, e⟩ := month_yes hm'
  have := dim_bd y (m + 1)
  have k := cum_succ y m c e
  exact ⟨date_mk (month_mk a b (by omega) (by omega)) (by omega) (by omega), by unfold num; omega⟩

theorem next_year {y d : Int} (h : dateB y 12 d = true) (hd : d = dim y 12) (hy : y < 2199) : dateB (y + 1) 1 1 = true ∧ num (y + 1) 1 1 = num y 12 d + 1 := by
  obtain ⟨hm', h1, h2⟩ := date_yes h
  obtain ⟨a, b, c, e⟩ := month_yes hm'
  have := dim_bd (y + 1) 1
  have k := cum_succ y 12 c e
  have h13 := cum_13 y
  rw [show (12 : Int) + 1 = 13 from rfl, h13] at k
  have hs := ahead_succ y
  exact ⟨date_mk (month_mk (by omega) (by omega) (by omega) (by omega)) (by omega) (by omega), by unfold num; rw [cum_1]; omega⟩

theorem last_date {d : Int} (hd : d = dim 2199 12) : num 2199 12 d = 109573 := by
  subst hd; decide

/-- the Monday of a day's week. -/
def mondayI (n : Int) : Int := n - (n - 1) % 7
/-- the first Monday of a year's weeks. -/
def wk1 (y : Int) : Int := mondayI (num y 1 4)
/-- how many weeks a year has. -/
def weeksI (y : Int) : Int := (num y 12 28 - wk1 y) / 7 + 1

theorem monday_bd (n : Int) : n - 6 ≤ mondayI n ∧ mondayI n ≤ n := by unfold mondayI; omega

theorem monday_mod (n : Int) : (mondayI n - 1) % 7 = 0 := by unfold mondayI; omega

theorem monday_pos (n : Int) (h : 1 ≤ n) : 1 ≤ mondayI n := by unfold mondayI; omega

theorem date_j4 {y : Int} (h1 : 1900 ≤ y) (h2 : y ≤ 2199) : dateB y 1 4 = true := date_mk (month_mk h1 h2 (by omega) (by omega)) (by omega) (by simp [dim])

theorem date_d28 {y : Int} (h1 : 1900 ≤ y) (h2 : y ≤ 2199) : dateB y 12 28 = true := date_mk (month_mk h1 h2 (by omega) (by omega)) (by omega) (by simp [dim])

theorem num_j4 (y : Int) : num y 1 4 = ahead y + 4 := by unfold num; rw [cum_1]; omega

theorem num_d28 (y : Int) : num y 12 28 = ahead y + 362 + lp y := by unfold num; simp [cum]; omega

theorem wk1_bd {y : Int} (h1 : 1900 ≤ y) (h2 : y ≤ 2199) : 1 ≤ wk1 y ∧ ahead y - 2 ≤ wk1 y ∧ wk1 y ≤ ahead y + 4 ∧ (wk1 y - 1) % 7 = 0 := by
  have a := ahead_bd y h1 (by omega)
  have b := num_j4 y
  unfold wk1 mondayI
  omega

theorem weeks_len {y : Int} (h1 : 1900 ≤ y) (h2 : y ≤ 2199) : (weeksI y = 52 ∨ weeksI y = 53) ∧ mondayI (ahead (y + 1) + 4) - wk1 y = 7 * weeksI y := by
  have a := ahead_bd y h1 (by omega)
  have b := num_j4 y
  have c := num_d28 y
  have d := ahead_succ y
  have e := lp_01 y
  unfold weeksI wk1 mondayI
  omega

theorem weeks_next {y : Int} (h1 : 1900 ≤ y) (h2 : y ≤ 2198) : wk1 (y + 1) - wk1 y = 7 * weeksI y := by
  have := (weeks_len h1 (by omega)).2
  have b := num_j4 (y + 1)
  unfold wk1 at *
  rw [b]; exact this

/-- A week's Thursday lies in the week's year: its Monday is not ahead of the year's first one, and not behind its last. -/
theorem week_in {y m d n : Int} (h : dateB y m d = true) (hn : num y m d = mondayI n + 3) : wk1 y ≤ mondayI n ∧ (n - wk1 y) / 7 + 1 ≤ weeksI y ∧ 1 ≤ (n - wk1 y) / 7 + 1 ∧ wk1 y + ((n - wk1 y) / 7 + 1 - 1) * 7 = mondayI n := by
  obtain ⟨hm, _, _⟩ := date_yes h
  obtain ⟨a1, a2, _, _⟩ := month_yes hm
  obtain ⟨b1, b2, _, _⟩ := num_bd h
  obtain ⟨c0, c1, c2, c3⟩ := wk1_bd a1 a2
  have d1 := monday_bd n
  have d2 := monday_mod n
  have e1 := num_d28 y
  have e2 := ahead_succ y
  have e3 := lp_01 y
  unfold weeksI
  have k : (n - wk1 y) / 7 = (mondayI n - wk1 y) / 7 := by unfold mondayI at *; omega
  omega
end Go.Proofs.YtiihkdefhhdfnaaGreatDoor.Cal
