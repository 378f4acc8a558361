/- The contract of period.Days. No condition but the lists. -/
import Derived.Test.YtkpmddlinlcobaaDoorPerF
namespace Go.Proofs.YtkpmddlinlcobaaDoor
open Go.RowKit
set_option linter.unusedSimpArgs false
set_option linter.unusedVariables false

theorem year_end (y : Int) : Cal.num y 12 31 = Cal.num y 1 1 + 364 + Cal.lp y := by
  unfold Cal.num; rw [Cal.cum_1]; simp [Cal.cum]; omega

/-- a period begins at a day, and has at most 366 days. -/
theorem perS_bd {fr ev y m d k a b : Int} (hd : Cal.dateB y m d = true) (he : 1 ≤ ev) (h : perS fr ev y m d k = some (a, b)) : (1 ≤ a ∧ a ≤ 109573) ∧ (a ≤ b ∧ b ≤ a + 400) := by
  obtain ⟨_, _, b1, b2⟩ := Cal.num_bd hd
  obtain ⟨hm, _, _⟩ := Cal.date_yes hd
  obtain ⟨y1, y2, m1, m2⟩ := Cal.month_yes hm
  unfold perS at h
  split at h
  · cases h
  rename_i hk
  have hke : 0 ≤ k * ev := Int.mul_nonneg (by omega) (by omega)
  split at h
  · split at h
    · cases h; omega
    · cases h
  split at h
  · split at h
    · cases h
      have := Cal.monday_bd (Cal.num y m d)
      have := Cal.monday_pos (Cal.num y m d) b1
      omega
    · cases h
  split at h
  · split at h
    · cases h
      rename_i hn
      obtain ⟨q1, q2⟩ := mon_date _ (by omega) hn
      have hb := Cal.num_bd q2
      have hs := Cal.dim_bd (1900 + ((y - 1900) * 12 + m - 1 + k * ev) / 12) (((y - 1900) * 12 + m - 1 + k * ev) % 12 + 1)
      have e1 : monFrom ((y - 1900) * 12 + m - 1 + k * ev) = Cal.num (1900 + ((y - 1900) * 12 + m - 1 + k * ev) / 12) (((y - 1900) * 12 + m - 1 + k * ev) % 12 + 1) 1 := rfl
      have e2 : monSize ((y - 1900) * 12 + m - 1 + k * ev) = Cal.dim (1900 + ((y - 1900) * 12 + m - 1 + k * ev) / 12) (((y - 1900) * 12 + m - 1 + k * ev) % 12 + 1) := rfl
      rw [← e1] at hb
      rw [← e2] at hs
      omega
    · cases h
  split at h
  · rename_i hn
    cases h
    have q := Cal.num_bd (y := y + k * ev) (m := 1) (d := 1) (Cal.date_mk (Cal.month_mk (by omega) hn (by omega) (by omega)) (by omega) (by simp [Cal.dim]))
    have q2 := year_end (y + k * ev)
    have q3 := Cal.lp_01 (y + k * ev)
    omega
  · cases h

end Go.Proofs.YtkpmddlinlcobaaDoor
