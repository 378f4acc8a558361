/- Plain facts on the days of a period: they rise, they lie in their stretch, and ahead of the next period. No condition but the period's own. -/
import Derived.Test.YtkpmddlinlcobaaDoorPerG
namespace Go.Proofs.YtkpmddlinlcobaaDoor
open Go.RowKit
set_option linter.unusedSimpArgs false
set_option linter.unusedVariables false

theorem daysG_mem (p : Int → Bool) (a : Int) : ∀ (c : Nat) (x : Int), x ∈ daysG p a c → a ≤ x ∧ x < a + c ∧ p x = true
  | 0, x, h => by simp [daysG] at h
  | c + 1, x, h => by
    rw [daysG, List.mem_append] at h
    rcases h with h | h
    · obtain ⟨h1, h2, h3⟩ := daysG_mem p a c x h
      exact ⟨h1, by omega, h3⟩
    · split at h
      · rename_i hp
        obtain rfl : x = a + c := by simpa using h
        exact ⟨by omega, by omega, hp⟩
      · simp at h

theorem daysG_has (p : Int → Bool) (a : Int) : ∀ (c : Nat) (x : Int), a ≤ x → x < a + c → p x = true → x ∈ daysG p a c
  | 0, x, h1, h2, _ => by omega
  | c + 1, x, h1, h2, hp => by
    rw [daysG, List.mem_append]
    by_cases h : x = a + c
    · subst h; rw [if_pos hp]; exact .inr (by simp)
    · exact .inl (daysG_has p a c x h1 (by omega) hp)

theorem daysG_up (p : Int → Bool) (a : Int) : ∀ c : Nat, (daysG p a c).Pairwise (· < ·)
  | 0 => by simp [daysG]
  | c + 1 => by
    rw [daysG, List.pairwise_append]
    refine ⟨daysG_up p a c, by split <;> simp, fun x hx y hy => ?_⟩
    obtain ⟨_, h2, _⟩ := daysG_mem p a c x hx
    split at hy
    · obtain rfl : y = a + c := by simpa using hy
      omega
    · simp at hy

theorem pickG_sub (wh : List Int) (n : Int) : ∀ (L : List Int) (i : Int), (pickG wh n i L).Sublist L
  | [], i => by simp [pickG]
  | x :: r, i => by
    rw [pickG]
    split
    · exact (pickG_sub wh n r (i + 1)).cons_cons x
    · exact (pickG_sub wh n r (i + 1)).cons x

theorem pickL_sub (L wh : List Int) : (pickL L wh).Sublist L := by
  unfold pickL
  split
  · exact List.Sublist.refl _
  · exact pickG_sub wh _ L 0

/-- the days of a period. -/
noncomputable def perL (fr : Int) (mo da : List Int) (we : List (Int × Int)) (pk : List Int) (n0 a b : Int) : List Int :=
  pickL (daysG (askB fr mo da we n0) a (min b 109573 + 1 - a).toNat) pk

theorem perL_bd {fr : Int} {mo da : List Int} {we : List (Int × Int)} {pk : List Int} {n0 a b : Int} (ha : 1 ≤ a) (x : Int) (h : x ∈ perL fr mo da we pk n0 a b) : a ≤ x ∧ x ≤ b ∧ 1 ≤ x ∧ x ≤ 109573 := by
  obtain ⟨h1, h2, _⟩ := daysG_mem _ _ _ _ ((pickL_sub _ _).subset h)
  omega

theorem perL_up (fr : Int) (mo da : List Int) (we : List (Int × Int)) (pk : List Int) (n0 a b : Int) : (perL fr mo da we pk n0 a b).Pairwise (· < ·) :=
  (daysG_up _ _ _).sublist (pickL_sub _ _)

theorem perL_in (fr : Int) (mo da : List Int) (we : List (Int × Int)) (pk : List Int) (n0 a b : Int) (x : Int) (h : x ∈ perL fr mo da we pk n0 a b) : x ∈ perL fr mo da we [] n0 a b := by
  have := (pickL_sub _ _).subset h
  rw [perL, pickL, if_pos rfl]; exact this

theorem perL_len (fr : Int) (mo da : List Int) (we : List (Int × Int)) (pk : List Int) (n0 a b : Int) (hb : b ≤ a + 400) : (perL fr mo da we pk n0 a b).length ≤ 401 :=
  Nat.le_trans (pickL_sub _ _).length_le (Nat.le_trans (daysG_len _ _ _) (by omega))

theorem up_at {L : List Int} (h : L.Pairwise (· < ·)) (i : Nat) (hi : i + 1 < L.length) : L[i] < L[i + 1] := List.pairwise_iff_getElem.1 h i (i + 1) (by omega) hi (by omega)

theorem monFrom_succ (n : Int) (h0 : 0 ≤ n) (h1 : n < 3599) : monFrom (n + 1) = monFrom n + monSize n := by
  obtain ⟨hm, _⟩ := mon_date n h0 (by omega)
  have hdb := Cal.dim_bd (1900 + n / 12) (n % 12 + 1)
  have hd : Cal.dateB (1900 + n / 12) (n % 12 + 1) (Cal.dim (1900 + n / 12) (n % 12 + 1)) = true := Cal.date_mk hm (by omega) (Int.le_refl _)
  unfold monFrom monSize
  by_cases hc : n % 12 < 11
  · have := (Cal.next_month hd rfl (by omega)).2
    rw [show (n + 1) / 12 = n / 12 by omega, show (n + 1) % 12 + 1 = n % 12 + 1 + 1 by omega, this]
    unfold Cal.num; omega
  · have e : n % 12 + 1 = 12 := by omega
    rw [e] at hd ⊢
    have := (Cal.next_year hd rfl (by omega)).2
    rw [show 1900 + (n + 1) / 12 = 1900 + n / 12 + 1 by omega, show (n + 1) % 12 + 1 = 1 by omega, this]
    unfold Cal.num; omega

theorem monFrom_le (n : Int) (h0 : 0 ≤ n) : ∀ (j : Nat), n + j < 3600 → monFrom n ≤ monFrom (n + j)
  | 0, _ => by simp
  | j + 1, h => by
    have h1 := monFrom_le n h0 j (by omega)
    have h2 := monFrom_succ (n + j) (by omega) (by omega)
    have h3 := Cal.dim_bd (1900 + (n + j) / 12) ((n + j) % 12 + 1)
    have e : monSize (n + j) = Cal.dim (1900 + (n + j) / 12) ((n + j) % 12 + 1) := rfl
    rw [show n + ((j + 1 : Nat) : Int) = n + j + 1 by omega, h2]
    omega

/-- a period is over ahead of where a later one begins. -/
theorem perS_next {fr ev y m d k a b a' b' : Int} (hd : Cal.dateB y m d = true) (he : 1 ≤ ev ∧ ev ≤ 50) (h : perS fr ev y m d k = some (a, b)) (h' : perS fr ev y m d (k + 1) = some (a', b')) : b < a' := by
  obtain ⟨_, _, b1, b2⟩ := Cal.num_bd hd
  obtain ⟨hm, _, _⟩ := Cal.date_yes hd
  obtain ⟨y1, y2, m1, m2⟩ := Cal.month_yes hm
  unfold perS at h h'
  split at h
  · cases h
  rename_i hk
  have hke : 0 ≤ k * ev := Int.mul_nonneg (by omega) (by omega)
  have e : (k + 1) * ev = k * ev + ev := by rw [Int.add_mul, Int.one_mul]
  rw [e] at h'
  split at h'
  · cases h'
  by_cases f1 : fr = 1
  · rw [if_pos f1] at h h'
    split at h
    · split at h'
      · cases h; cases h'; omega
      · cases h'
    · cases h
  rw [if_neg f1] at h h'
  by_cases f2 : fr = 2
  · rw [if_pos f2] at h h'
    split at h
    · split at h'
      · cases h; cases h'; omega
      · cases h'
    · cases h
  rw [if_neg f2] at h h'
  by_cases f3 : fr = 3
  · rw [if_pos f3] at h h'
    split at h
    · split at h'
      · rename_i c1 c2
        cases h; cases h'
        have s1 := monFrom_succ ((y - 1900) * 12 + m - 1 + k * ev) (by omega) (by omega)
        have s2 := monFrom_le ((y - 1900) * 12 + m - 1 + k * ev + 1) (by omega) (ev - 1).toNat (by omega)
        rw [show (y - 1900) * 12 + m - 1 + k * ev + 1 + ((ev - 1).toNat : Int) = (y - 1900) * 12 + m - 1 + (k * ev + ev) by omega] at s2
        omega
      · cases h'
    · cases h
  rw [if_neg f3] at h h'
  split at h
  · split at h'
    · cases h; cases h'
      have q2 := year_end (y + k * ev)
      have q1 := Cal.ahead_mono (y + k * ev + 1) (y + (k * ev + ev)) (by omega)
      have q3 := Cal.ahead_succ (y + k * ev)
      have n1 : Cal.num (y + k * ev) 1 1 = Cal.ahead (y + k * ev) + 1 := by unfold Cal.num; rw [Cal.cum_1]; omega
      have n2 : Cal.num (y + (k * ev + ev)) 1 1 = Cal.ahead (y + (k * ev + ev)) + 1 := by unfold Cal.num; rw [Cal.cum_1]; omega
      omega
    · cases h'
  · cases h

theorem plain_ask (n0 n : Int) : askB 2 [] [] [] n0 n = ((n - n0).tmod 7 == 0) := by
  simp [askB, okB, zB]

theorem fact_list : perL 2 [] [] [] [] 46340 46341 46347 = [46347] := by
  have h : askB 2 [] [] [] 46340 = fun n => ((n - 46340).tmod 7 == 0) := by funext n; exact plain_ask _ _
  rw [perL, h]; decide

theorem fact_per : perS 2 1 2026 11 15 1 = some (46341, 46347) := by decide

theorem fact_date : Cal.dateB 2026 11 15 = true ∧ Cal.num 2026 11 15 = 46340 := by decide

theorem perF_plain (fr ev : Int) (hf : fr = 1 ∨ fr = 2) (h1 : 1 ≤ ev ∧ ev ≤ 50) : ruleF fr ev 0 0 [] [] [] [] = 0 := by
  rcases hf with rfl | rfl <;> simp [ruleF, numsB, freqB, fullB, inB2, upB, shapeB, withinB, risesB, risesNB, h1.1, h1.2]

end Go.Proofs.YtkpmddlinlcobaaDoor
