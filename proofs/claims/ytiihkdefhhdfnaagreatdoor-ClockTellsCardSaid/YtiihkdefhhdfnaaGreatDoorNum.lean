/- Numerals, plainly: a text without a needless 0 is the numeral of its number. No condition. -/
import Derived.Lib.Atoi
import Derived.Lib.ItoaMem
namespace Go.Proofs.YtiihkdefhhdfnaaGreatDoor
open Go.Lib
set_option linter.unusedVariables false

theorem digitVal_some {b : UInt8} {d : Nat} (h : digitVal b = some d) : b = UInt8.ofNat (48 + d) ∧ d ≤ 9 := by
  unfold digitVal at h
  split at h
  · next h1 =>
    cases h
    refine ⟨?_, by omega⟩
    rw [← UInt8.toNat_inj, UInt8.toNat_ofNat']; omega
  · cases h

theorem digitVal_of {d : Nat} (h : d < 10) : digitVal (UInt8.ofNat (48 + d)) = some d := by
  have e : (UInt8.ofNat (48 + d)).toNat = 48 + d := by rw [UInt8.toNat_ofNat']; omega
  unfold digitVal
  rw [e, if_pos ⟨by omega, by omega⟩]
  congr 1; omega

theorem decFrom_snoc : ∀ (l : List UInt8) (acc : Nat) (b : UInt8), decFrom acc (l ++ [b]) = (decFrom acc l).bind fun n => (digitVal b).map fun d => n * 10 + d
  | [], acc, b => by
    simp only [List.nil_append, decFrom, Option.bind_some]
    cases digitVal b <;> rfl
  | a :: t, acc, b => by
    simp only [List.cons_append, decFrom]
    cases digitVal a with
    | none => rfl
    | some d => exact decFrom_snoc t _ b

theorem decDigits_big {n : Nat} (h : ¬ n < 10) : decDigits n = decDigits (n / 10) ++ [UInt8.ofNat (48 + n % 10)] := by rw [decDigits, dif_neg h]

theorem decDigits_ne (n : Nat) : decDigits n ≠ [] := by
  rw [decDigits]; split <;> simp

theorem decDigits_le : ∀ (k u : Nat), u < 10 ^ (k + 1) → (decDigits u).length ≤ k + 1
  | 0, u, h => by rw [decDigits_one (by simpa using h)]; simp
  | k + 1, u, h => by
    by_cases h1 : u < 10
    · rw [decDigits_one h1]; simp
    · rw [decDigits_big h1, List.length_append]
      have h2 : u / 10 < 10 ^ (k + 1) := by
        rw [Nat.pow_succ] at h
        exact Nat.div_lt_of_lt_mul (by rw [Nat.mul_comm]; exact h)
      have := decDigits_le k (u / 10) h2
      simp only [List.length_cons, List.length_nil]; omega

theorem dec20 {u : Nat} (h : u ≤ 9223372036854775807) : (decDigits u).length ≤ 20 := by
  have h1 : (10 : Nat) ^ (19 + 1) = 100000000000000000000 := by decide
  exact decDigits_le 19 u (by omega)

theorem decDigits_val (n : Nat) : decFrom 0 (decDigits n) = some n := by
  induction n using Nat.strongRecOn with
  | _ n ih =>
    by_cases h : n < 10
    · rw [decDigits_one h, decFrom, digitVal_of h]
      simp [decFrom]
    · rw [decDigits_big h, decFrom_snoc, ih (n / 10) (by omega), digitVal_of (by omega)]
      simp only [Option.bind_some, Option.map_some]
      congr 1; omega

theorem decDigits_head (n : Nat) : ∃ c r, decDigits n = c :: r ∧ 48 ≤ c.toNat ∧ c.toNat ≤ 57 ∧ (1 ≤ n → c ≠ 48) := by
  induction n using Nat.strongRecOn with
  | _ n ih =>
    by_cases h : n < 10
    · refine ⟨UInt8.ofNat (48 + n), [], decDigits_one h, ?_⟩
      have e : (UInt8.ofNat (48 + n)).toNat = 48 + n := by rw [UInt8.toNat_ofNat']; omega
      refine ⟨by omega, by omega, fun h1 h2 => ?_⟩
      rw [← UInt8.toNat_inj, e] at h2
      have : (48 : UInt8).toNat = 48 := rfl
      omega
    · obtain ⟨c, r, h1, h2, h3, h4⟩ := ih (n / 10) (by omega)
      exact ⟨c, r ++ [UInt8.ofNat (48 + n % 10)], by rw [decDigits_big h, h1]; rfl, h2, h3, fun _ => h4 (by omega)⟩

theorem canon : ∀ (k : Nat) (l : List UInt8) (n : Nat), l.length = k → decFrom 0 l = some n → l ≠ [] → (l.head? ≠ some 48 ∨ l.length = 1) → decDigits n = l := by
  intro k
  induction k with
  | zero => intro l n hk _ h0 _; exact absurd (List.length_eq_zero_iff.1 hk) h0
  | succ k ih =>
    intro l n hk hv h0 h1
    have hl : l = l.dropLast ++ [l.getLast h0] := (List.dropLast_concat_getLast h0).symm
    generalize l.dropLast = i at hl
    generalize l.getLast h0 = b at hl
    subst hl
    rw [decFrom_snoc] at hv
    cases hm : decFrom 0 i with
    | none => rw [hm] at hv; cases hv
    | some m =>
      cases hd : digitVal b with
      | none => rw [hm, hd] at hv; cases hv
      | some d =>
        rw [hm, hd] at hv
        simp only [Option.bind_some, Option.map_some, Option.some.injEq] at hv
        obtain ⟨hb, hd9⟩ := digitVal_some hd
        by_cases hi : i = []
        · subst hi
          simp only [decFrom, Option.some.injEq] at hm
          subst hm; subst hv
          rw [show 0 * 10 + d = d by omega, decDigits_one (by omega), hb]; rfl
        · have hh : i.head? ≠ some 48 := by
            rcases h1 with h1 | h1
            · cases i with
              | nil => exact absurd rfl hi
              | cons x r => simpa using h1
            · rw [List.length_append] at h1
              have := List.length_pos_iff.2 hi
              simp only [List.length_cons, List.length_nil] at h1; omega
          have e := ih i m (by simp at hk; exact hk) hm hi (.inl hh)
          have hm1 : 1 ≤ m := by
            rcases Nat.eq_zero_or_pos m with h | h
            · subst h; rw [decDigits_one (by omega)] at e
              rw [← e] at hh; exact absurd rfl hh
            · exact h
          have hn : ¬ n < 10 := by omega
          have n1 : n / 10 = m := by omega
          have n2 : n % 10 = d := by omega
          rw [decDigits_big hn, n1, e, n2, ← hb]

theorem atoi_itoa (n : Int) : atoi (itoa n) = some n := by
  by_cases h : n < 0
  · rw [itoa, if_pos h, atoi]
    simp only [beq_self_eq_true, if_true, decNat]
    rw [if_neg (by simpa using decDigits_ne _), decDigits_val]
    simp; omega
  · rw [itoa, if_neg h]
    obtain ⟨c, r, h1, h2, h3, h4⟩ := decDigits_head n.toNat
    have hv := decDigits_val n.toNat
    rw [h1] at hv ⊢
    have e45 : (c == 45) = false := by
      rw [beq_eq_false_iff_ne]; rintro rfl; exact absurd h2 (by decide)
    have e43 : (c == 43) = false := by
      rw [beq_eq_false_iff_ne]; rintro rfl; exact absurd h2 (by decide)
    rw [atoi]
    simp only [e45, e43, Bool.false_eq_true, if_false, decNat, List.isEmpty_cons, hv, Option.map_some]
    congr 1; omega

/-- a number of at most so many digits, perhaps below 0, without a needless 0. -/
def numP (most : Nat) (l : List UInt8) : Option Int :=
  if 1 < l.length ∧ l.head? = some 45 then
    (if most < (l.drop 1).length ∨ (l.drop 1).head? = some 48 then none else (decFrom 0 (l.drop 1)).map fun n => -(n : Int))
  else if l = [] ∨ most < l.length ∨ (l.head? = some 48 ∧ 1 < l.length) then none else (decFrom 0 l).map fun n => (n : Int)

theorem numP_some {most : Nat} {l : List UInt8} {n : Int} (h : numP most l = some n) : l = itoa n ∧ (decDigits n.natAbs).length ≤ most := by
  unfold numP at h
  split at h
  · next h1 =>
    obtain ⟨h1, h2⟩ := h1
    split at h
    · cases h
    · next h3 =>
      cases hm : decFrom 0 (l.drop 1) with
      | none => rw [hm] at h; cases h
      | some m =>
        rw [hm] at h
        replace h : -(m : Int) = n := by simpa using h
        have hne : l.drop 1 ≠ [] := by
          intro e; have := congrArg List.length e; simp at this; omega
        have hc := canon _ _ m rfl hm hne (.inl fun e => h3 (.inr e))
        have hm1 : 1 ≤ m := by
          rcases Nat.eq_zero_or_pos m with h | h
          · subst h; rw [decDigits_one (by omega)] at hc
            exact absurd (by rw [← hc]; rfl) (fun e => h3 (.inr e))
          · exact h
        have hl : l = 45 :: l.drop 1 := by
          cases l with
          | nil => cases h2
          | cons a r => simp at h2; simp [h2]
        refine ⟨?_, ?_⟩
        · rw [← h, itoa_neg m hm1, hc]; exact hl
        · rw [← h, show (-(m : Int)).natAbs = m by omega, hc]
          exact Nat.le_of_not_lt fun e => h3 (.inl e)
  · next h1 =>
    split at h
    · cases h
    · next h3 =>
      cases hm : decFrom 0 l with
      | none => rw [hm] at h; cases h
      | some m =>
        rw [hm] at h
        replace h : (m : Int) = n := by simpa using h
        have hne : l ≠ [] := fun e => h3 (.inl e)
        have hc := canon _ _ m rfl hm hne (by
          by_cases e : l.head? = some 48
          · have := List.length_pos_iff.2 hne
            right
            have : ¬ 1 < l.length := fun x => h3 (.inr (.inr ⟨e, x⟩))
            omega
          · exact .inl e)
        refine ⟨?_, ?_⟩
        · rw [← h, itoa_nonneg, hc]
        · rw [← h, show ((m : Nat) : Int).natAbs = m by omega, hc]
          exact Nat.le_of_not_lt fun e => h3 (.inr (.inl e))

theorem numP_itoa {most : Nat} {n : Int} (h : (decDigits n.natAbs).length ≤ most) : numP most (itoa n) = some n := by
  obtain ⟨c, r, h1, h2, h3, h4⟩ := decDigits_head n.natAbs
  have hv := decDigits_val n.natAbs
  by_cases hn : n < 0
  · have e : itoa n = 45 :: decDigits n.natAbs := by rw [itoa, if_pos hn]
    unfold numP
    rw [if_pos (by rw [e, h1]; simp), if_neg, e]
    · rw [List.drop_succ_cons, List.drop_zero, hv]; simp; omega
    · rw [e, List.drop_succ_cons, List.drop_zero]
      rintro (h5 | h5)
      · omega
      · rw [h1] at h5; simp at h5; exact h4 (by omega) h5
  · have e : itoa n = decDigits n.natAbs := by rw [itoa, if_neg hn, show n.toNat = n.natAbs by omega]
    have hc : c ≠ 45 := by rintro rfl; exact absurd h2 (by decide)
    unfold numP
    rw [if_neg (by rw [e, h1]; simp [hc]), if_neg, e]
    · rw [hv]; simp; omega
    · rw [e]
      rintro (h5 | h5 | ⟨h5, h6⟩)
      · exact decDigits_ne _ h5
      · omega
      · rw [h1] at h5; simp at h5
        by_cases hz : 1 ≤ n.natAbs
        · exact h4 hz h5
        · rw [decDigits_one (by omega)] at h6; simp at h6

/-- a text is just one numeral: read strictly, it is the number's own text. -/
theorem numP_iff {most : Nat} {l : List UInt8} {n : Int} : numP most l = some n ↔ l = itoa n ∧ (decDigits n.natAbs).length ≤ most :=
  ⟨numP_some, fun ⟨h1, h2⟩ => by rw [h1]; exact numP_itoa h2⟩

end Go.Proofs.YtiihkdefhhdfnaaGreatDoor
