/- The reference's days of a rule, plainly, and that they are the program's. No program in sight. -/
import Derived.Test.YtdpngbjlljgoaaaDoorSeqM
namespace Go.Proofs.YtdpngbjlljgoaaaDoor
open Go.RowKit
set_option linter.unusedSimpArgs false
set_option linter.unusedVariables false

/-- those of a list that are at most so. -/
def upto (to_ : Int) (l : List Int) : List Int := l.filter fun x => decide (x ≤ to_)

theorem upto_append (t : Int) (a b : List Int) : upto t (a ++ b) = upto t a ++ upto t b := List.filter_append ..

theorem upto_none {t : Int} {l : List Int} (h : ∀ x ∈ l, t < x) : upto t l = [] := by
  unfold upto
  rw [List.filter_eq_nil_iff]
  intro x hx
  have := h x hx
  simp; omega

theorem upto_all {t : Int} {l : List Int} (h : ∀ x ∈ l, x ≤ t) : upto t l = l := by
  unfold upto
  rw [List.filter_eq_self]
  intro x hx
  simpa using h x hx

theorem upto_upto (s t : Int) (l : List Int) : upto s (upto t l) = upto (min s t) l := by
  unfold upto
  rw [List.filter_filter]
  congr 1
  funext x
  rw [Bool.eq_iff_iff]
  simp; omega

/-- of a list that rises, those at most so are a first part. -/
theorem upto_take (t : Int) : ∀ (l : List Int) (n : Nat), l.Pairwise (· < ·) → upto t (l.take n) = (upto t l).take n
  | [], n, _ => by simp [upto]
  | x :: r, 0, _ => by simp [upto]
  | x :: r, n + 1, h => by
    have h1 := List.pairwise_cons.1 h
    by_cases hx : x ≤ t
    · have e1 : upto t (x :: r) = x :: upto t r := by simp [upto, hx]
      rw [e1, List.take_succ_cons, List.take_succ_cons, ← upto_take t r n h1.2]
      simp [upto, hx]
    · have e1 : upto t (x :: r) = [] := upto_none (fun z hz => by
        rcases List.mem_cons.1 hz with rfl | hz
        · omega
        · have := h1.1 z hz; omega)
      rw [e1, List.take_succ_cons, upto_none (fun z hz => by
        rcases List.mem_cons.1 hz with rfl | hz
        · omega
        · have := h1.1 z (List.mem_of_mem_take hz); omega)]
      simp

/-- how many of those that are told. -/
def capN (ct : Int) (j n : Nat) : Nat := if ct = 0 then n else min n (ct.toNat - j)

/-- what is told of days that rise: those ahead of the end, as many as may be. -/
theorem eachG_take (ti ct : Int) (hc : 0 ≤ ct) : ∀ (l : List Int) (j n : Nat), l.Pairwise (· < ·) → l.length ≤ n →
    eachG ti ct j l = (if ti = 0 then l else upto ti l).take (capN ct j n)
  | [], j, n, _, _ => by simp [eachG, upto]
  | x :: r, j, n, h, hn => by
    have h1 := List.pairwise_cons.1 h
    obtain ⟨m, rfl⟩ : ∃ m, n = m + 1 := ⟨n - 1, by simp at hn; omega⟩
    have hn2 : r.length ≤ m := by simpa using hn
    by_cases hT : okT ti x = true
    · have e1 : (if ti = 0 then x :: r else upto ti (x :: r)) = x :: (if ti = 0 then r else upto ti r) := by
        by_cases h0 : ti = 0
        · simp [h0]
        · have : x ≤ ti := by simpa [okT, h0] using hT
          simp [h0, upto, this]
      by_cases hC : okC ct j = true
      · rw [eachG_yes (by rw [hT, hC]; rfl), e1]
        have e2 : capN ct j (m + 1) = capN ct (j + 1) m + 1 := by
          unfold capN
          by_cases h0 : ct = 0
          · simp [h0]
          · have : (j : Int) + 1 ≤ ct := by simpa [okC, h0] using hC
            simp only [h0, if_false]; omega
        rw [e2, List.take_succ_cons, eachG_take ti ct hc r (j + 1) m h1.2 hn2]
      · have hC' : okC ct j = false := by simpa using hC
        rw [eachG_no (by rw [hT, hC']; rfl)]
        have e2 : capN ct j (m + 1) = 0 := by
          unfold capN
          by_cases h0 : ct = 0
          · simp [okC, h0] at hC'
          · have : ¬ (j : Int) + 1 ≤ ct := by simpa [okC, h0] using hC'
            simp only [h0, if_false]; omega
        rw [e2, List.take_zero]
    · have hT' : okT ti x = false := by simpa using hT
      rw [eachG_no (by rw [hT']; rfl)]
      have h0 : ti ≠ 0 := by rintro rfl; simp [okT] at hT'
      have hx : ¬ x ≤ ti := by simpa [okT, h0] using hT'
      rw [if_neg h0, upto_none (fun z hz => by
        rcases List.mem_cons.1 hz with rfl | hz
        · omega
        · have := h1.1 z hz; omega)]
      simp

/-- up to which day the reference goes. -/
def hiS (ti t : Int) : Int := if ti ≠ 0 ∧ ti < t then ti else t
/-- how many it takes. -/
def mostS (ct k : Int) : Int := if ct ≠ 0 ∧ ct < k then ct else k

/-- what the reference says of days that rise. -/
def seqR (ti ct : Int) (l : List Int) (t k : Int) : List Int := (upto (hiS ti t) l).take (mostS ct k).toNat

theorem seqR_each {ti ct : Int} (hc : 0 ≤ ct) (ht : 0 ≤ ti) {l : List Int} (h : l.Pairwise (· < ·)) (t k : Int) : seqR ti ct l t k = (upto t (eachG ti ct 0 l)).take k.toNat := by
  rw [eachG_take ti ct hc l 0 l.length h (Nat.le_refl _)]
  unfold seqR
  have hp : (if ti = 0 then l else upto ti l).Pairwise (· < ·) := by
    split
    · exact h
    · exact h.sublist List.filter_sublist
  rw [upto_take t _ _ hp, List.take_take]
  have e1 : upto t (if ti = 0 then l else upto ti l) = upto (hiS ti t) l := by
    unfold hiS
    by_cases h0 : ti = 0
    · simp [h0]
    · rw [if_neg h0, upto_upto]
      by_cases h1 : ti < t
      · rw [if_pos ⟨h0, h1⟩]; congr 1; omega
      · rw [if_neg (by omega)]; congr 1; omega
  rw [e1]
  have hl : (upto (hiS ti t) l).length ≤ l.length := List.length_filter_le ..
  unfold mostS capN
  by_cases h0 : ct = 0
  · simp only [h0, ne_eq, not_true_eq_false, false_and, if_false, if_true]
    rcases Nat.le_total k.toNat l.length with h1 | h1
    · rw [Nat.min_eq_left h1]
    · rw [Nat.min_eq_right h1, List.take_of_length_le hl, List.take_of_length_le (by omega)]
  · simp only [h0, if_false, ne_eq, not_false_eq_true, true_and, Nat.sub_zero]
    by_cases h1 : ct < k
    · rw [if_pos h1, show min k.toNat (min l.length ct.toNat) = min l.length ct.toNat by omega]
      rcases Nat.le_total ct.toNat l.length with h2 | h2
      · rw [Nat.min_eq_right h2]
      · rw [Nat.min_eq_left h2, List.take_of_length_le hl, List.take_of_length_le (by omega)]
    · rw [if_neg h1]
      rcases Nat.le_total k.toNat l.length with h2 | h2
      · rw [show min k.toNat (min l.length ct.toNat) = k.toNat by omega]
      · rw [List.take_of_length_le (show (upto (hiS ti t) l).length ≤ k.toNat by omega), List.take_of_length_le (by omega)]

/-- the first ones. -/
theorem seqR_first {ti ct : Int} (hc : 0 ≤ ct) (ht : 0 ≤ ti) {l : List Int} (h : l.Pairwise (· < ·)) {b : Int} (hb : ∀ x ∈ l, x ≤ b) (k : Int) : seqR ti ct l b k = (eachG ti ct 0 l).take k.toNat := by
  rw [seqR_each hc ht h, upto_all (fun x hx => hb x ((eachG_sub _ _ _ _).subset hx))]

/-- all up to a day, where there are not too many. -/
theorem seqR_upto {ti ct : Int} (hc : 0 ≤ ct) (ht : 0 ≤ ti) {l : List Int} (h : l.Pairwise (· < ·)) (t k : Int) (hk : (l.length : Int) ≤ k) : seqR ti ct l t k = upto t (eachG ti ct 0 l) := by
  rw [seqR_each hc ht h, List.take_of_length_le]
  have h1 : (upto t (eachG ti ct 0 l)).length ≤ (eachG ti ct 0 l).length := List.length_filter_le ..
  have h2 := (eachG_sub ti ct 0 l).length_le
  omega

/-- those of a list that are above a day, the first of them. -/
theorem find_upto (E : List Int) (af t : Int) (hE : E.Pairwise (· < ·)) : (upto t E).find? (fun x => decide (af < x)) = (E.find? (fun x => decide (af < x))).filter (fun x => decide (x ≤ t)) := by
  induction E with
  | nil => rfl
  | cons x r ih =>
    have h1 := List.pairwise_cons.1 hE
    by_cases hx : x ≤ t
    · have e1 : upto t (x :: r) = x :: upto t r := by simp [upto, hx]
      rw [e1]
      by_cases ha : af < x
      · simp [ha, hx, Option.filter]
      · simp only [List.find?_cons, ha, decide_false]; exact ih h1.2
    · have e1 : upto t (x :: r) = [] := upto_none (fun z hz => by
        rcases List.mem_cons.1 hz with rfl | hz
        · omega
        · have := h1.1 z hz; omega)
      rw [e1]
      by_cases ha : af < x
      · simp [ha, hx, Option.filter]
      · simp only [List.find?_cons, ha, decide_false]
        rw [← ih h1.2, upto_none (fun z hz => by have := h1.1 z hz; omega)]

end Go.Proofs.YtdpngbjlljgoaaaDoor
