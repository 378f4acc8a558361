/- The reference's readings of times and spans, plainly: the same texts are read, as the same. No condition. -/
import Derived.Test.YtiihkdefhhdfnaaGreatDoorDigC
import Derived.Test.YtiihkdefhhdfnaaGreatDoorClkM
namespace Go.Proofs.YtiihkdefhhdfnaaGreatDoor
open Go.Lib
set_option linter.unusedVariables false
set_option linter.unusedSimpArgs false

theorem isDg_yes {c : UInt8} (h : isDg c = true) : digitVal c = some (c.toNat - 48) := by
  simp only [isDg, Bool.and_eq_true, decide_eq_true_eq] at h
  exact digitVal_yes h.1 h.2

theorem isDg_no {c : UInt8} (h : isDg c = false) : digitVal c = none := by
  refine digitVal_no ?_
  simp only [isDg, Bool.and_eq_false_iff, decide_eq_false_iff_not] at h
  omega

theorem digO_all : ∀ (l : List UInt8) (acc : Nat), (decFrom acc l).isSome = l.all isDg
  | [], acc => rfl
  | c :: t, acc => by
    simp only [decFrom]
    cases h : isDg c
    · rw [isDg_no h]; simp [h]
    · rw [isDg_yes h]; simp only []; rw [digO_all t]; simp [h]

theorem digO_eq (l : List UInt8) : digO l = l.all isDg := digO_all l 0

theorem sh16_parts {l : List UInt8} (hl : l.length = 16) : shB l form16 =
    (digO (segL l 0 4) && decide (l[4] = 45) && digO (segL l 5 7) && decide (l[7] = 45) && digO (segL l 8 10) && decide (l[10] = 32) && digO (segL l 11 13) && decide (l[13] = 58) && digO (segL l 14 16)) := by
  match l, hl with
  | [c0, c1, c2, c3, c4, c5, c6, c7, c8, c9, c10, c11, c12, c13, c14, c15], _ =>
    simp only [digO_eq, segL, List.drop_succ_cons, List.drop_zero, List.take_succ_cons, List.take_zero, List.all_cons, List.all_nil, Bool.and_true, List.getElem_cons_succ, List.getElem_cons_zero]
    simp [shB, form16, isDg, Bool.and_assoc]

theorem digN_val {l : List UInt8} {m : Nat} (h : decFrom 0 l = some m) : digN l = (m : Int) := by rw [digN, h]; rfl

/-- the parts of a time's text. -/
theorem time_segs {y m d h i : Nat} (hy : y < 10000) (hm : m < 100) (hd : d < 100) (hh : h < 100) (hi : i < 100) :
    digN (segL (timeT y m d h i) 0 4) = y ∧ digN (segL (timeT y m d h i) 5 7) = m ∧ digN (segL (timeT y m d h i) 8 10) = d ∧ digN (segL (timeT y m d h i) 11 13) = h ∧ digN (segL (timeT y m d h i) 14 16) = i :=
  ⟨digN_val (d4_num hy), digN_val (d2_num hm), digN_val (d2_num hd), digN_val (d2_num hh), digN_val (d2_num hi)⟩

/-- a part that is read digit by digit: what it is. -/
theorem rs_some {nx k : Nat} {P r : List UInt8} {m : Nat} (hm : decFrom 0 P = some m) (hP : P ≠ []) (h48 : P.head? ≠ some 48) (hl : P.length ≤ 9) (hnx : nx ≤ k) (hk : k ≤ 2) (hlim : limB k m = true) : StepS nx (P ++ letC k :: r) k m r := by
  have e := canon _ P m rfl hm hP (.inl h48)
  have h1 : 1 ≤ m := by
    rcases Nat.eq_zero_or_pos m with h | h
    · subst h
      rw [decDigits_one (by omega)] at e
      rw [← e] at h48; exact absurd rfl h48
    · exact h
  exact ⟨by rw [e], h1, by rw [e]; exact hl, hnx, hk, hlim⟩

theorem rs_all {nx k n : Nat} {P r : List UInt8} (hP : ∀ b ∈ P, isDg b = true) : ¬ StepS nx P k n r := by
  rintro ⟨e, -⟩
  have := hP (letC k) (by rw [e]; simp)
  rw [let_isDg] at this; cases this

theorem rs_at {nx k n : Nat} {P t r : List UInt8} {c : UInt8} (hP : ∀ b ∈ P, isDg b = true) (hc : isDg c = false) (h : StepS nx (P ++ c :: t) k n r) : P = decDigits n ∧ c = letC k ∧ t = r ∧ 1 ≤ n ∧ P.length ≤ 9 ∧ nx ≤ k ∧ k ≤ 2 ∧ limB k n = true := by
  obtain ⟨e, h1, h2, h3, h4, h5⟩ := h
  obtain ⟨e1, e2, e3⟩ := split_dg _ _ _ _ _ _ hP (dec_isDg n) hc (let_isDg k) e
  exact ⟨e1, e2, e3, h1, by rw [e1]; exact h2, h3, h4, h5⟩

theorem rs_bad {nx k n : Nat} {P t r : List UInt8} {c : UInt8} (hP : ∀ b ∈ P, isDg b = true) (hc : isDg c = false) (h : P = [] ∨ 9 < P.length ∨ P.head? = some 48) : ¬ StepS nx (P ++ c :: t) k n r := by
  intro hs
  obtain ⟨e, -, -, h1, h2, -⟩ := rs_at hP hc hs
  rcases h with h | h | h
  · exact decDigits_ne n (by rw [← e]; exact h)
  · omega
  · obtain ⟨x, q, g1, -, -, g4⟩ := decDigits_head n
    rw [e, g1] at h
    exact g4 h1 (by simpa using h)

/-- the letter or the number does not fit. -/
theorem rs_def {nx k n m : Nat} {P t r : List UInt8} {c : UInt8} (hP : ∀ b ∈ P, isDg b = true) (hc : isDg c = false) (hm : decFrom 0 P = some m)
    (h : ∀ j, j ≤ 2 → c = letC j → nx ≤ j → limB j m = false) : ¬ StepS nx (P ++ c :: t) k n r := by
  intro hs
  obtain ⟨e, e2, -, -, -, h3, h4, h5⟩ := rs_at hP hc hs
  have : m = n := by
    rw [e, decDigits_val] at hm; exact (Option.some.inj hm).symm
  subst this
  rw [h k h4 e2 h3] at h5; cases h5

end Go.Proofs.YtiihkdefhhdfnaaGreatDoor
