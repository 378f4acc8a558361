/- A span's text, part by part, plainly: what is wrong with a part, and what is known between two parts. No condition. -/
import Derived.Test.YtiihkdefhhdfnaaGreatDoorClkE
import Derived.Test.YtiihkdefhhdfnaaGreatDoorIdx
namespace Go.Proofs.YtiihkdefhhdfnaaGreatDoor
open Go.RowKit Go.Shelf
set_option linter.unusedSimpArgs false
set_option linter.unusedVariables false

theorem let_in {c : UInt8} (h : dhmL.contains c = true) : ∃ k, k ≤ 2 ∧ c = letC k := by
  rw [List.contains_iff_mem] at h
  simp only [dhmL, List.mem_cons, List.not_mem_nil, or_false] at h
  rcases h with rfl | rfl | rfl
  · exact ⟨0, by omega, rfl⟩
  · exact ⟨1, by omega, rfl⟩
  · exact ⟨2, by omega, rfl⟩

theorem let_has {k : Nat} (h : k ≤ 2) : dhmL.contains (letC k) = true := by
  have : k = 0 ∨ k = 1 ∨ k = 2 := by omega
  rcases this with rfl | rfl | rfl <;> decide

theorem let_ix {k : Nat} (h : k ≤ 2) : Lib.indexByte dhmL (letC k) = (k : Int) := by
  have : k = 0 ∨ k = 1 ∨ k = 2 := by omega
  rcases this with rfl | rfl | rfl <;> decide

theorem dg_not {c : UInt8} (h : isDg c = true) : dhmL.contains c = false := by
  cases hc : dhmL.contains c
  · rfl
  · obtain ⟨k, -, rfl⟩ := let_in hc
    rw [let_isDg] at h; cases h

theorem any_split : ∀ s : List UInt8, (∀ b ∈ s, dhmL.contains b = false) ∨ ∃ P c r, s = P ++ c :: r ∧ (∀ b ∈ P, dhmL.contains b = false) ∧ dhmL.contains c = true
  | [] => .inl (by simp)
  | a :: s => by
    cases ha : dhmL.contains a
    · rcases any_split s with h | ⟨P, c, r, rfl, hP, hc⟩
      · exact .inl fun b hb => by
          rcases List.mem_cons.1 hb with rfl | hb
          · exact ha
          · exact h b hb
      · exact .inr ⟨a :: P, c, r, rfl, fun b hb => by
          rcases List.mem_cons.1 hb with rfl | hb
          · exact ha
          · exact hP b hb, hc⟩
    · exact .inr ⟨[], a, s, rfl, by simp, ha⟩

theorem ia_none {s : List UInt8} (h : ∀ b ∈ s, dhmL.contains b = false) : Lib.indexAny s dhmL = -1 :=
  Lib.indexAny_none fun j b _ hb => h b (List.mem_of_getElem? hb)

theorem ia_hit {P r : List UInt8} {c : UInt8} (h : ∀ b ∈ P, dhmL.contains b = false) (hc : dhmL.contains c = true) : Lib.indexAny (P ++ c :: r) dhmL = (P.length : Int) := by
  refine Lib.indexAny_hit (x := c) (fun j b hj hb => ?_) (by simp) hc
  rw [List.getElem?_append_left hj] at hb
  exact h b (List.mem_of_getElem? hb)

theorem split_let : ∀ (p q : List UInt8) (b c : UInt8) (s t : List UInt8), (∀ x ∈ p, dhmL.contains x = false) → (∀ x ∈ q, dhmL.contains x = false) → dhmL.contains b = true → dhmL.contains c = true →
    p ++ b :: s = q ++ c :: t → p = q ∧ b = c ∧ s = t
  | [], [], b, c, s, t, _, _, _, _, h => by
    simp only [List.nil_append, List.cons.injEq] at h
    exact ⟨rfl, h.1, h.2⟩
  | [], y :: q, b, c, s, t, _, hq, hb, _, h => by
    simp only [List.nil_append, List.cons_append, List.cons.injEq] at h
    have := hq y List.mem_cons_self
    rw [← h.1, hb] at this; cases this
  | x :: p, [], b, c, s, t, hp, _, _, hc, h => by
    simp only [List.nil_append, List.cons_append, List.cons.injEq] at h
    have := hp x List.mem_cons_self
    rw [h.1, hc] at this; cases this
  | x :: p, y :: q, b, c, s, t, hp, hq, hb, hc, h => by
    simp only [List.cons_append, List.cons.injEq] at h
    obtain ⟨e1, e2, e3⟩ := split_let p q b c s t (fun z hz => hp z (List.mem_cons_of_mem _ hz)) (fun z hz => hq z (List.mem_cons_of_mem _ hz)) hb hc h.2
    exact ⟨by rw [h.1, e1], e2, e3⟩

theorem dec_let (n : Nat) : ∀ c ∈ Lib.decDigits n, dhmL.contains c = false := fun c hc => dg_not (dec_isDg n c hc)

theorem step_none {nx : Nat} {s : List UInt8} (h : ∀ b ∈ s, dhmL.contains b = false) (k n : Nat) (r : List UInt8) : ¬ StepS nx s k n r := by
  rintro ⟨e, -, -, -, hk, -⟩
  have := h (letC k) (by rw [e]; simp)
  rw [let_has hk] at this; cases this

theorem step_at {nx k k' n' : Nat} {P r r' : List UInt8} (hP : ∀ b ∈ P, dhmL.contains b = false) (hk : k ≤ 2) (h : StepS nx (P ++ letC k :: r) k' n' r') : k' = k ∧ P = Lib.decDigits n' ∧ 1 ≤ n' ∧ P.length ≤ 9 ∧ nx ≤ k ∧ limB k n' = true := by
  obtain ⟨e, h1, h2, h3, h4, h5⟩ := h
  obtain ⟨rfl, e2, -⟩ := split_let _ _ _ _ _ _ hP (dec_let n') (let_has hk) (let_has h4) e
  obtain rfl := letC_inj hk h4 e2
  exact ⟨rfl, rfl, h1, h2, h3, h5⟩

/-- the bound of a part that is no day. -/
def limN (k : Nat) : Int := if k = 1 then 24 else 60

/-- what is wrong with a part. -/
def badR (Z : Bool) (nx k : Nat) (n : Int) (P : List UInt8) : Bool := decide (Lib.itoa n ≠ P ∨ n < 0 ∨ k < nx ∨ (0 < k ∧ limN k ≤ n) ∨ (n = 0 ∧ Z = false))

theorem badR_zero : badR true 0 2 0 [48] = false := by
  have e : Lib.itoa 0 = [48] := by rw [show (0 : Int) = ((0 : Nat) : Int) from rfl, Lib.itoa_nonneg, Lib.decDigits_one (by omega)]; rfl
  refine decide_eq_false ?_
  rintro (h | h | h | ⟨-, h⟩ | ⟨-, h⟩)
  · exact h e
  · omega
  · omega
  · unfold limN at h; simp at h
  · cases h

theorem badR_no {nx k : Nat} {n : Int} {P r : List UInt8} (hk : k ≤ 2) (hl : P.length ≤ 9) (h : badR false nx k n P = false) : StepS nx (P ++ letC k :: r) k n.toNat r := by
  have g := of_decide_eq_false h
  have g1 : Lib.itoa n = P := Classical.byContradiction fun x => g (.inl x)
  have g2 : ¬ n < 0 := fun x => g (.inr (.inl x))
  have g3 : ¬ k < nx := fun x => g (.inr (.inr (.inl x)))
  have g4 : ¬ (0 < k ∧ limN k ≤ n) := fun x => g (.inr (.inr (.inr (.inl x))))
  have g5 : ¬ n = 0 := fun x => g (.inr (.inr (.inr (.inr ⟨x, rfl⟩))))
  have e : Lib.decDigits n.toNat = P := by rw [← g1]; conv => rhs; rw [show n = ((n.toNat : Nat) : Int) by omega, Lib.itoa_nonneg]
  refine ⟨by rw [e], by omega, by rw [e]; exact hl, by omega, hk, ?_⟩
  have : k = 0 ∨ k = 1 ∨ k = 2 := by omega
  unfold limN at g4
  rcases this with rfl | rfl | rfl <;> simp [limB] <;> simp at g4 <;> omega

theorem badR_yes {Z : Bool} {nx k : Nat} {n : Int} {P r : List UInt8} (hP : ∀ b ∈ P, dhmL.contains b = false) (hk : k ≤ 2) (ha : Lib.atoi P = some n) (h : badR Z nx k n P = true) (k' n' : Nat) (r' : List UInt8) : ¬ StepS nx (P ++ letC k :: r) k' n' r' := by
  intro hs
  obtain ⟨rfl, e, h1, h2, h3, h4⟩ := step_at hP hk hs
  have en : n = (n' : Int) := by
    have := atoi_itoa (n' : Int)
    rw [Lib.itoa_nonneg, ← e, ha] at this
    exact Option.some.inj this
  subst en
  rcases of_decide_eq_true h with g | g | g | ⟨g, g'⟩ | ⟨g, -⟩
  · exact g (by rw [Lib.itoa_nonneg, e])
  · omega
  · omega
  · unfold limN at g'
    have : k' = 1 ∨ k' = 2 := by omega
    rcases this with rfl | rfl <;> simp [limB] at h4 g' <;> omega
  · omega

theorem atoi_step {nx k k' n' : Nat} {P r r' : List UInt8} (hP : ∀ b ∈ P, dhmL.contains b = false) (hk : k ≤ 2) (ha : Lib.atoi P = none) : ¬ StepS nx (P ++ letC k :: r) k' n' r' := by
  intro hs
  obtain ⟨-, e, -⟩ := step_at hP hk hs
  have := atoi_itoa (n' : Int)
  rw [Lib.itoa_nonneg, ← e, ha] at this; cases this

theorem len_step {nx k k' n' : Nat} {P r r' : List UInt8} (hP : ∀ b ∈ P, dhmL.contains b = false) (hk : k ≤ 2) (hl : P.length < 1 ∨ 9 < P.length) : ¬ StepS nx (P ++ letC k :: r) k' n' r' := by
  intro hs
  obtain ⟨-, e, -, h9, -⟩ := step_at hP hk hs
  have := List.length_pos_iff.2 (decDigits_ne n')
  rw [← e] at this; omega

/-- what is known between two parts: of the text '0m' it is told apart. -/
def InvS (l : List UInt8) (Z : Bool) (nx tot : Nat) (s : List UInt8) : Prop :=
  (Z = false ∧ l ≠ [48, 109] ∧ ∀ x, RdS nx tot s x → RdS 0 0 (bodyS l) x) ∨ (Z = true ∧ l = [48, 109] ∧ ((s = [48, 109] ∧ nx = 0 ∧ tot = 0) ∨ (s = [] ∧ nx = 3 ∧ tot = 0)))

theorem invS_start (l : List UInt8) : InvS l (decide (l = [48, 109])) 0 0 (bodyS l) := by
  by_cases h : l = [48, 109]
  · subst h; exact .inr ⟨rfl, rfl, .inl ⟨rfl, rfl, rfl⟩⟩
  · exact .inl ⟨decide_eq_false h, h, fun x hx => hx⟩

theorem invS_done {l : List UInt8} {Z : Bool} {nx tot : Nat} (h : InvS l Z nx tot []) : SpanR l (finS (lessB l) (some (nx, tot))) := by
  rcases h with ⟨-, h1, h2⟩ | ⟨-, rfl, ⟨h2, -⟩ | ⟨-, rfl, rfl⟩⟩
  · exact .inr ⟨h1, _, h2 _ (.done _ _), rfl⟩
  · cases h2
  · exact .inl ⟨rfl, rfl⟩

theorem invS_bad {l : List UInt8} {nx tot : Nat} {s : List UInt8} (h : InvS l false nx tot s) (h0 : s ≠ []) (hb : ∀ k n r, ¬ StepS nx s k n r) : SpanR l (0, 2) := by
  rcases h with ⟨-, h1, h2⟩ | ⟨h, -⟩
  · exact .inr ⟨h1, _, h2 _ (.bad _ _ _ h0 hb), rfl⟩
  · cases h

theorem invS_go {l : List UInt8} {nx tot k : Nat} {n : Int} {P r : List UInt8} (h : InvS l false nx tot (P ++ letC k :: r)) (hk : k ≤ 2) (hl : P.length ≤ 9) (hb : badR false nx k n P = false) : InvS l false (k + 1) (tot + n.toNat * unitN k) r := by
  rcases h with ⟨-, h1, h2⟩ | ⟨h, -⟩
  · exact .inl ⟨rfl, h1, fun x hx => h2 x (.go _ _ _ _ _ _ _ (badR_no hk hl hb) hx)⟩
  · cases h

theorem dec_nine {n : Nat} (h : (Lib.decDigits n).length ≤ 9) : n < 1000000000 := by
  have h1 := Lib.decFrom_lt _ 0 n (decDigits_val n)
  have h2 : 10 ^ (Lib.decDigits n).length ≤ 10 ^ 9 := Nat.pow_le_pow_right (by decide) h
  have h3 : (10 : Nat) ^ 9 = 1000000000 := by decide
  omega

/-- a part that is right: on to the next one. -/
theorem invS_next {l : List UInt8} {Z : Bool} {nx p0 p1 p2 k : Nat} {n : Int} {P r : List UInt8} (h : InvS l Z nx (p0 * 1440 + p1 * 60 + p2) (P ++ letC k :: r)) (hP : ∀ b ∈ P, dhmL.contains b = false) (hk : k ≤ 2) (hl : P.length ≤ 9) (hb : badR Z nx k n P = false)
    (ha : Lib.atoi P = some n) (hz : (nx ≤ 0 → p0 = 0) ∧ (nx ≤ 1 → p1 = 0) ∧ (nx ≤ 2 → p2 = 0)) :
    ∃ m : Nat, n = (m : Int) ∧ m < 1000000000 ∧ (k = 0 → InvS l Z 1 (m * 1440 + p1 * 60 + p2) r ∧ p1 = 0 ∧ p2 = 0) ∧ (k = 1 → InvS l Z 2 (p0 * 1440 + m * 60 + p2) r ∧ p2 = 0) ∧ (k = 2 → InvS l Z 3 (p0 * 1440 + p1 * 60 + m) r) := by
  have g := of_decide_eq_false hb
  have g1 : Lib.itoa n = P := Classical.byContradiction fun x => g (.inl x)
  have g2 : ¬ n < 0 := fun x => g (.inr (.inl x))
  have g3 : ¬ k < nx := fun x => g (.inr (.inr (.inl x)))
  have en : n = ((n.toNat : Nat) : Int) := by omega
  have e : Lib.decDigits n.toNat = P := by rw [← g1]; conv => rhs; rw [en, Lib.itoa_nonneg]
  have main : InvS l Z (k + 1) (p0 * 1440 + p1 * 60 + p2 + n.toNat * unitN k) r := by
    cases Z
    · exact invS_go h hk hl hb
    · rcases h with ⟨h, -⟩ | ⟨-, h1, ⟨h2, h3, h4⟩ | ⟨h2, -⟩⟩
      · cases h
      · obtain ⟨q1, q2, q3⟩ := split_let P [48] (letC k) (letC 2) r [] hP (by decide) (let_has hk) (by decide) h2
        obtain rfl := letC_inj hk (by omega) q2
        subst q1; subst q3
        have : n = 0 := by
          have e0 : Lib.atoi [48] = some 0 := by decide
          rw [ha] at e0; exact Option.some.inj e0
        subst this
        rw [h4]
        exact .inr ⟨rfl, h1, .inr ⟨rfl, rfl, rfl⟩⟩
      · simp at h2
  refine ⟨n.toNat, en, dec_nine (by rw [e]; exact hl), fun h0 => ?_, fun h0 => ?_, fun h0 => ?_⟩
  · subst h0
    obtain rfl := hz.1 (by omega)
    obtain rfl := hz.2.1 (by omega)
    obtain rfl := hz.2.2 (by omega)
    refine ⟨?_, rfl, rfl⟩
    simpa [unitN] using main
  · subst h0
    obtain rfl := hz.2.1 (by omega)
    obtain rfl := hz.2.2 (by omega)
    refine ⟨?_, rfl⟩
    simpa [unitN] using main
  · subst h0
    obtain rfl := hz.2.2 (by omega)
    simpa [unitN] using main

end Go.Proofs.YtiihkdefhhdfnaaGreatDoor
