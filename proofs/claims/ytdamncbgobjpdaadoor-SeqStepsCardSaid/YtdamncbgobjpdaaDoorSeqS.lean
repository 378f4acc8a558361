/- The days of a rule that goes each so many days: one so much behind the other. No program in sight. -/
import Derived.Test.YtdamncbgobjpdaaDoorSeqM
namespace Go.Proofs.YtdamncbgobjpdaaDoor
open Go.RowKit
set_option linter.unusedSimpArgs false
set_option linter.unusedVariables false

theorem ask_1 (n0 n : Int) : askB 1 [] [] [] n0 n = true := by
  simp [askB, okB, zB]

theorem perL_1 (n0 a : Int) (h : a ≤ 109573) : perL 1 [] [] [] [] n0 a a = [a] := by
  rw [perL, pickL, if_pos rfl, Int.min_eq_left h, show (a + 1 - a).toNat = 1 by omega, daysG, daysG, ask_1, if_pos rfl]
  simp

theorem perD_day {ev y m d st k : Int} (hst : Cal.num y m d = st) (hk : 0 ≤ k ∧ k ≤ 109573) : perD 1 ev y m d [] [] [] [] st k = if st + k * ev ≤ 109573 then some [st + k * ev] else none := by
  unfold perD perS
  rw [if_neg (by omega), if_pos rfl, hst]
  split
  · next h => simp only [Option.map_some, perL_1 _ _ h]
  · rfl

/-- the list goes on by ev from st + k * ev on, as far as it may. -/
def GoesL (st ev k : Int) (R : List Int) : Prop := (∀ (i : Nat) (h : i < R.length), R[i] = st + (k + i) * ev) ∧ 109573 < st + (k + R.length) * ev

theorem restG_day {ev y m d st : Int} (hst : Cal.num y m d = st) (h1 : 1 ≤ st) (he : 1 ≤ ev) : ∀ (c : Nat) (k : Int), 1 ≤ k → k + c = 109574 → GoesL st ev k (restG (perD 1 ev y m d [] [] [] [] st) st c k)
  | 0, k, hk, hc => by
    refine ⟨fun i h => by simp [restG] at h, ?_⟩
    have : k ≤ k * ev := by have := Int.mul_le_mul_of_nonneg_left he (show 0 ≤ k by omega); omega
    simp [restG]; omega
  | c + 1, k, hk, hc => by
    rw [restG, perD_day hst ⟨by omega, by omega⟩]
    by_cases hl : st + k * ev ≤ 109573
    · rw [if_pos hl]
      have : k ≤ k * ev := by have := Int.mul_le_mul_of_nonneg_left he (show 0 ≤ k by omega); omega
      have hf : [st + k * ev].filter (fun n => decide (st < n)) = [st + k * ev] := by
        rw [List.filter_cons_of_pos (by simp; omega)]; rfl
      show GoesL st ev k ([st + k * ev].filter (fun n => decide (st < n)) ++ restG (perD 1 ev y m d [] [] [] [] st) st c (k + 1))
      rw [hf]
      obtain ⟨q1, q2⟩ := restG_day hst h1 he c (k + 1) (by omega) (by omega)
      refine ⟨fun i h => ?_, ?_⟩
      · cases i with
        | zero => simp
        | succ i =>
          have := q1 i (by simpa using h)
          simp only [List.singleton_append, List.getElem_cons_succ]
          rw [this]; congr 2; omega
      · simp only [List.singleton_append, List.length_cons]
        rw [show k + ((restG (perD 1 ev y m d [] [] [] [] st) st c (k + 1)).length + 1 : Nat) = k + 1 + ((restG (perD 1 ev y m d [] [] [] [] st) st c (k + 1)).length : Int) by omega]
        exact q2
    · rw [if_neg hl]
      show GoesL st ev k []
      exact ⟨fun i h => by simp at h, by simp; omega⟩

theorem eachG_all (ct : Int) (hc : 0 ≤ ct) : ∀ (l : List Int) (j : Nat), eachG 0 ct j l = if ct = 0 then l else l.take (ct.toNat - j)
  | [], j => by simp [eachG]
  | x :: r, j => by
    have h := eachG_all ct hc r (j + 1)
    by_cases h0 : ct = 0
    · rw [eachG, if_pos (by simp [okT, okC, h0]), h, if_pos h0, if_pos h0]
    · rw [if_neg h0] at h ⊢
      by_cases hj : (j : Int) + 1 ≤ ct
      · rw [eachG, if_pos (by simp [okT, okC, hj]), h, show ct.toNat - j = (ct.toNat - (j + 1)) + 1 by omega, List.take_succ_cons]
      · rw [eachG, if_neg (by simp [okT, okC, hj, h0]), show ct.toNat - j = 0 by omega, List.take_zero]

/-- what the law asks of the list. -/
def StepsL (st ev ct : Int) (L : List Int) : Prop := (∀ (i : Nat) (h : i < L.length), L[i] = st + i * ev) ∧ 0 < L.length ∧ (ct = 0 ∨ ((L.length : Int) ≤ ct ∧ ((L.length : Int) = ct ∨ 109573 < st + L.length * ev)))

theorem steps_day {ev ct y m d st : Int} (hd : Cal.dateB y m d = true) (hst : Cal.num y m d = st) (he : 1 ≤ ev) (N : Nat) (hN : 1 ≤ N) (hc : 0 ≤ ct ∧ ct ≤ N) : StepsL st ev ct ((eachL 1 ev ct 0 y m d [] [] [] [] st).take N) := by
  have hb := (Cal.num_bd hd).2.2
  rw [hst] at hb
  obtain ⟨R, hR⟩ : ∃ R, R = restL (perD 1 ev y m d [] [] [] [] st) st 1 := ⟨_, rfl⟩
  have hG : GoesL st ev 1 R := by rw [hR]; exact restG_day hst hb.1 he _ 1 (by omega) (by omega)
  have h0 : restL (perD 1 ev y m d [] [] [] [] st) st 0 = R := by
    rw [restL_some (l := [st]) (by rw [perD_day hst ⟨by omega, by omega⟩, if_pos (by omega)]; simp) (by omega), hR]
    simp
  have hM : ∀ (i : Nat) (h : i < (st :: R).length), (st :: R)[i] = st + i * ev := by
    intro i h
    cases i with
    | zero => simp
    | succ i =>
      rw [List.getElem_cons_succ, hG.1 i (by simpa using h)]
      congr 2; omega
  have hE : 109573 < st + ((st :: R).length : Int) * ev := by
    have := hG.2
    rw [List.length_cons, show ((R.length + 1 : Nat) : Int) = 1 + (R.length : Int) by omega]
    exact this
  rw [eachL, h0, eachG_all ct hc.1]
  obtain ⟨M, hMM⟩ : ∃ M, M = st :: R := ⟨_, rfl⟩
  have hpos : 0 < M.length := by rw [hMM]; simp
  rw [← hMM] at hM hE ⊢
  by_cases hz : ct = 0
  · rw [if_pos hz]
    refine ⟨fun i h => ?_, ?_, .inl hz⟩
    · rw [List.getElem_take]; exact hM i _
    · rw [List.length_take]; omega
  · rw [if_neg hz, Nat.sub_zero, List.take_take]
    refine ⟨fun i h => ?_, ?_, .inr ?_⟩
    · rw [List.getElem_take]; exact hM i _
    · rw [List.length_take]; omega
    · rw [List.length_take]
      refine ⟨by omega, ?_⟩
      by_cases hq : ct.toNat ≤ M.length
      · exact .inl (by omega)
      · right
        rw [show min (min N ct.toNat) M.length = M.length by omega]
        exact hE

end Go.Proofs.YtdamncbgobjpdaaDoor
