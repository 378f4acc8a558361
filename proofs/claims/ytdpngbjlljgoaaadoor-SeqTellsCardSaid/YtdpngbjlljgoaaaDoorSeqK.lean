/- The facts of SeqHolds, plainly: the fourth Thursdays of November; what First, Next, Has, Count and Between tell of one list that rises. No program in sight. -/
import Derived.Test.YtdpngbjlljgoaaaDoorSeqJ
namespace Go.Proofs.YtdpngbjlljgoaaaDoor
open Go.RowKit
set_option linter.unusedSimpArgs false
set_option linter.unusedVariables false

theorem daysG_in {p : Int → Bool} {a : Int} : ∀ (c : Nat) (x : Int), a ≤ x → x < a + c → p x = true → x ∈ daysG p a c
  | 0, x, h1, h2, _ => by omega
  | c + 1, x, h1, h2, h3 => by
    rw [daysG, List.mem_append]
    by_cases hx : x < a + c
    · exact .inl (daysG_in c x h1 hx h3)
    · right
      obtain rfl : x = a + c := by omega
      rw [if_pos h3]; simp

theorem one_of {L : List Int} {x : Int} (hp : L.Pairwise (· < ·)) (hm : x ∈ L) (hu : ∀ z ∈ L, z = x) : L = [x] := by
  match L, hm with
  | [z], hm => rw [hu z (by simp)]
  | z :: t :: r, _ =>
    have h1 := hu z (by simp)
    have h2 := hu t (by simp)
    have h3 := (List.pairwise_cons.1 hp).1 t (by simp)
    omega

theorem rule_thu : ∀ y m d z : Int, askB 4 [11] [] [(4, 4)] 46340 z = true → Cal.dateB y m d = true → Cal.num y m d = z → m = 11 ∧ okB 4 [11] [] [(4, 4)] 46340 11 15 z 11 d 30 = true := by
  intro y m d z ha hd hz
  have h := askB_num 4 [11] [] [(4, 4)] (y0 := 2026) (m0 := 11) (d0 := 15) (by decide) hd
  rw [show Cal.num 2026 11 15 = 46340 by decide, hz, ha] at h
  have hm : m = 11 := by
    have h2 := h.symm
    simp only [okB, Bool.and_eq_true] at h2
    have h3 := h2.1.1.1.1.1
    simpa [inB] using h3
  subst hm
  exact ⟨rfl, by rw [show Cal.dim y 11 = 30 from rfl] at h; exact h.symm⟩

theorem ahead_up {y Y : Int} (h : y < Y) : Cal.ahead (y + 1) ≤ Cal.ahead Y := by
  obtain ⟨k, hk⟩ : ∃ k : Nat, Y = y + 1 + (k : Int) := ⟨(Y - y - 1).toNat, by omega⟩
  subst hk
  clear h
  induction k with
  | zero => simp
  | succ k ih =>
    have h1 := Cal.ahead_succ (y + 1 + (k : Int))
    have h2 := Cal.lp_01 (y + 1 + (k : Int))
    rw [show y + 1 + ((k + 1 : Nat) : Int) = y + 1 + (k : Int) + 1 by omega]
    omega

theorem year_of {y Y z : Int} (h : Cal.ahead y < z ∧ z ≤ Cal.ahead (y + 1)) (h1 : Cal.ahead Y < z) (h2 : z ≤ Cal.ahead (Y + 1)) : y = Y := by
  rcases Int.lt_trichotomy y Y with h3 | h3 | h3
  · have := ahead_up h3; omega
  · exact h3
  · have := ahead_up h3; omega

theorem thu_2026 : perL 4 [11] [] [(4, 4)] [] 46340 46022 46386 = [46351] := by
  rw [perL, pickL, if_pos rfl, show (min 46386 109573 + 1 - 46022 : Int).toNat = 365 by decide]
  have key : ∀ k : Fin 31, okB 4 [11] [] [(4, 4)] 46340 11 15 (46325 + ((k : Nat) : Int)) 11 ((k : Nat) : Int) 30 = true → (k : Nat) = 26 := by decide
  refine one_of (daysG_up _ _ _) (daysG_in _ _ (by decide) (by decide) ?_) fun z hz => ?_
  · have h := askB_num 4 [11] [] [(4, 4)] (y0 := 2026) (m0 := 11) (d0 := 15) (y := 2026) (m := 11) (d := 26) (by decide) (by decide)
    rw [show Cal.num 2026 11 15 = 46340 by decide, show Cal.num 2026 11 26 = 46351 by decide] at h
    rw [h]; decide
  · obtain ⟨q1, q2, q3⟩ := daysG_mem _ _ _ _ hz
    obtain ⟨y, m, d, hd, hn⟩ := Cal.ex_date z (by omega) (by omega)
    obtain ⟨hm, hok⟩ := rule_thu y m d z q3 hd hn
    subst hm
    have hb := Cal.num_bd hd
    rw [hn] at hb
    have hY : y = 2026 := year_of ⟨hb.1, hb.2.1⟩ (by rw [show Cal.ahead 2026 = 46021 by decide]; omega) (by rw [show Cal.ahead (2026 + 1) = 46386 by decide]; omega)
    subst hY
    have hz2 : z = 46325 + d := by rw [← hn, Cal.num, show Cal.ahead 2026 = 46021 by decide, show Cal.cum 2026 11 = 304 by decide]; omega
    have hdd : 1 ≤ d ∧ d ≤ 30 := by
      simp only [Cal.dateB, Bool.and_eq_true, decide_eq_true_eq] at hd
      exact ⟨hd.1.2, by have := hd.2; rw [show Cal.dim 2026 11 = 30 by decide] at this; exact this⟩
    obtain ⟨k, rfl⟩ : ∃ k : Nat, d = (k : Int) := ⟨d.toNat, by omega⟩
    have := key ⟨k, by omega⟩ (by rw [hz2] at hok; exact hok)
    simp only at this
    omega

theorem thu_2027 : perL 4 [11] [] [(4, 4)] [] 46340 46387 46751 = [46715] := by
  rw [perL, pickL, if_pos rfl, show (min 46751 109573 + 1 - 46387 : Int).toNat = 365 by decide]
  have key : ∀ k : Fin 31, okB 4 [11] [] [(4, 4)] 46340 11 15 (46690 + ((k : Nat) : Int)) 11 ((k : Nat) : Int) 30 = true → (k : Nat) = 25 := by decide
  refine one_of (daysG_up _ _ _) (daysG_in _ _ (by decide) (by decide) ?_) fun z hz => ?_
  · have h := askB_num 4 [11] [] [(4, 4)] (y0 := 2026) (m0 := 11) (d0 := 15) (y := 2027) (m := 11) (d := 25) (by decide) (by decide)
    rw [show Cal.num 2026 11 15 = 46340 by decide, show Cal.num 2027 11 25 = 46715 by decide] at h
    rw [h]; decide
  · obtain ⟨q1, q2, q3⟩ := daysG_mem _ _ _ _ hz
    obtain ⟨y, m, d, hd, hn⟩ := Cal.ex_date z (by omega) (by omega)
    obtain ⟨hm, hok⟩ := rule_thu y m d z q3 hd hn
    subst hm
    have hb := Cal.num_bd hd
    rw [hn] at hb
    have hY : y = 2027 := year_of ⟨hb.1, hb.2.1⟩ (by rw [show Cal.ahead 2027 = 46386 by decide]; omega) (by rw [show Cal.ahead (2027 + 1) = 46751 by decide]; omega)
    subst hY
    have hz2 : z = 46690 + d := by rw [← hn, Cal.num, show Cal.ahead 2027 = 46386 by decide, show Cal.cum 2027 11 = 304 by decide]; omega
    have hdd : 1 ≤ d ∧ d ≤ 30 := by
      simp only [Cal.dateB, Bool.and_eq_true, decide_eq_true_eq] at hd
      exact ⟨hd.1.2, by have := hd.2; rw [show Cal.dim 2027 11 = 30 by decide] at this; exact this⟩
    obtain ⟨k, rfl⟩ : ∃ k : Nat, d = (k : Int) := ⟨d.toNat, by omega⟩
    have := key ⟨k, by omega⟩ (by rw [hz2] at hok; exact hok)
    simp only at this
    omega

set_option maxRecDepth 100000 in
theorem thu_fact : (eachL 4 1 0 0 2026 11 15 [11] [] [(4, 4)] [] 46340).take 3 = [46340, 46351, 46715] := by
  have p0 : perD 4 1 2026 11 15 [11] [] [(4, 4)] [] 46340 0 = some [46351] := by
    rw [perD_some (a := 46022) (b := 46386) (by decide)]
    exact congrArg some thu_2026
  have p1 : perD 4 1 2026 11 15 [11] [] [(4, 4)] [] 46340 1 = some [46715] := by
    rw [perD_some (a := 46387) (b := 46751) (by decide)]
    exact congrArg some thu_2027
  rw [eachL, restL_some p0 (by decide), restL_some (k := 0 + 1) p1 (by decide)]
  rw [show ([46351] : List Int).filter (fun n => decide ((46340 : Int) < n)) = [46351] by decide, show ([46715] : List Int).filter (fun n => decide ((46340 : Int) < n)) = [46715] by decide]
  simp [eachG, okT, okC]

end Go.Proofs.YtdpngbjlljgoaaaDoor
