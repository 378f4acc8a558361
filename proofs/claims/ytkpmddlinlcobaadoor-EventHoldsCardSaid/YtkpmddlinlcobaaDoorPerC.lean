/- The contracts of period.of (whole), period.ready, period.Begin. -/
import Derived.Test.YtkpmddlinlcobaaDoorPerB
import Derived.Test.YtkpmddlinlcobaaDoorRuleC
namespace Go.Proofs.YtkpmddlinlcobaaDoor
open Go.RowKit
set_option linter.unusedSimpArgs false
set_option linter.unusedVariables false

/-- the k-th period of a rule that begins at a date; none: there is no such. -/
def perS (fr ev y m d k : Int) : Option (Int × Int) :=
  if k < 0 ∨ 109573 < k then none else
  if fr = 1 then (if Cal.num y m d + k * ev ≤ 109573 then some (Cal.num y m d + k * ev, Cal.num y m d + k * ev) else none) else
  if fr = 2 then (if Cal.mondayI (Cal.num y m d) + 7 * (k * ev) ≤ 109573 then some (Cal.mondayI (Cal.num y m d) + 7 * (k * ev), Cal.mondayI (Cal.num y m d) + 7 * (k * ev) + 6) else none) else
  if fr = 3 then (if (y - 1900) * 12 + m - 1 + k * ev < 3600 then some (monFrom ((y - 1900) * 12 + m - 1 + k * ev), monFrom ((y - 1900) * 12 + m - 1 + k * ev) + monSize ((y - 1900) * 12 + m - 1 + k * ev) - 1) else none) else
  if y + k * ev ≤ 2199 then some (Cal.num (y + k * ev) 1 1, Cal.num (y + k * ev) 12 31) else none

/-- .. that begins at a day. -/
def PerO (fr ev n k : Int) (o : Option (Int × Int)) : Prop :=
  ((n < 1 ∨ 109573 < n) ∧ o = none) ∨ ∃ y m d, Cal.dateB y m d = true ∧ Cal.num y m d = n ∧ o = perS fr ev y m d k

theorem perO_ex (fr ev n k : Int) : ∃ o, PerO fr ev n k o := by
  by_cases h : 1 ≤ n ∧ n ≤ 109573
  · obtain ⟨y, m, d, h1, h2⟩ := Cal.ex_date n h.1 h.2
    exact ⟨_, .inr ⟨y, m, d, h1, h2, rfl⟩⟩
  · exact ⟨none, .inl ⟨by omega, rfl⟩⟩

theorem mul_bd (k ev : Int) (h1 : 0 ≤ k ∧ k ≤ 109573) (h2 : 1 ≤ ev ∧ ev ≤ 50) : 0 ≤ k * ev ∧ k * ev ≤ 6000000 := by
  constructor
  · exact Int.mul_nonneg h1.1 (by omega)
  · have := Int.mul_le_mul h1.2 h2.2 (by omega) (by omega); omega

theorem of_any (fr ev ct ti k : Int) (am ad aw ap : Option Addr) (lm km ld kd lw kw lp kp : Nat) (n : Int) (o : Option (Int × Int)) (w : World) (hw : Months w)
    (hf : 1 ≤ fr ∧ fr ≤ 4) (he : 1 ≤ ev ∧ ev ≤ 50) (ho : PerO fr ev n k o) :
    Calls Tryd.prog 57 #[.agg #[.int .i64 fr, .int .i64 ev, .int .i64 ct, .int .i64 ti, .slice am lm km, .slice ad ld kd, .slice aw lw kw, .slice ap lp kp], .int .i64 n, .int .i64 k] w
      fun e w' => ∃ a b : Int, (e = .returned (.tuple #[.agg #[.int .i64 a, .int .i64 b], .bool o.isSome]) ∧ ∀ p, o = some p → p = (a, b)) ∧ Below w.heap.size w w' := by
  rcases ho with ⟨hn, rfl⟩ | ⟨y, m, d, hd, rfl, rfl⟩
  · refine (of_start fr ev ct ti k am ad aw ap lm km ld kd lw kw lp kp n w hn).mono ?_
    rintro e w1 ⟨rfl, hb⟩; exact ⟨0, 0, ⟨rfl, by simp⟩, hb⟩
  · unfold perS
    by_cases hk : k < 0 ∨ 109573 < k
    · rw [if_pos hk]
      refine (of_k fr ev ct ti k am ad aw ap lm km ld kd lw kw lp kp y m d w hw hd hk).mono ?_
      rintro e w1 ⟨rfl, hb⟩; exact ⟨0, 0, ⟨rfl, by simp⟩, hb⟩
    rw [if_neg hk]
    have hk2 : 0 ≤ k ∧ k ≤ 109573 := by omega
    have hm := mul_bd k ev hk2 he
    by_cases f1 : fr = 1
    · subst f1
      rw [if_pos rfl]
      refine (of_1 ev ct ti k am ad aw ap lm km ld kd lw kw lp kp y m d w hw hd hk2 hm).mono ?_
      rintro e w1 ⟨rfl, hb⟩
      by_cases hc : Cal.num y m d + k * ev ≤ 109573
      · rw [if_pos hc, decide_eq_true hc]; exact ⟨_, _, ⟨rfl, fun p hp => (Option.some.inj hp).symm⟩, hb⟩
      · rw [if_neg hc, decide_eq_false hc]; exact ⟨_, _, ⟨rfl, by simp⟩, hb⟩
    rw [if_neg f1]
    by_cases f2 : fr = 2
    · subst f2
      rw [if_pos rfl]
      refine (of_2 ev ct ti k am ad aw ap lm km ld kd lw kw lp kp y m d w hw hd hk2 hm).mono ?_
      rintro e w1 ⟨rfl, hb⟩
      by_cases hc : Cal.mondayI (Cal.num y m d) + 7 * (k * ev) ≤ 109573
      · rw [if_pos hc, decide_eq_true hc]; exact ⟨_, _, ⟨rfl, fun p hp => (Option.some.inj hp).symm⟩, hb⟩
      · rw [if_neg hc, decide_eq_false hc]; exact ⟨_, _, ⟨rfl, by simp⟩, hb⟩
    rw [if_neg f2]
    by_cases f3 : fr = 3
    · subst f3
      rw [if_pos rfl]
      by_cases hc : (y - 1900) * 12 + m - 1 + k * ev < 3600
      · rw [if_pos hc]
        refine (of_3 ev ct ti k am ad aw ap lm km ld kd lw kw lp kp y m d w hw hd hk2 hm hc).mono ?_
        rintro e w1 ⟨rfl, hb⟩; exact ⟨_, _, ⟨rfl, fun p hp => (Option.some.inj hp).symm⟩, hb⟩
      · rw [if_neg hc]
        refine (of_3_none ev ct ti k am ad aw ap lm km ld kd lw kw lp kp y m d w hw hd hk2 hm (by omega)).mono ?_
        rintro e w1 ⟨rfl, hb⟩; exact ⟨_, _, ⟨rfl, by simp⟩, hb⟩
    rw [if_neg f3]
    have f4 : fr = 4 := by omega
    subst f4
    by_cases hc : y + k * ev ≤ 2199
    · rw [if_pos hc]
      refine (of_4 ev ct ti k am ad aw ap lm km ld kd lw kw lp kp y m d w hw hd hk2 hm hc).mono ?_
      rintro e w1 ⟨rfl, hb⟩; exact ⟨_, _, ⟨rfl, fun p hp => (Option.some.inj hp).symm⟩, hb⟩
    · rw [if_neg hc]
      refine (of_4_none ev ct ti k am ad aw ap lm km ld kd lw kw lp kp y m d w hw hd hk2 hm (by omega)).mono ?_
      rintro e w1 ⟨rfl, hb⟩; exact ⟨_, _, ⟨rfl, by simp⟩, hb⟩

/-- a rule without a fault has a kind and a step. -/
theorem ruleF_0 {fr ev ct ti : Int} {mo da : List Int} {we : List (Int × Int)} {pk : List Int} (h : ruleF fr ev ct ti mo da we pk = 0) :
    (1 ≤ fr ∧ fr ≤ 4) ∧ (1 ≤ ev ∧ ev ≤ 50) ∧ (0 ≤ ct ∧ ct ≤ 200) ∧ fullB mo da we pk = false ∧ inB2 mo da (we.any nth2B) pk = true ∧ upB mo da we pk = true ∧ shapeB fr mo da we pk = false := by
  unfold ruleF at h
  by_cases h1 : numsB fr ev ct ti = true
  · rw [if_pos h1] at h
    by_cases h2 : (ct != 0 && ti != 0) = true
    · rw [if_pos h2] at h; omega
    · rw [if_neg h2] at h
      by_cases h3 : fullB mo da we pk = true
      · rw [if_pos h3] at h; omega
      · rw [if_neg h3] at h
        by_cases h4 : inB2 mo da (we.any nth2B) pk = true
        · rw [if_pos h4] at h
          by_cases h5 : upB mo da we pk = true
          · rw [if_pos h5] at h
            by_cases h6 : shapeB fr mo da we pk = true
            · rw [if_pos h6] at h; omega
            · simp [numsB, freqB] at h1
              exact ⟨by omega, by omega, by omega, by simpa using h3, h4, h5, by simpa using h6⟩
          · rw [if_neg h5] at h; omega
        · rw [if_neg h4] at h; omega
  · rw [if_neg h1] at h; omega

/-- what is told of a period: its fault, and its stretch. -/
def perT (F : Int) (o : Option (Int × Int)) : Int × Int × Int := if F ≠ 0 then (F, 0, 0) else match o with
  | none => (1, 0, 0)
  | some p => (0, p.1, p.2)

end Go.Proofs.YtkpmddlinlcobaaDoor
