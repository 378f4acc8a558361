/- The contracts of period.of (whole), period.ready, period.Begin. -/
import Derived.Test.YtdamncbgobjpdaaDoorPerB
import Derived.Test.YtdamncbgobjpdaaDoorRuleC
namespace Go.Proofs.YtdamncbgobjpdaaDoor
open Go.RowKit
set_option linter.unusedSimpArgs false
set_option linter.unusedVariables false

/-- the k-th period of a rule that begins at a date; none: there is no such. -/
def perS (fr ev y m d k : Int) : Option (Int × Int) :=
  if k < 0 ∨ 109573 < k then none else
  if fr = 1 then (if Cal.num y m d + k * ev ≤ 109573 then some (Cal.num y m d + k * ev, Cal.num y m d + k * ev) else none) else
  if fr = 2 then (if Cal.mondayI (Cal.num y m d) + 7 * (k * ev) ≤ 109573 then some (Cal.mondayI (Cal.num y m d) + 7 * (k * ev), Cal.mondayI (Cal.num y m d) + 7 * (k * ev) + 6) else none) else
  if fr = 3 then (if (y - 1900) * 12 + m - 1 + k * ev < 3600 then some (monFrom ((y - 1900) * 12 + m - 1 + k * ev), monFrom ((y - 1900) * 12 + m - 1 + k * ev) + monSize ((y - 1900) * 12 + m - 1 + k * ev) - 1) else none) else
  if y + k * ev ≤ 2199 then some (Cal.num (y + k * ev) 1 1, Cal.num (y + k * ev) 12 31) else none

/-- .. that begins at a day. -/
def PerO (fr ev n k : Int) (o : Option (Int × Int)) : Prop :=
  ((n < 1 ∨ 109573 < n) ∧ o = none) ∨ ∃ y m d, Cal.dateB y m d = true ∧ Cal.num y m d = n ∧ o = perS fr ev y m d k

theorem perO_ex (fr ev n k : Int) : ∃ o, PerO fr ev n k o := by
  by_cases h : 1 ≤ n ∧ n ≤ 109573
  · obtain ⟨y, m, d, h1, h2⟩ := Cal.ex_date n h.1 h.2
    exact ⟨_, .inr ⟨y, m, d, h1, h2, rfl⟩⟩
  · exact ⟨none, .inl ⟨by omega, rfl⟩⟩

theorem mul_bd (k ev : Int) (h1 : 0 ≤ k ∧ k ≤ 109573) (h2 : 1 ≤ ev ∧ ev ≤ 50) : 0 ≤ k * ev ∧ k * ev ≤ 6000000 := by
  constructor
  · exact Int.mul_nonneg h1.1 (by omega)
  · have := Int.mul_le_mul h1.2 h2.2 (by omega) (by omega); omega

theorem of_any (fr ev ct ti k : Int) (am ad aw ap : Option Addr) (lm km ld kd lw kw lp kp : Nat) (n : Int) (o : Option (Int × Int)) (w : World) (hw : Months w)
    (hf : 1 ≤ fr ∧ fr ≤ 4) (he : 1 ≤ ev ∧ ev ≤ 50) (ho : PerO fr ev n k o) :
    Calls Tryd.prog 124 #[.agg #[.int .i64 fr, .int .i64 ev, .int .i64 ct, .int .i64 ti, .slice am lm km, .slice ad ld kd, .slice aw lw kw, .slice ap lp kp], .int .i64 n, .int .i64 k] w
      fun e w' => ∃ a b : Int, (e = .returned (.tuple #[.agg #[.int .i64 a, .int .i64 b], .bool o.isSome]) ∧ ∀ p, o = some p → p = (a, b)) ∧ Below w.heap.size w w' := by
  rcases ho with ⟨hn, rfl⟩ | ⟨y, m, d, hd, rfl, rfl⟩
  · refine (of_start fr ev ct ti k am ad aw ap lm km ld kd lw kw lp kp n w hn).mono ?_
    rintro e w1 ⟨rfl, hb⟩; exact ⟨0, 0, ⟨rfl, by simp⟩, hb⟩
  · unfold perS
    by_cases hk : k < 0 ∨ 109573 < k
    · rw [if_pos hk]
      refine (of_k fr ev ct ti k am ad aw ap lm km ld kd lw kw lp kp y m d w hw hd hk).mono ?_
      rintro e w1 ⟨rfl, hb⟩; exact ⟨0, 0, ⟨rfl, by simp⟩, hb⟩
    rw [if_neg hk]
    have hk2 : 0 ≤ k ∧ k ≤ 109573 := by omega
    have hm := mul_bd k ev hk2 he
    by_cases f1 : fr = 1
    · subst f1
      rw [if_pos rfl]
      refine (of_1 ev ct ti k am ad aw ap lm km ld kd lw kw lp kp y m d w hw hd hk2 hm).mono ?_
      rintro e w1 ⟨rfl, hb⟩
      by_cases hc : Cal.num y m d + k * ev ≤ 109573
      · rw [if_pos hc, decide_eq_true hc]; exact ⟨_, _, ⟨rfl, fun p hp => (Option.some.inj hp).symm⟩, hb⟩
      · rw [if_neg hc, decide_eq_false hc]; exact ⟨_, _, ⟨rfl, by simp⟩, hb⟩
    rw [if_neg f1]
    by_cases f2 : fr = 2
    · subst f2
      rw [if_pos rfl]
      refine (of_2 ev ct ti k am ad aw ap lm km ld kd lw kw lp kp y m d w hw hd hk2 hm).mono ?_
      rintro e w1 ⟨rfl, hb⟩
      by_cases hc : Cal.mondayI (Cal.num y m d) + 7 * (k * ev) ≤ 109573
      · rw [if_pos hc, decide_eq_true hc]; exact ⟨_, _, ⟨rfl, fun p hp => (Option.some.inj hp).symm⟩, hb⟩
      · rw [if_neg hc, decide_eq_false hc]; exact ⟨_, _, ⟨rfl, by simp⟩, hb⟩
    rw [if_neg f2]
    by_cases f3 : fr = 3
    · subst f3
      rw [if_pos rfl]
      by_cases hc : (y - 1900) * 12 + m - 1 + k * ev < 3600
      · rw [if_pos hc]
        refine (of_3 ev ct ti k am ad aw ap lm km ld kd lw kw lp kp y m d w hw hd hk2 hm hc).mono ?_
        rintro e w1 ⟨rfl, hb⟩; exact ⟨_, _, ⟨rfl, fun p hp => (Option.some.inj hp).symm⟩, hb⟩
      · rw [if_neg hc]
        refine (of_3_none ev ct ti k am ad aw ap lm km ld kd lw kw lp kp y m d w hw hd hk2 hm (by omega)).mono ?_
        rintro e w1 ⟨rfl, hb⟩; exact ⟨_, _, ⟨rfl, by simp⟩, hb⟩
    rw [if_neg f3]
    have f4 : fr = 4 := by omega
    subst f4
    by_cases hc : y + k * ev ≤ 2199
    · rw [if_pos hc]
      refine (of_4 ev ct ti k am ad aw ap lm km ld kd lw kw lp kp y m d w hw hd hk2 hm hc).mono ?_
      rintro e w1 ⟨rfl, hb⟩; exact ⟨_, _, ⟨rfl, fun p hp => (Option.some.inj hp).symm⟩, hb⟩
    · rw [if_neg hc]
      refine (of_4_none ev ct ti k am ad aw ap lm km ld kd lw kw lp kp y m d w hw hd hk2 hm (by omega)).mono ?_
      rintro e w1 ⟨rfl, hb⟩; exact ⟨_, _, ⟨rfl, by simp⟩, hb⟩

/-- a rule without a fault has a kind and a step. -/
theorem ruleF_0 {fr ev ct ti : Int} {mo da : List Int} {we : List (Int × Int)} {pk : List Int} (h : ruleF fr ev ct ti mo da we pk = 0) :
    (1 ≤ fr ∧ fr ≤ 4) ∧ (1 ≤ ev ∧ ev ≤ 50) ∧ (0 ≤ ct ∧ ct ≤ 200) ∧ fullB mo da we pk = false ∧ inB2 mo da (we.any nth2B) pk = true ∧ upB mo da we pk = true ∧ shapeB fr mo da we pk = false := by
  unfold ruleF at h
  by_cases h1 : numsB fr ev ct ti = true
  · rw [if_pos h1] at h
    by_cases h2 : (ct != 0 && ti != 0) = true
    · rw [if_pos h2] at h; omega
    · rw [if_neg h2] at h
      by_cases h3 : fullB mo da we pk = true
      · rw [if_pos h3] at h; omega
      · rw [if_neg h3] at h
        by_cases h4 : inB2 mo da (we.any nth2B) pk = true
        · rw [if_pos h4] at h
          by_cases h5 : upB mo da we pk = true
          · rw [if_pos h5] at h
            by_cases h6 : shapeB fr mo da we pk = true
            · rw [if_pos h6] at h; omega
            · simp [numsB, freqB] at h1
              exact ⟨by omega, by omega, by omega, by simpa using h3, h4, h5, by simpa using h6⟩
          · rw [if_neg h5] at h; omega
        · rw [if_neg h4] at h; omega
  · rw [if_neg h1] at h; omega

/-- what is told of a period: its fault, and its stretch. -/
def perT (F : Int) (o : Option (Int × Int)) : Int × Int × Int := if F ≠ 0 then (F, 0, 0) else match o with
  | none => (1, 0, 0)
  | some p => (0, p.1, p.2)

set_option maxRecDepth 100000 in
set_option maxHeartbeats 8000000 in
theorem ready_any (fr ev ct ti n k : Int) (vm vd vw vp : Value) (mo da : List Int) (we : List (Int × Int)) (pk : List Int) (o : Option (Int × Int)) (w : World) (hw : Months w)
    (h1 : IntsR w vm mo) (h2 : IntsR w vd da) (h3 : PairsR w vw we) (h4 : IntsR w vp pk) (ho : PerO fr ev n k o) :
    Calls Tryd.prog 98 #[.agg #[.int .i64 fr, .int .i64 ev, .int .i64 ct, .int .i64 ti, vm, vd, vw, vp], .int .i64 n, .int .i64 k] w
      fun e w' => e = .returned (.tuple #[.agg #[.int .i64 (perT (ruleF fr ev ct ti mo da we pk) o).2.1, .int .i64 (perT (ruleF fr ev ct ti mo da we pk) o).2.2], errV (perT (ruleF fr ev ct ti mo da we pk) o).1]) ∧ Below w.heap.size w w' := by
  obtain ⟨am, km, rfl, m1, m2, _⟩ := intsR_open h1
  obtain ⟨ad, kd, rfl, d1, d2, _⟩ := intsR_open h2
  obtain ⟨aw, kw, rfl, v1, v2, _⟩ := pairsR_open h3
  obtain ⟨ap, kp, rfl, p1, p2, _⟩ := intsR_open h4
  have hR := (rlAt_new w 62 fr ev ct ti _ _ _ _ mo da we pk h1 h2 h3 h4).below ((Below.refl _ _).alloc (Nat.le_refl _) (.cells #[.int .i64 0, .int .i64 0] 142))
  have hb0 : Below w.heap.size w ((w.alloc (.cells #[.int .i64 fr, .int .i64 ev, .int .i64 ct, .int .i64 ti, .slice am mo.length km, .slice ad da.length kd, .slice aw we.length kw, .slice ap pk.length kp] 62)).alloc (.cells #[.int .i64 0, .int .i64 0] 142)) := ((Below.refl _ _).alloc (Nat.le_refl _) _).alloc (by simp) _
  have hw0 := hw.below hb0
  obtain ⟨F, hF⟩ : ∃ F, F = ruleF fr ev ct ti mo da we pk := ⟨_, rfl⟩
  rw [← hF]
  obtain ⟨T, hT⟩ : ∃ T, T = perT F o := ⟨_, rfl⟩
  rw [← hT]
  have FF := Lib.hid hF; have TT := Lib.hid hT; clear hF hT h1 h2 h3 h4 hw
  go_enter Tryd.func98, Tryd.ntmps98
  go_wp2_with fail
  refine (rcheck_any fr ev ct ti _ _ _ _ mo da we pk _ hR.2.1.1 hR.2.1.2.1 hR.2.1.2.2.1 hR.2.1.2.2.2).mono ?_; rintro e w1 ⟨rfl, hb1⟩
  have hs1 := hb1.size; simp at hs1
  have hR1 := hR.below hb1
  have hw1 := hw0.below hb1
  have e0 := hb1.cell (p := ⟨w.heap.size + 1, 0, none⟩) (by simp)
  have e1 := hb1.cell (p := ⟨w.heap.size + 1, 1, none⟩) (by simp)
  have f0 := hb1.frozen (p := ⟨w.heap.size + 1, 0, none⟩) (by simp)
  have f1 := hb1.frozen (p := ⟨w.heap.size + 1, 1, none⟩) (by simp)
  simp at e0 e1 f0 f1
  have hl1 : w.heap.size + 1 < w1.heap.size := by omega
  have hbb : Below w.heap.size w w1 := hb0.trans (hb1.mono hb0.size)
  clear hb1 hR hb0 hw0
  rw [← FF.out]
  obtain ⟨⟨c0, c1, c2, c3, c4, c5, c6, c7⟩, _, hl0⟩ := id hR1
  by_cases hF0 : F = 0
  · obtain ⟨q1, q2, _⟩ := ruleF_0 (FF.out.symm.trans hF0)
    rw [hF0, errV_0]
    have TT := Lib.hid (show T = perT 0 o by rw [TT.out, hF0])
    clear FF hF0
    go_wp2_with fail
    refine (of_any fr ev ct ti k am ad aw ap _ _ _ _ _ _ _ _ n o _ hw1 q1 q2 ho).mono ?_; rintro e w2 ⟨a, b, ⟨rfl, hp⟩, hb2⟩
    have e0 := cell_below hb2 e0
    have e1 := cell_below hb2 e1
    have f0 := (hb2.frozen (p := ⟨w.heap.size + 1, 0, none⟩) hl1).trans f0
    have f1 := (hb2.frozen (p := ⟨w.heap.size + 1, 1, none⟩) hl1).trans f1
    have hbb := hbb.trans (hb2.mono hbb.size)
    have hl1 : w.heap.size + 1 < w2.heap.size := Nat.lt_of_lt_of_le hl1 hb2.size
    clear hb2 c0 c1 c2 c3 c4 c5 c6 c7 hR1
    cases o with
    | none =>
      go_wp2_with fail
      refine bodyPost_ret (v := .tuple #[.agg #[.int .i64 0, .int .i64 0], .iface 114 (.int .i64 1)]) ?_ rfl ⟨by rw [TT.out]; rfl, ?_⟩
      · simp [results, Tryd.results98, go_sem, e0, e1, hl1]
      · exact ((hbb.setCell (by simp) _).setCell (by simp) _).alloc (by simp; omega) _
    | some p =>
      obtain rfl := hp p rfl
      go_wp2_with fail
      refine bodyPost_ret (v := .tuple #[.agg #[.int .i64 a, .int .i64 b], .nilIface]) ?_ rfl ⟨by rw [TT.out]; rfl, ?_⟩
      · simp [results, Tryd.results98, go_sem, e0, e1, hl1]
      · exact ((hbb.setCell (by simp) _).setCell (by simp) _).alloc (by simp; omega) _
  · have hE : errV F = .iface 114 (.int .i64 F) := by rw [errV, if_neg hF0]
    have TT := Lib.hid (show T = (F, 0, 0) by rw [TT.out]; unfold perT; rw [if_pos hF0])
    rw [hE]
    clear FF
    go_wp2_with fail
    refine bodyPost_ret (v := .tuple #[.agg #[.int .i64 0, .int .i64 0], .iface 114 (.int .i64 F)]) ?_ rfl ⟨?_, ?_⟩
    · simp [results, Tryd.results98, go_sem, e0, e1, hl1]
    · rw [TT.out]; dsimp only; rw [hE]
    · exact ((hbb.setCell (by simp) _).setCell (by simp) _)

set_option maxRecDepth 100000 in
set_option maxHeartbeats 8000000 in
theorem begin_any (fr ev ct ti n k : Int) (vm vd vw vp : Value) (mo da : List Int) (we : List (Int × Int)) (pk : List Int) (o : Option (Int × Int)) (w : World) (hw : Months w)
    (h1 : IntsR w vm mo) (h2 : IntsR w vd da) (h3 : PairsR w vw we) (h4 : IntsR w vp pk) (ho : PerO fr ev n k o) :
    Calls Tryd.prog 54 #[.agg #[.int .i64 fr, .int .i64 ev, .int .i64 ct, .int .i64 ti, vm, vd, vw, vp], .int .i64 n, .int .i64 k] w
      fun e w' => e = .returned (.tuple #[.int .i64 (perT (ruleF fr ev ct ti mo da we pk) o).2.1, errV (perT (ruleF fr ev ct ti mo da we pk) o).1]) ∧ Below w.heap.size w w' := by
  obtain ⟨am, km, rfl, m1, m2, _⟩ := intsR_open h1
  obtain ⟨ad, kd, rfl, d1, d2, _⟩ := intsR_open h2
  obtain ⟨aw, kw, rfl, v1, v2, _⟩ := pairsR_open h3
  obtain ⟨ap, kp, rfl, p1, p2, _⟩ := intsR_open h4
  have hR := rlAt_new w 62 fr ev ct ti _ _ _ _ mo da we pk h1 h2 h3 h4
  have hb0 : Below w.heap.size w (w.alloc (.cells #[.int .i64 fr, .int .i64 ev, .int .i64 ct, .int .i64 ti, .slice am mo.length km, .slice ad da.length kd, .slice aw we.length kw, .slice ap pk.length kp] 62)) := (Below.refl _ _).alloc (Nat.le_refl _) _
  have hw0 := hw.below hb0
  obtain ⟨T, hT⟩ : ∃ T, T = perT (ruleF fr ev ct ti mo da we pk) o := ⟨_, rfl⟩
  rw [← hT]
  have TT := Lib.hid hT; clear hT h1 h2 h3 h4 hw
  go_enter Tryd.func54, Tryd.ntmps54
  go_wp2_with fail
  refine (ready_any fr ev ct ti n k _ _ _ _ mo da we pk o _ hw0 hR.2.1.1 hR.2.1.2.1 hR.2.1.2.2.1 hR.2.1.2.2.2 ho).mono ?_; rintro e w1 ⟨rfl, hb1⟩
  rw [← TT.out]
  have hbb := hb0.trans (hb1.mono hb0.size)
  clear hb1 hb0 hR hw0
  go_wp2_with fail
  go_ret2
  exact ⟨rfl, by first | exact hbb.alloc hbb.size _ | exact (hbb.alloc hbb.size _).drew⟩

end Go.Proofs.YtdamncbgobjpdaaDoor
