/- The law PeriodSteps: the k-th period of a rule that goes each so many days, or weeks, begins so many later: for every number. The walk. -/
import Derived.Test.YtonoiaimknkpfaaDoorPerG
namespace Go.Proofs.YtonoiaimknkpfaaDoor
open Go.RowKit
set_option linter.unusedSimpArgs false
set_option linter.unusedVariables false

theorem ten_days : PerO 1 3 10 2 (some (16, 16)) := .inr ⟨1900, 1, 10, by decide, by decide, by decide⟩

theorem plainF (fr ev : Int) (hf : fr = 1 ∨ fr = 2) : ruleF fr ev 0 0 [] [] [] [] = if 1 ≤ ev ∧ ev ≤ 50 then 0 else 1 := by
  by_cases h1 : 1 ≤ ev ∧ ev ≤ 50
  · rw [if_pos h1]
    rcases hf with rfl | rfl <;> simp [ruleF, numsB, freqB, fullB, inB2, upB, shapeB, withinB, risesB, risesNB, h1.1, h1.2]
  · rw [if_neg h1]
    have hn : numsB fr ev 0 0 = false := by
      by_cases h2 : 1 ≤ ev
      · simp [numsB, show ¬ ev ≤ 50 by omega]
      · simp [numsB, h2]
    simp [ruleF, hn]

theorem seven_one {p : Int → Bool} {a n0 : Int} (hp : ∀ n, p n = true → (n - n0).tmod 7 = 0) : ∀ c : Nat, c ≤ 7 → daysG p a c = [] ∨ ∃ j : Nat, j < c ∧ daysG p a c = [a + (j : Int)] ∧ (7 : Int) ∣ (a + j - n0)
  | 0, _ => .inl rfl
  | c + 1, hc => by
    by_cases h : p (a + c) = true
    · have hd : (7 : Int) ∣ (a + c - n0) := Int.dvd_of_tmod_eq_zero (hp _ h)
      rw [daysG_yes h]
      rcases seven_one hp c (by omega) with h0 | ⟨j, hj, _, hj3⟩
      · rw [h0]; exact .inr ⟨c, by omega, rfl, hd⟩
      · exfalso; omega
    · rw [daysG_no (by simpa using h)]
      rcases seven_one hp c (by omega) with h0 | ⟨j, hj, hj2, hj3⟩
      · exact .inl h0
      · exact .inr ⟨j, by omega, hj2, hj3⟩

theorem ask_2 (n0 n : Int) (h : askB 2 [] [] [] n0 n = true) : (n - n0).tmod 7 = 0 := by
  simp [askB, okB, zB] at h
  first | exact h | exact h.1 | (rw [Int.tmod_eq_zero_iff_dvd]; exact h)

theorem step_len (fr ev y m d k a b : Int) (hf : fr = 1 ∨ fr = 2) (h : perS fr ev y m d k = some (a, b)) :
    (pickL (daysG (askB fr [] [] [] (Cal.num y m d)) a (min b 109573 + 1 - a).toNat) []).length ≤ 1 := by
  rw [pickL, if_pos rfl]
  unfold perS at h
  split at h
  · cases h
  rcases hf with rfl | rfl
  · rw [if_pos rfl] at h
    split at h
    · cases h
      exact Nat.le_trans (daysG_len _ _ _) (by omega)
    · cases h
  · rw [if_neg (by omega), if_pos rfl] at h
    split at h
    · cases h
      rcases seven_one (fun n hn => ask_2 (Cal.num y m d) n hn) (a := Cal.mondayI (Cal.num y m d) + 7 * (k * ev)) (min (Cal.mondayI (Cal.num y m d) + 7 * (k * ev) + 6) 109573 + 1 - (Cal.mondayI (Cal.num y m d) + 7 * (k * ev))).toNat (by omega) with h0 | ⟨j, _, hj, _⟩
      · rw [h0]; simp
      · rw [hj]; simp
    · cases h

/-- the kind of a rule that goes each so many weeks, or days. -/
def kindOf (wk : Bool) : Int := if wk = true then 2 else 1

set_option maxRecDepth 100000 in
set_option maxHeartbeats 8000000 in
theorem periodSteps_bad (st k ev : Int) (wk : Bool) (o0 o1 : Option (Int × Int)) (w : World) (hw : Months w) (h0 : PerO (kindOf wk) ev st 0 o0) (h1 : PerO (kindOf wk) ev st k o1)
    (hbad : (perT (ruleF (kindOf wk) ev 0 0 [] [] [] []) o0).1 ≠ 0 ∨ (perT (ruleF (kindOf wk) ev 0 0 [] [] [] []) o1).1 ≠ 0) :
    Calls Tryd.prog 9 #[.int .i64 st, .int .i64 k, .int .i64 ev, .bool wk] w fun e w' => e = .returned (.bool true) ∧ Below w.heap.size w w' := by
  have hF0 : perT (ruleF 1 3 0 0 [] [] [] []) (some (16, 16)) = (0, 16, 16) := by rw [plainF 1 3 (.inl rfl)]; rfl
  obtain ⟨T0, hT0⟩ : ∃ T, T = perT (ruleF (kindOf wk) ev 0 0 [] [] [] []) o0 := ⟨_, rfl⟩
  obtain ⟨T1, hT1⟩ : ∃ T, T = perT (ruleF (kindOf wk) ev 0 0 [] [] [] []) o1 := ⟨_, rfl⟩
  rw [← hT0, ← hT1] at hbad
  have TF := Lib.hid hF0; have TT0 := Lib.hid hT0; have TT1 := Lib.hid hT1; have BAD := Lib.hid hbad
  clear hF0 hT0 hT1 hbad
  cases wk
  all_goals
    have hw0 := hw.alloc (.cells #[.int .i64 1, .int .i64 ev, .int .i64 0, .int .i64 0, .slice none 0 0, .slice none 0 0, .slice none 0 0, .slice none 0 0] 51)
    have hw2 := hw.alloc (.cells #[.int .i64 2, .int .i64 ev, .int .i64 0, .int .i64 0, .slice none 0 0, .slice none 0 0, .slice none 0 0, .slice none 0 0] 51)
    have hR1 := rlAt_new w 51 1 ev 0 0 (.slice none 0 0) (.slice none 0 0) (.slice none 0 0) (.slice none 0 0) [] [] [] [] (intsR_nil _) (intsR_nil _) (reads_nil _ 2) (intsR_nil _)
    have hR2 := rlAt_new w 51 2 ev 0 0 (.slice none 0 0) (.slice none 0 0) (.slice none 0 0) (.slice none 0 0) [] [] [] [] (intsR_nil _) (intsR_nil _) (reads_nil _ 2) (intsR_nil _)
    have hb0 : Below w.heap.size w (w.alloc (.cells #[.int .i64 1, .int .i64 ev, .int .i64 0, .int .i64 0, .slice none 0 0, .slice none 0 0, .slice none 0 0, .slice none 0 0] 51)) := (Below.refl _ _).alloc (Nat.le_refl _) _
    have hb2 : Below w.heap.size w (w.alloc (.cells #[.int .i64 2, .int .i64 ev, .int .i64 0, .int .i64 0, .slice none 0 0, .slice none 0 0, .slice none 0 0, .slice none 0 0] 51)) := (Below.refl _ _).alloc (Nat.le_refl _) _
    go_enter Tryd.func9, Tryd.ntmps9
    go_wp2_with fail
    refine (begin_any 1 3 0 0 10 2 _ _ _ _ [] [] [] [] (some (16, 16)) _ (by first | exact hw0 | exact hw2) (intsR_nil _) (intsR_nil _) (reads_nil _ 2) (intsR_nil _) ten_days).mono ?_; rintro e w1 ⟨rfl, hb1⟩
    rw [TF.out, errV_0]
    have hW1 : Months w1 := by first | exact hw0.below hb1 | exact hw2.below hb1
    have hbb : Below w.heap.size w w1 := by first | exact hb0.trans (hb1.mono hb0.size) | exact hb2.trans (hb1.mono hb2.size)
    obtain ⟨⟨c0, c1, c2, c3, c4, c5, c6, c7⟩, _, hl0⟩ := (by first | exact hR1.below hb1 | exact hR2.below hb1 : RlAt w1 w.heap.size _ ev 0 0 (.slice none 0 0) (.slice none 0 0) (.slice none 0 0) (.slice none 0 0) [] [] [] [])
    clear hb1 hw0 hw2 hR1 hR2 hb0 hb2
    go_wp2_with fail
    refine (begin_any _ ev 0 0 st 0 _ _ _ _ [] [] [] [] o0 _ hW1 (intsR_nil _) (intsR_nil _) (reads_nil _ 2) (intsR_nil _) h0).mono ?_; rintro e w2 ⟨rfl, hb2⟩
    rw [show perT (ruleF _ ev 0 0 [] [] [] []) o0 = T0 from TT0.out.symm]
    have hW2 := hW1.below hb2
    have hbb := hbb.trans (hb2.mono hbb.size)
    have c0 := cell_below hb2 c0; have c1 := cell_below hb2 c1; have c2 := cell_below hb2 c2; have c3 := cell_below hb2 c3
    have c4 := cell_below hb2 c4; have c5 := cell_below hb2 c5; have c6 := cell_below hb2 c6; have c7 := cell_below hb2 c7
    clear hb2 hW1
    go_wp2_with fail
    refine (begin_any _ ev 0 0 st k _ _ _ _ [] [] [] [] o1 _ hW2 (intsR_nil _) (intsR_nil _) (reads_nil _ 2) (intsR_nil _) h1).mono ?_; rintro e w3 ⟨rfl, hb3⟩
    rw [show perT (ruleF _ ev 0 0 [] [] [] []) o1 = T1 from TT1.out.symm]
    have hbb := hbb.trans (hb3.mono hbb.size)
    have B := Lib.hid hbb
    clear hb3 hW2 hbb c0 c1 c2 c3 c4 c5 c6 c7
    by_cases hz : T0.1 = 0
    · have hz1 : T1.1 ≠ 0 := by rcases BAD.out with h | h; exact absurd hz h; exact h
      rw [hz, errV_0, show errV T1.1 = .iface 58 (.int .i64 T1.1) by rw [errV, if_neg hz1]]
      clear hz hz1
      go_wp2
      go_ret
      exact ⟨rfl, B.out⟩
    · rw [show errV T0.1 = .iface 58 (.int .i64 T0.1) by rw [errV, if_neg hz]]
      clear hz
      go_wp2
      go_ret
      exact ⟨rfl, B.out⟩

theorem pdays_at (fr ev ct ti k a b y m d n : Int) (vm vd vw vp : Value) (mo da : List Int) (we : List (Int × Int)) (pk : List Int) (w : World) (hw : Months w)
    (h1 : IntsR w vm mo) (h2 : IntsR w vd da) (h3 : PairsR w vw we) (h4 : IntsR w vp pk) (hd : Cal.dateB y m d = true) (hn : Cal.num y m d = n) (hF : ruleF fr ev ct ti mo da we pk = 0) (ho : perS fr ev y m d k = some (a, b)) :
    Calls Tryd.prog 27 #[.agg #[.int .i64 fr, .int .i64 ev, .int .i64 ct, .int .i64 ti, vm, vd, vw, vp], .int .i64 n, .int .i64 k] w
      fun e w' => ∃ r, e = .returned (.tuple #[r, .nilIface]) ∧ IntsR w' r (pickL (daysG (askB fr mo da we n) a (min b 109573 + 1 - a).toNat) pk) ∧ Below w.heap.size w w' := by
  subst hn; exact pdays_yes fr ev ct ti k a b y m d vm vd vw vp mo da we pk w hw h1 h2 h3 h4 hd hF ho

set_option maxRecDepth 100000 in
set_option maxHeartbeats 8000000 in
theorem periodSteps_ok (st k ev a0 b0 a b y m d : Int) (wk : Bool) (w : World) (hw : Months w) (he : 1 ≤ ev ∧ ev ≤ 50) (hk : 0 ≤ k ∧ k ≤ 109573) (hd : Cal.dateB y m d = true) (hst : Cal.num y m d = st)
    (h0 : perS (kindOf wk) ev y m d 0 = some (a0, b0)) (h1 : perS (kindOf wk) ev y m d k = some (a, b)) (hab : a = a0 + k * ev * (if wk = true then 7 else 1)) :
    Calls Tryd.prog 9 #[.int .i64 st, .int .i64 k, .int .i64 ev, .bool wk] w fun e w' => e = .returned (.bool true) ∧ Below w.heap.size w w' := by
  have hF0 : perT (ruleF 1 3 0 0 [] [] [] []) (some (16, 16)) = (0, 16, 16) := by rw [plainF 1 3 (.inl rfl)]; rfl
  have hmul := mul_bd k ev hk he
  have hB0 := (perS_bd hd he.1 h0).1
  have hB1 := (perS_bd hd he.1 h1).1
  have P0 : PerO (kindOf wk) ev st 0 (some (a0, b0)) := .inr ⟨y, m, d, hd, hst, h0.symm⟩
  have P1 : PerO (kindOf wk) ev st k (some (a, b)) := .inr ⟨y, m, d, hd, hst, h1.symm⟩
  have hRF : ∀ wk2, ruleF (kindOf wk2) ev 0 0 [] [] [] [] = 0 := fun wk2 => by rw [plainF _ _ (by cases wk2; exact .inl rfl; exact .inr rfl), if_pos he]
  have hT0 : ∀ wk2, perT (ruleF (kindOf wk2) ev 0 0 [] [] [] []) (some (a0, b0)) = (0, a0, b0) := fun wk2 => by rw [hRF]; rfl
  have hT1 : ∀ wk2, perT (ruleF (kindOf wk2) ev 0 0 [] [] [] []) (some (a, b)) = (0, a, b) := fun wk2 => by rw [hRF]; rfl
  have TF := Lib.hid hF0; have RF := Lib.hid hRF; have TT0 := Lib.hid hT0; have TT1 := Lib.hid hT1
  have D := Lib.hid hd; have ST := Lib.hid hst; have H1 := Lib.hid h1; have Q0 := Lib.hid P0; have Q1 := Lib.hid P1; have AB := Lib.hid hab
  have LN := Lib.hid (fun hf => step_len (kindOf wk) ev y m d k a b hf h1)
  clear hF0 hRF hT0 hT1 hd hst h0 h1 P0 P1 hab
  cases wk
  all_goals
    have hw0 := hw.alloc (.cells #[.int .i64 1, .int .i64 ev, .int .i64 0, .int .i64 0, .slice none 0 0, .slice none 0 0, .slice none 0 0, .slice none 0 0] 51)
    have hw2 := hw.alloc (.cells #[.int .i64 2, .int .i64 ev, .int .i64 0, .int .i64 0, .slice none 0 0, .slice none 0 0, .slice none 0 0, .slice none 0 0] 51)
    have hR1 := rlAt_new w 51 1 ev 0 0 (.slice none 0 0) (.slice none 0 0) (.slice none 0 0) (.slice none 0 0) [] [] [] [] (intsR_nil _) (intsR_nil _) (reads_nil _ 2) (intsR_nil _)
    have hR2 := rlAt_new w 51 2 ev 0 0 (.slice none 0 0) (.slice none 0 0) (.slice none 0 0) (.slice none 0 0) [] [] [] [] (intsR_nil _) (intsR_nil _) (reads_nil _ 2) (intsR_nil _)
    have hb0 : Below w.heap.size w (w.alloc (.cells #[.int .i64 1, .int .i64 ev, .int .i64 0, .int .i64 0, .slice none 0 0, .slice none 0 0, .slice none 0 0, .slice none 0 0] 51)) := (Below.refl _ _).alloc (Nat.le_refl _) _
    have hb2 : Below w.heap.size w (w.alloc (.cells #[.int .i64 2, .int .i64 ev, .int .i64 0, .int .i64 0, .slice none 0 0, .slice none 0 0, .slice none 0 0, .slice none 0 0] 51)) := (Below.refl _ _).alloc (Nat.le_refl _) _
    go_enter Tryd.func9, Tryd.ntmps9
    go_wp2_with fail
    refine (begin_any 1 3 0 0 10 2 _ _ _ _ [] [] [] [] (some (16, 16)) _ (by first | exact hw0 | exact hw2) (intsR_nil _) (intsR_nil _) (reads_nil _ 2) (intsR_nil _) ten_days).mono ?_; rintro e w1 ⟨rfl, hb1⟩
    rw [TF.out, errV_0]
    have hW1 : Months w1 := by first | exact hw0.below hb1 | exact hw2.below hb1
    have hbb : Below w.heap.size w w1 := by first | exact hb0.trans (hb1.mono hb0.size) | exact hb2.trans (hb1.mono hb2.size)
    obtain ⟨⟨c0, c1, c2, c3, c4, c5, c6, c7⟩, _, hl0⟩ := (by first | exact hR1.below hb1 | exact hR2.below hb1 : RlAt w1 w.heap.size _ ev 0 0 (.slice none 0 0) (.slice none 0 0) (.slice none 0 0) (.slice none 0 0) [] [] [] [])
    clear hb1 hw0 hw2 hR1 hR2 hb0 hb2
    go_wp2_with fail
    refine (begin_any _ ev 0 0 st 0 _ _ _ _ [] [] [] [] (some (a0, b0)) _ hW1 (intsR_nil _) (intsR_nil _) (reads_nil _ 2) (intsR_nil _) Q0.out).mono ?_; rintro e w2 ⟨rfl, hb2⟩
    first | rw [TT0.out false] | rw [TT0.out true]
    rw [errV_0]
    have hW2 := hW1.below hb2
    have hbb := hbb.trans (hb2.mono hbb.size)
    have c0 := cell_below hb2 c0; have c1 := cell_below hb2 c1; have c2 := cell_below hb2 c2; have c3 := cell_below hb2 c3
    have c4 := cell_below hb2 c4; have c5 := cell_below hb2 c5; have c6 := cell_below hb2 c6; have c7 := cell_below hb2 c7
    clear hb2 hW1
    go_wp2_with fail
    refine (begin_any _ ev 0 0 st k _ _ _ _ [] [] [] [] (some (a, b)) _ hW2 (intsR_nil _) (intsR_nil _) (reads_nil _ 2) (intsR_nil _) Q1.out).mono ?_; rintro e w3 ⟨rfl, hb3⟩
    first | rw [TT1.out false] | rw [TT1.out true]
    rw [errV_0]
    have hW3 := hW2.below hb3
    have hbb := hbb.trans (hb3.mono hbb.size)
    have c0 := cell_below hb3 c0; have c1 := cell_below hb3 c1; have c2 := cell_below hb3 c2; have c3 := cell_below hb3 c3
    have c4 := cell_below hb3 c4; have c5 := cell_below hb3 c5; have c6 := cell_below hb3 c6; have c7 := cell_below hb3 c7
    clear hb3 hW2
    go_wp2_with fail
    refine (pdays_at _ ev 0 0 k a b y m d st _ _ _ _ [] [] [] [] _ hW3 (intsR_nil _) (intsR_nil _) (reads_nil _ 2) (intsR_nil _) D.out ST.out (by first | exact RF.out false | exact RF.out true) H1.out).mono ?_; rintro e w4 ⟨r, rfl, hr, hb4⟩
    have B := Lib.hid (hbb.trans (hb4.mono hbb.size))
    obtain ⟨ra, rc, rfl, hr1, hr2, _⟩ := intsR_open hr
    have hlen := LN.out (by first | exact .inl rfl | exact .inr rfl)
    rw [ST.out] at hlen
    first
      | (obtain ⟨ln, hln⟩ : ∃ ln, ln = (pickL (daysG (askB (kindOf false) [] [] [] st) a (min b 109573 + 1 - a).toNat) []).length := ⟨_, rfl⟩; rw [← hln] at hlen)
      | (obtain ⟨ln, hln⟩ : ∃ ln, ln = (pickL (daysG (askB (kindOf true) [] [] [] st) a (min b 109573 + 1 - a).toNat) []).length := ⟨_, rfl⟩; rw [← hln] at hlen)
    rw [← hln]
    clear hln hr hr1 hr2 hb4 hW3 hbb c0 c1 c2 c3 c4 c5 c6 c7
    have hAB := AB.out
    simp only [if_true, if_false, Bool.false_eq_true, Int.mul_one] at hAB
    have hab2 : a = a0 + k * ev ∨ a = a0 + k * ev * 7 := by first | exact .inl hAB | exact .inr hAB
    first
      | (have e1 : (a == a0 + k * ev) = true := by rw [beq_iff_eq]; exact hAB)
      | (have e1 : (a == a0 + k * ev * 7) = true := by rw [beq_iff_eq]; exact hAB)
    have hln1 : (ln : Int) ≤ 1 := by omega
    clear hAB hab2 hlen
    go_wp2
    go_ret
    exact ⟨rfl, B.out⟩

theorem perS_0 {ev y m d : Int} (wk : Bool) (hd : Cal.dateB y m d = true) : ∃ b0, perS (kindOf wk) ev y m d 0 = some (if wk = true then Cal.mondayI (Cal.num y m d) else Cal.num y m d, b0) := by
  obtain ⟨_, _, b1, b2⟩ := Cal.num_bd hd
  have hmo := Cal.monday_bd (Cal.num y m d)
  unfold perS
  rw [if_neg (by omega)]
  cases wk
  · rw [show kindOf false = 1 from rfl, if_pos rfl, if_pos (by simp; omega)]; exact ⟨Cal.num y m d + 0 * ev, by simp⟩
  · rw [show kindOf true = 2 from rfl, if_neg (by decide), if_pos rfl, if_pos (by simp; omega)]; exact ⟨Cal.mondayI (Cal.num y m d) + 7 * (0 * ev) + 6, by simp⟩

theorem perS_step {ev y m d k a b : Int} (wk : Bool) (h : perS (kindOf wk) ev y m d k = some (a, b)) : (0 ≤ k ∧ k ≤ 109573) ∧ a = (if wk = true then Cal.mondayI (Cal.num y m d) else Cal.num y m d) + k * ev * (if wk = true then 7 else 1) := by
  unfold perS at h
  split at h
  · cases h
  refine ⟨by omega, ?_⟩
  cases wk
  · rw [show kindOf false = 1 from rfl, if_pos rfl] at h
    split at h
    · cases h; simp
    · cases h
  · rw [show kindOf true = 2 from rfl, if_neg (by decide), if_pos rfl] at h
    split at h
    · cases h; simp; omega
    · cases h

theorem periodSteps_top (st k ev : Int) (wk : Bool) (w : World) (hw : Months w) (_ : (Lit.int .i64 st).wf = true) (_ : (Lit.int .i64 k).wf = true) (_ : (Lit.int .i64 ev).wf = true) :
    Calls Tryd.prog 9 #[.int .i64 st, .int .i64 k, .int .i64 ev, .bool wk] w fun e w' => e = .returned (.bool true) ∧ Below w.heap.size w w' := by
  have hkd : kindOf wk = 1 ∨ kindOf wk = 2 := by cases wk; exact .inl rfl; exact .inr rfl
  by_cases he : 1 ≤ ev ∧ ev ≤ 50
  · by_cases hs : 1 ≤ st ∧ st ≤ 109573
    · obtain ⟨y, m, d, hd, hst⟩ := Cal.ex_date st hs.1 hs.2
      obtain ⟨b0, h0⟩ := perS_0 (ev := ev) wk hd
      cases h1 : perS (kindOf wk) ev y m d k with
      | none =>
        refine periodSteps_bad st k ev wk _ none w hw (.inr ⟨y, m, d, hd, hst, h0.symm⟩) (.inr ⟨y, m, d, hd, hst, h1.symm⟩) (.inr ?_)
        rw [plainF _ _ hkd, if_pos he]; decide
      | some p =>
        obtain ⟨hk, hab⟩ := perS_step wk h1
        exact periodSteps_ok st k ev _ b0 p.1 p.2 y m d wk w hw he hk hd hst h0 h1 hab
    · have hn : PerO (kindOf wk) ev st 0 none := .inl ⟨by omega, rfl⟩
      have hn2 : PerO (kindOf wk) ev st k none := .inl ⟨by omega, rfl⟩
      refine periodSteps_bad st k ev wk none none w hw hn hn2 (.inl ?_)
      rw [plainF _ _ hkd, if_pos he]; decide
  · obtain ⟨o0, q0⟩ := perO_ex (kindOf wk) ev st 0
    obtain ⟨o1, q1⟩ := perO_ex (kindOf wk) ev st k
    refine periodSteps_bad st k ev wk o0 o1 w hw q0 q1 (.inl ?_)
    rw [plainF _ _ hkd, if_neg he]; simp [perT]

end Go.Proofs.YtonoiaimknkpfaaDoor
