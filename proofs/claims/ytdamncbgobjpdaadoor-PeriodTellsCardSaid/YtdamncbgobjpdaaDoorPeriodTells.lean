/- The law PeriodTells: where any period of any rule begins, and which of its days the rule asks for: for every rule. The walk. (printed by gen_periodtells.py) -/
import Derived.Test.YtdamncbgobjpdaaDoorRefS
import Derived.Test.YtdamncbgobjpdaaDoorRefR
import Derived.Test.YtdamncbgobjpdaaDoorErr
namespace Go.Proofs.YtdamncbgobjpdaaDoor
open Go.RowKit
set_option linter.unusedSimpArgs false
set_option linter.unusedVariables false

theorem rdate_ex (n : Int) (w : World) :
    Calls Tryd.prog 29 #[.int .i64 n] w fun e w' => ∃ (y m d : Int) (b : Bool), e = .returned (.tuple #[.agg #[.int .i64 y, .int .i64 m, .int .i64 d], .bool b]) ∧ Below w.heap.size w w' := by
  by_cases h : 1 ≤ n ∧ n ≤ 109573
  · refine (rdate_yes n w h.1 h.2).mono ?_
    rintro e w' ⟨y, m, d, he, _, _, hb⟩
    exact ⟨y, m, d, true, he, hb⟩
  · refine (rdate_no n w (by omega)).mono ?_
    rintro e w' ⟨he, hb⟩
    exact ⟨0, 0, 0, false, he, hb⟩

theorem intsB_refl (L : List Int) : intsB L L = true := by simp [intsB]

theorem beq_same (c : Int) : (c == c) = true := by simp

set_option maxRecDepth 100000 in
set_option maxHeartbeats 8000000 in
theorem periodTells_rule (fr ev ct ti st k : Int) (vm vd vw vp : Value) (mo da : List Int) (we : List (Int × Int)) (pk : List Int) (w : World) (hw : Months w) (hx : ErrT w) (h1 : IntsR w vm mo) (h2 : IntsR w vd da) (h3 : PairsR w vw we) (h4 : IntsR w vp pk)
    (o2 : Option (Int × Int)) (ho : PerO fr ev st k o2) (F : Int) (hF : ruleF fr ev ct ti mo da we pk = F) (hF0 : F ≠ 0) :
    Calls Tryd.prog 8 #[.agg #[.int .i64 fr, .int .i64 ev, .int .i64 ct, .int .i64 ti, vm, vd, vw, vp], .int .i64 st, .int .i64 k] w fun e w' => e = .returned (.bool true) ∧ Below w.heap.size w w' := by
  obtain ⟨am, km, rfl, _, mm, _⟩ := intsR_open h1
  obtain ⟨ad, kd, rfl, _, dd, _⟩ := intsR_open h2
  obtain ⟨aw, kw, rfl, _, ww, _⟩ := pairsR_open h3
  obtain ⟨ap, kp, rfl, _, pp, _⟩ := intsR_open h4
  unfold maxLen at mm dd ww pp
  obtain ⟨w0, hw0⟩ : ∃ x, x = w.alloc (.cells #[.int .i64 fr, .int .i64 ev, .int .i64 ct, .int .i64 ti, .slice am mo.length km, .slice ad da.length kd, .slice aw we.length kw, .slice ap pk.length kp] 62) := ⟨_, rfl⟩
  have hR := rlAt_new w 62 fr ev ct ti _ _ _ _ mo da we pk h1 h2 h3 h4
  have hb0 : Below w.heap.size w w0 := by rw [hw0]; exact (Below.refl _ _).alloc (Nat.le_refl _) _
  rw [← hw0] at hR
  have RR := Lib.hid hR; have B := Lib.hid hb0; have W0 := Lib.hid hw0; have W := Lib.hid (hw.below hb0); have ET := Lib.hid (hx.below hb0)
  have fz : (F == 0) = false := by rw [beq_eq_false_iff_ne]; exact hF0
  have hT : perT (ruleF fr ev ct ti mo da we pk) o2 = (F, 0, 0) := by rw [hF]; unfold perT; rw [if_pos hF0]
  have RF := Lib.hid hF; have TT := Lib.hid hT; have PO := Lib.hid ho; have NZ := Lib.hid (show (perT (ruleF fr ev ct ti mo da we pk) o2).1 ≠ 0 by rw [hT]; exact hF0)
  clear hF hF0 ho hT
  clear hR hb0 hw0 hw hx h1 h2 h3 h4
  obtain ⟨⟨c0, c1, c2, c3, c4, c5, c6, c7⟩, _, hl0⟩ := id RR.out
  go_enter Tryd.func8, Tryd.ntmps8
  go_upto_region 1 with fail
  rw [← W0.out]
  go_wp2_with fail
  refine (rrule_any fr ev ct ti _ _ _ _ mo da we pk _ RR.out.2.1.1 RR.out.2.1.2.1 RR.out.2.1.2.2.1 RR.out.2.1.2.2.2).mono ?_; rintro e w1 ⟨rfl, hb1⟩
  rw [RF.out]
  have W := Lib.hid (W.out.below hb1); have ET := Lib.hid (ET.out.below hb1); have RR := Lib.hid (RR.out.below hb1); have B := Lib.hid (B.out.trans (hb1.mono B.out.size))
  clear hb1 c0 c1 c2 c3 c4 c5 c6 c7 hl0
  obtain ⟨⟨c0, c1, c2, c3, c4, c5, c6, c7⟩, _, hl0⟩ := id RR.out
  go_wp2_with fail
  refine (rdate_ex st _).mono ?_; rintro e w2 ⟨y, m, d, b, rfl, hb2⟩
  have hb2 : Below w1.heap.size w1 (w2.alloc (.cells #[.int .i64 y, .int .i64 m, .int .i64 d] 48)) := hb2.alloc hb2.size _
  have W := Lib.hid (W.out.below hb2); have ET := Lib.hid (ET.out.below hb2); have RR := Lib.hid (RR.out.below hb2); have B := Lib.hid (B.out.trans (hb2.mono B.out.size))
  clear hb2 c0 c1 c2 c3 c4 c5 c6 c7 hl0
  obtain ⟨⟨c0, c1, c2, c3, c4, c5, c6, c7⟩, _, hl0⟩ := id RR.out
  go_wp2_with fail
  refine (begin_any fr ev ct ti st k _ _ _ _ mo da we pk o2 _ W.out RR.out.2.1.1 RR.out.2.1.2.1 RR.out.2.1.2.2.1 RR.out.2.1.2.2.2 PO.out).mono ?_; rintro e w5 ⟨rfl, hb5⟩
  rw [TT.out]
  have W := Lib.hid (W.out.below hb5); have ET := Lib.hid (ET.out.below hb5); have RR := Lib.hid (RR.out.below hb5); have B := Lib.hid (B.out.trans (hb5.mono B.out.size))
  clear hb5 c0 c1 c2 c3 c4 c5 c6 c7 hl0
  obtain ⟨⟨c0, c1, c2, c3, c4, c5, c6, c7⟩, _, hl0⟩ := id RR.out
  go_wp2_with fail
  refine (error_any F F _ ET.out).mono ?_; rintro e w6 ⟨rfl, hb6⟩
  rw [beq_same]
  have W := Lib.hid (W.out.below hb6); have ET := Lib.hid (ET.out.below hb6); have RR := Lib.hid (RR.out.below hb6); have B := Lib.hid (B.out.trans (hb6.mono B.out.size))
  clear hb6 c0 c1 c2 c3 c4 c5 c6 c7 hl0
  obtain ⟨⟨c0, c1, c2, c3, c4, c5, c6, c7⟩, _, hl0⟩ := id RR.out
  go_wp2_with fail
  refine (pdays_no fr ev ct ti st k _ _ _ _ mo da we pk o2 _ W.out RR.out.2.1.1 RR.out.2.1.2.1 RR.out.2.1.2.2.1 RR.out.2.1.2.2.2 PO.out NZ.out).mono ?_; rintro e w7 ⟨rfl, hb7⟩
  rw [TT.out]
  have W := Lib.hid (W.out.below hb7); have ET := Lib.hid (ET.out.below hb7); have RR := Lib.hid (RR.out.below hb7); have B := Lib.hid (B.out.trans (hb7.mono B.out.size))
  clear hb7 c0 c1 c2 c3 c4 c5 c6 c7 hl0
  obtain ⟨⟨c0, c1, c2, c3, c4, c5, c6, c7⟩, _, hl0⟩ := id RR.out
  go_wp2_with fail
  refine (error_any F F _ ET.out).mono ?_; rintro e w8 ⟨rfl, hb8⟩
  rw [beq_same]
  have W := Lib.hid (W.out.below hb8); have ET := Lib.hid (ET.out.below hb8); have RR := Lib.hid (RR.out.below hb8); have B := Lib.hid (B.out.trans (hb8.mono B.out.size))
  clear hb8 c0 c1 c2 c3 c4 c5 c6 c7 hl0
  obtain ⟨⟨c0, c1, c2, c3, c4, c5, c6, c7⟩, _, hl0⟩ := id RR.out
  go_wp2_with fail
  refine (ints_any _ _ [] [] _ (intsR_nil _) (intsR_nil _)).mono ?_; rintro e w9 ⟨rfl, hb9⟩
  rw [intsB_refl]
  have B9 := Lib.hid (B.out.trans (hb9.mono B.out.size))
  clear hb9 c0 c1 c2 c3 c4 c5 c6 c7 hl0
  go_wp2
  go_ret
  exact ⟨by first | rfl | simp, B9.out⟩

set_option maxRecDepth 100000 in
set_option maxHeartbeats 8000000 in
theorem periodTells_start (fr ev ct ti st k : Int) (vm vd vw vp : Value) (mo da : List Int) (we : List (Int × Int)) (pk : List Int) (w : World) (hw : Months w) (hx : ErrT w) (h1 : IntsR w vm mo) (h2 : IntsR w vd da) (h3 : PairsR w vw we) (h4 : IntsR w vp pk)
    (hF : ruleF fr ev ct ti mo da we pk = 0) (hs : st < 1 ∨ 109573 < st) :
    Calls Tryd.prog 8 #[.agg #[.int .i64 fr, .int .i64 ev, .int .i64 ct, .int .i64 ti, vm, vd, vw, vp], .int .i64 st, .int .i64 k] w fun e w' => e = .returned (.bool true) ∧ Below w.heap.size w w' := by
  obtain ⟨am, km, rfl, _, mm, _⟩ := intsR_open h1
  obtain ⟨ad, kd, rfl, _, dd, _⟩ := intsR_open h2
  obtain ⟨aw, kw, rfl, _, ww, _⟩ := pairsR_open h3
  obtain ⟨ap, kp, rfl, _, pp, _⟩ := intsR_open h4
  unfold maxLen at mm dd ww pp
  obtain ⟨w0, hw0⟩ : ∃ x, x = w.alloc (.cells #[.int .i64 fr, .int .i64 ev, .int .i64 ct, .int .i64 ti, .slice am mo.length km, .slice ad da.length kd, .slice aw we.length kw, .slice ap pk.length kp] 62) := ⟨_, rfl⟩
  have hR := rlAt_new w 62 fr ev ct ti _ _ _ _ mo da we pk h1 h2 h3 h4
  have hb0 : Below w.heap.size w w0 := by rw [hw0]; exact (Below.refl _ _).alloc (Nat.le_refl _) _
  rw [← hw0] at hR
  have RR := Lib.hid hR; have B := Lib.hid hb0; have W0 := Lib.hid hw0; have W := Lib.hid (hw.below hb0); have ET := Lib.hid (hx.below hb0)
  have hT : perT (ruleF fr ev ct ti mo da we pk) none = (1, 0, 0) := by rw [hF]; rfl
  have RF := Lib.hid hF; have TT := Lib.hid hT; have PO := Lib.hid (show PerO fr ev st k none from .inl ⟨hs, rfl⟩); have NZ := Lib.hid (show (perT (ruleF fr ev ct ti mo da we pk) none).1 ≠ 0 by rw [hT]; decide); have HS := Lib.hid hs
  clear hF hT hs
  clear hR hb0 hw0 hw hx h1 h2 h3 h4
  obtain ⟨⟨c0, c1, c2, c3, c4, c5, c6, c7⟩, _, hl0⟩ := id RR.out
  go_enter Tryd.func8, Tryd.ntmps8
  go_upto_region 1 with fail
  rw [← W0.out]
  go_wp2_with fail
  refine (rrule_any fr ev ct ti _ _ _ _ mo da we pk _ RR.out.2.1.1 RR.out.2.1.2.1 RR.out.2.1.2.2.1 RR.out.2.1.2.2.2).mono ?_; rintro e w1 ⟨rfl, hb1⟩
  rw [RF.out]
  have W := Lib.hid (W.out.below hb1); have ET := Lib.hid (ET.out.below hb1); have RR := Lib.hid (RR.out.below hb1); have B := Lib.hid (B.out.trans (hb1.mono B.out.size))
  clear hb1 c0 c1 c2 c3 c4 c5 c6 c7 hl0
  obtain ⟨⟨c0, c1, c2, c3, c4, c5, c6, c7⟩, _, hl0⟩ := id RR.out
  go_wp2_with fail
  refine (rdate_no st _ HS.out).mono ?_; rintro e w2 ⟨rfl, hb2⟩
  have hb2 : Below w1.heap.size w1 (w2.alloc (.cells #[.int .i64 0, .int .i64 0, .int .i64 0] 48)) := hb2.alloc hb2.size _
  have W := Lib.hid (W.out.below hb2); have ET := Lib.hid (ET.out.below hb2); have RR := Lib.hid (RR.out.below hb2); have B := Lib.hid (B.out.trans (hb2.mono B.out.size))
  clear hb2 c0 c1 c2 c3 c4 c5 c6 c7 hl0
  obtain ⟨⟨c0, c1, c2, c3, c4, c5, c6, c7⟩, _, hl0⟩ := id RR.out
  go_wp2_with fail
  refine (begin_any fr ev ct ti st k _ _ _ _ mo da we pk none _ W.out RR.out.2.1.1 RR.out.2.1.2.1 RR.out.2.1.2.2.1 RR.out.2.1.2.2.2 PO.out).mono ?_; rintro e w5 ⟨rfl, hb5⟩
  rw [TT.out]
  have W := Lib.hid (W.out.below hb5); have ET := Lib.hid (ET.out.below hb5); have RR := Lib.hid (RR.out.below hb5); have B := Lib.hid (B.out.trans (hb5.mono B.out.size))
  clear hb5 c0 c1 c2 c3 c4 c5 c6 c7 hl0
  obtain ⟨⟨c0, c1, c2, c3, c4, c5, c6, c7⟩, _, hl0⟩ := id RR.out
  go_wp2_with fail
  refine (error_any 1 1 _ ET.out).mono ?_; rintro e w6 ⟨rfl, hb6⟩
  rw [beq_same]
  have W := Lib.hid (W.out.below hb6); have ET := Lib.hid (ET.out.below hb6); have RR := Lib.hid (RR.out.below hb6); have B := Lib.hid (B.out.trans (hb6.mono B.out.size))
  clear hb6 c0 c1 c2 c3 c4 c5 c6 c7 hl0
  obtain ⟨⟨c0, c1, c2, c3, c4, c5, c6, c7⟩, _, hl0⟩ := id RR.out
  go_wp2_with fail
  refine (pdays_no fr ev ct ti st k _ _ _ _ mo da we pk none _ W.out RR.out.2.1.1 RR.out.2.1.2.1 RR.out.2.1.2.2.1 RR.out.2.1.2.2.2 PO.out NZ.out).mono ?_; rintro e w7 ⟨rfl, hb7⟩
  rw [TT.out]
  have W := Lib.hid (W.out.below hb7); have ET := Lib.hid (ET.out.below hb7); have RR := Lib.hid (RR.out.below hb7); have B := Lib.hid (B.out.trans (hb7.mono B.out.size))
  clear hb7 c0 c1 c2 c3 c4 c5 c6 c7 hl0
  obtain ⟨⟨c0, c1, c2, c3, c4, c5, c6, c7⟩, _, hl0⟩ := id RR.out
  go_wp2_with fail
  refine (error_any 1 1 _ ET.out).mono ?_; rintro e w8 ⟨rfl, hb8⟩
  rw [beq_same]
  have W := Lib.hid (W.out.below hb8); have ET := Lib.hid (ET.out.below hb8); have RR := Lib.hid (RR.out.below hb8); have B := Lib.hid (B.out.trans (hb8.mono B.out.size))
  clear hb8 c0 c1 c2 c3 c4 c5 c6 c7 hl0
  obtain ⟨⟨c0, c1, c2, c3, c4, c5, c6, c7⟩, _, hl0⟩ := id RR.out
  go_wp2_with fail
  refine (ints_any _ _ [] [] _ (intsR_nil _) (intsR_nil _)).mono ?_; rintro e w9 ⟨rfl, hb9⟩
  rw [intsB_refl]
  have B9 := Lib.hid (B.out.trans (hb9.mono B.out.size))
  clear hb9 c0 c1 c2 c3 c4 c5 c6 c7 hl0
  go_wp2
  go_ret
  exact ⟨by first | rfl | simp, B9.out⟩

set_option maxRecDepth 100000 in
set_option maxHeartbeats 8000000 in
theorem periodTells_none (fr ev ct ti st k : Int) (vm vd vw vp : Value) (mo da : List Int) (we : List (Int × Int)) (pk : List Int) (w : World) (hw : Months w) (hx : ErrT w) (h1 : IntsR w vm mo) (h2 : IntsR w vd da) (h3 : PairsR w vw we) (h4 : IntsR w vp pk)
    (y m d : Int) (hF : ruleF fr ev ct ti mo da we pk = 0) (hd : Cal.dateB y m d = true) (hn : Cal.num y m d = st) (ho : perS fr ev y m d k = none) :
    Calls Tryd.prog 8 #[.agg #[.int .i64 fr, .int .i64 ev, .int .i64 ct, .int .i64 ti, vm, vd, vw, vp], .int .i64 st, .int .i64 k] w fun e w' => e = .returned (.bool true) ∧ Below w.heap.size w w' := by
  obtain ⟨am, km, rfl, _, mm, _⟩ := intsR_open h1
  obtain ⟨ad, kd, rfl, _, dd, _⟩ := intsR_open h2
  obtain ⟨aw, kw, rfl, _, ww, _⟩ := pairsR_open h3
  obtain ⟨ap, kp, rfl, _, pp, _⟩ := intsR_open h4
  unfold maxLen at mm dd ww pp
  obtain ⟨w0, hw0⟩ : ∃ x, x = w.alloc (.cells #[.int .i64 fr, .int .i64 ev, .int .i64 ct, .int .i64 ti, .slice am mo.length km, .slice ad da.length kd, .slice aw we.length kw, .slice ap pk.length kp] 62) := ⟨_, rfl⟩
  have hR := rlAt_new w 62 fr ev ct ti _ _ _ _ mo da we pk h1 h2 h3 h4
  have hb0 : Below w.heap.size w w0 := by rw [hw0]; exact (Below.refl _ _).alloc (Nat.le_refl _) _
  rw [← hw0] at hR
  have RR := Lib.hid hR; have B := Lib.hid hb0; have W0 := Lib.hid hw0; have W := Lib.hid (hw.below hb0); have ET := Lib.hid (hx.below hb0)
  have hT : perT (ruleF fr ev ct ti mo da we pk) none = (1, 0, 0) := by rw [hF]; rfl
  have r0 := ruleF_0 hF
  have FR := Lib.hid r0.1; have EV := Lib.hid r0.2.1
  have RF := Lib.hid hF; have TT := Lib.hid hT; have PO := Lib.hid (show PerO fr ev st k none from .inr ⟨y, m, d, hd, hn, ho.symm⟩); have NZ := Lib.hid (show (perT (ruleF fr ev ct ti mo da we pk) none).1 ≠ 0 by rw [hT]; decide)
  have D := Lib.hid hd; have N := Lib.hid hn; have PS := Lib.hid ho
  clear hF hT hd hn ho r0
  clear hR hb0 hw0 hw hx h1 h2 h3 h4
  obtain ⟨⟨c0, c1, c2, c3, c4, c5, c6, c7⟩, _, hl0⟩ := id RR.out
  go_enter Tryd.func8, Tryd.ntmps8
  go_upto_region 1 with fail
  rw [← W0.out]
  go_wp2_with fail
  refine (rrule_any fr ev ct ti _ _ _ _ mo da we pk _ RR.out.2.1.1 RR.out.2.1.2.1 RR.out.2.1.2.2.1 RR.out.2.1.2.2.2).mono ?_; rintro e w1 ⟨rfl, hb1⟩
  rw [RF.out]
  have W := Lib.hid (W.out.below hb1); have ET := Lib.hid (ET.out.below hb1); have RR := Lib.hid (RR.out.below hb1); have B := Lib.hid (B.out.trans (hb1.mono B.out.size))
  clear hb1 c0 c1 c2 c3 c4 c5 c6 c7 hl0
  obtain ⟨⟨c0, c1, c2, c3, c4, c5, c6, c7⟩, _, hl0⟩ := id RR.out
  go_wp2_with fail
  refine (rdate_at st y m d _ D.out N.out).mono ?_; rintro e w2 ⟨rfl, hb2⟩
  have hb2 : Below w1.heap.size w1 (w2.alloc (.cells #[.int .i64 y, .int .i64 m, .int .i64 d] 48)) := hb2.alloc hb2.size _
  have W := Lib.hid (W.out.below hb2); have ET := Lib.hid (ET.out.below hb2); have RR := Lib.hid (RR.out.below hb2); have B := Lib.hid (B.out.trans (hb2.mono B.out.size))
  clear hb2 c0 c1 c2 c3 c4 c5 c6 c7 hl0
  obtain ⟨⟨c0, c1, c2, c3, c4, c5, c6, c7⟩, _, hl0⟩ := id RR.out
  go_wp2_with fail
  refine (rbegin_any fr ev ct ti k y m d st am ad aw ap mo.length km da.length kd we.length kw pk.length kp _ D.out N.out FR.out EV.out).mono ?_
  rintro e w3 ⟨a', b', rfl, hab, hb3⟩
  rw [PS.out] at hab ⊢
  simp only [Option.isSome_none]
  clear hab
  have W := Lib.hid (W.out.below hb3); have ET := Lib.hid (ET.out.below hb3); have RR := Lib.hid (RR.out.below hb3); have B := Lib.hid (B.out.trans (hb3.mono B.out.size))
  clear hb3 c0 c1 c2 c3 c4 c5 c6 c7 hl0
  obtain ⟨⟨c0, c1, c2, c3, c4, c5, c6, c7⟩, _, hl0⟩ := id RR.out
  go_wp2_with fail
  refine (begin_any fr ev ct ti st k _ _ _ _ mo da we pk none _ W.out RR.out.2.1.1 RR.out.2.1.2.1 RR.out.2.1.2.2.1 RR.out.2.1.2.2.2 PO.out).mono ?_; rintro e w5 ⟨rfl, hb5⟩
  rw [TT.out]
  have W := Lib.hid (W.out.below hb5); have ET := Lib.hid (ET.out.below hb5); have RR := Lib.hid (RR.out.below hb5); have B := Lib.hid (B.out.trans (hb5.mono B.out.size))
  clear hb5 c0 c1 c2 c3 c4 c5 c6 c7 hl0
  obtain ⟨⟨c0, c1, c2, c3, c4, c5, c6, c7⟩, _, hl0⟩ := id RR.out
  go_wp2_with fail
  refine (error_any 1 1 _ ET.out).mono ?_; rintro e w6 ⟨rfl, hb6⟩
  rw [beq_same]
  have W := Lib.hid (W.out.below hb6); have ET := Lib.hid (ET.out.below hb6); have RR := Lib.hid (RR.out.below hb6); have B := Lib.hid (B.out.trans (hb6.mono B.out.size))
  clear hb6 c0 c1 c2 c3 c4 c5 c6 c7 hl0
  obtain ⟨⟨c0, c1, c2, c3, c4, c5, c6, c7⟩, _, hl0⟩ := id RR.out
  go_wp2_with fail
  refine (pdays_no fr ev ct ti st k _ _ _ _ mo da we pk none _ W.out RR.out.2.1.1 RR.out.2.1.2.1 RR.out.2.1.2.2.1 RR.out.2.1.2.2.2 PO.out NZ.out).mono ?_; rintro e w7 ⟨rfl, hb7⟩
  rw [TT.out]
  have W := Lib.hid (W.out.below hb7); have ET := Lib.hid (ET.out.below hb7); have RR := Lib.hid (RR.out.below hb7); have B := Lib.hid (B.out.trans (hb7.mono B.out.size))
  clear hb7 c0 c1 c2 c3 c4 c5 c6 c7 hl0
  obtain ⟨⟨c0, c1, c2, c3, c4, c5, c6, c7⟩, _, hl0⟩ := id RR.out
  go_wp2_with fail
  refine (error_any 1 1 _ ET.out).mono ?_; rintro e w8 ⟨rfl, hb8⟩
  rw [beq_same]
  have W := Lib.hid (W.out.below hb8); have ET := Lib.hid (ET.out.below hb8); have RR := Lib.hid (RR.out.below hb8); have B := Lib.hid (B.out.trans (hb8.mono B.out.size))
  clear hb8 c0 c1 c2 c3 c4 c5 c6 c7 hl0
  obtain ⟨⟨c0, c1, c2, c3, c4, c5, c6, c7⟩, _, hl0⟩ := id RR.out
  go_wp2_with fail
  refine (ints_any _ _ [] [] _ (intsR_nil _) (intsR_nil _)).mono ?_; rintro e w9 ⟨rfl, hb9⟩
  rw [intsB_refl]
  have B9 := Lib.hid (B.out.trans (hb9.mono B.out.size))
  clear hb9 c0 c1 c2 c3 c4 c5 c6 c7 hl0
  go_wp2
  go_ret
  exact ⟨by first | rfl | simp, B9.out⟩

set_option maxRecDepth 100000 in
set_option maxHeartbeats 8000000 in
theorem periodTells_some (fr ev ct ti st k : Int) (vm vd vw vp : Value) (mo da : List Int) (we : List (Int × Int)) (pk : List Int) (w : World) (hw : Months w) (hx : ErrT w) (h1 : IntsR w vm mo) (h2 : IntsR w vd da) (h3 : PairsR w vw we) (h4 : IntsR w vp pk)
    (y m d a b : Int) (hF : ruleF fr ev ct ti mo da we pk = 0) (hd : Cal.dateB y m d = true) (hn : Cal.num y m d = st) (ho : perS fr ev y m d k = some (a, b)) :
    Calls Tryd.prog 8 #[.agg #[.int .i64 fr, .int .i64 ev, .int .i64 ct, .int .i64 ti, vm, vd, vw, vp], .int .i64 st, .int .i64 k] w fun e w' => e = .returned (.bool true) ∧ Below w.heap.size w w' := by
  obtain ⟨am, km, rfl, _, mm, _⟩ := intsR_open h1
  obtain ⟨ad, kd, rfl, _, dd, _⟩ := intsR_open h2
  obtain ⟨aw, kw, rfl, _, ww, _⟩ := pairsR_open h3
  obtain ⟨ap, kp, rfl, _, pp, _⟩ := intsR_open h4
  unfold maxLen at mm dd ww pp
  obtain ⟨w0, hw0⟩ : ∃ x, x = w.alloc (.cells #[.int .i64 fr, .int .i64 ev, .int .i64 ct, .int .i64 ti, .slice am mo.length km, .slice ad da.length kd, .slice aw we.length kw, .slice ap pk.length kp] 62) := ⟨_, rfl⟩
  have hR := rlAt_new w 62 fr ev ct ti _ _ _ _ mo da we pk h1 h2 h3 h4
  have hb0 : Below w.heap.size w w0 := by rw [hw0]; exact (Below.refl _ _).alloc (Nat.le_refl _) _
  rw [← hw0] at hR
  have RR := Lib.hid hR; have B := Lib.hid hb0; have W0 := Lib.hid hw0; have W := Lib.hid (hw.below hb0); have ET := Lib.hid (hx.below hb0)
  have hT : perT (ruleF fr ev ct ti mo da we pk) (some (a, b)) = (0, a, b) := by rw [hF]; rfl
  have r0 := ruleF_0 hF
  have FR := Lib.hid r0.1; have EV := Lib.hid r0.2.1
  have RF := Lib.hid hF; have TT := Lib.hid hT; have PO := Lib.hid (show PerO fr ev st k (some (a, b)) from .inr ⟨y, m, d, hd, hn, ho.symm⟩)
  have D := Lib.hid hd; have N := Lib.hid hn; have PS := Lib.hid ho
  clear hF hT hd hn ho r0
  clear hR hb0 hw0 hw hx h1 h2 h3 h4
  obtain ⟨⟨c0, c1, c2, c3, c4, c5, c6, c7⟩, _, hl0⟩ := id RR.out
  go_enter Tryd.func8, Tryd.ntmps8
  go_upto_region 1 with fail
  rw [← W0.out]
  go_wp2_with fail
  refine (rrule_any fr ev ct ti _ _ _ _ mo da we pk _ RR.out.2.1.1 RR.out.2.1.2.1 RR.out.2.1.2.2.1 RR.out.2.1.2.2.2).mono ?_; rintro e w1 ⟨rfl, hb1⟩
  rw [RF.out]
  have W := Lib.hid (W.out.below hb1); have ET := Lib.hid (ET.out.below hb1); have RR := Lib.hid (RR.out.below hb1); have B := Lib.hid (B.out.trans (hb1.mono B.out.size))
  clear hb1 c0 c1 c2 c3 c4 c5 c6 c7 hl0
  obtain ⟨⟨c0, c1, c2, c3, c4, c5, c6, c7⟩, _, hl0⟩ := id RR.out
  go_wp2_with fail
  refine (rdate_at st y m d _ D.out N.out).mono ?_; rintro e w2 ⟨rfl, hb2⟩
  have hb2 : Below w1.heap.size w1 (w2.alloc (.cells #[.int .i64 y, .int .i64 m, .int .i64 d] 48)) := hb2.alloc hb2.size _
  have W := Lib.hid (W.out.below hb2); have ET := Lib.hid (ET.out.below hb2); have RR := Lib.hid (RR.out.below hb2); have B := Lib.hid (B.out.trans (hb2.mono B.out.size))
  clear hb2 c0 c1 c2 c3 c4 c5 c6 c7 hl0
  obtain ⟨⟨c0, c1, c2, c3, c4, c5, c6, c7⟩, _, hl0⟩ := id RR.out
  go_wp2_with fail
  refine (rbegin_any fr ev ct ti k y m d st am ad aw ap mo.length km da.length kd we.length kw pk.length kp _ D.out N.out FR.out EV.out).mono ?_
  rintro e w3 ⟨a', b', rfl, hab, hb3⟩
  rw [PS.out] at hab ⊢
  obtain ⟨rfl, rfl⟩ : a = a' ∧ b = b' := by have := hab _ rfl; exact ⟨congrArg Prod.fst this, congrArg Prod.snd this⟩
  simp only [Option.isSome_some]
  clear hab
  have W := Lib.hid (W.out.below hb3); have ET := Lib.hid (ET.out.below hb3); have RR := Lib.hid (RR.out.below hb3); have B := Lib.hid (B.out.trans (hb3.mono B.out.size))
  clear hb3 c0 c1 c2 c3 c4 c5 c6 c7 hl0
  obtain ⟨⟨c0, c1, c2, c3, c4, c5, c6, c7⟩, _, hl0⟩ := id RR.out
  go_wp2_with fail
  refine (rperiod_any fr ev ct ti k a b y m d st _ _ _ _ mo da we pk _ RR.out.2.1.1 RR.out.2.1.2.1 RR.out.2.1.2.2.1 RR.out.2.1.2.2.2 D.out N.out RF.out PS.out).mono ?_; rintro e w4 ⟨r4, rfl, hr4, hb4⟩
  have WT := Lib.hid hr4; clear hr4
  have W := Lib.hid (W.out.below hb4); have ET := Lib.hid (ET.out.below hb4); have RR := Lib.hid (RR.out.below hb4); have B := Lib.hid (B.out.trans (hb4.mono B.out.size))
  clear hb4 c0 c1 c2 c3 c4 c5 c6 c7 hl0
  obtain ⟨⟨c0, c1, c2, c3, c4, c5, c6, c7⟩, _, hl0⟩ := id RR.out
  go_wp2_with fail
  refine (begin_any fr ev ct ti st k _ _ _ _ mo da we pk (some (a, b)) _ W.out RR.out.2.1.1 RR.out.2.1.2.1 RR.out.2.1.2.2.1 RR.out.2.1.2.2.2 PO.out).mono ?_; rintro e w5 ⟨rfl, hb5⟩
  rw [TT.out]
  have WT := Lib.hid (WT.out.below hb5)
  have W := Lib.hid (W.out.below hb5); have ET := Lib.hid (ET.out.below hb5); have RR := Lib.hid (RR.out.below hb5); have B := Lib.hid (B.out.trans (hb5.mono B.out.size))
  clear hb5 c0 c1 c2 c3 c4 c5 c6 c7 hl0
  obtain ⟨⟨c0, c1, c2, c3, c4, c5, c6, c7⟩, _, hl0⟩ := id RR.out
  go_wp2_with fail
  refine (error_any 0 0 _ ET.out).mono ?_; rintro e w6 ⟨rfl, hb6⟩
  rw [beq_same]
  have WT := Lib.hid (WT.out.below hb6)
  have W := Lib.hid (W.out.below hb6); have ET := Lib.hid (ET.out.below hb6); have RR := Lib.hid (RR.out.below hb6); have B := Lib.hid (B.out.trans (hb6.mono B.out.size))
  clear hb6 c0 c1 c2 c3 c4 c5 c6 c7 hl0
  obtain ⟨⟨c0, c1, c2, c3, c4, c5, c6, c7⟩, _, hl0⟩ := id RR.out
  go_wp2_with fail
  refine (pdaysL fr ev ct ti k a b y m d st _ _ _ _ mo da we pk _ W.out RR.out.2.1.1 RR.out.2.1.2.1 RR.out.2.1.2.2.1 RR.out.2.1.2.2.2 D.out N.out RF.out PS.out).mono ?_; rintro e w7 ⟨r7, rfl, hr7, hb7⟩
  have WT := Lib.hid (WT.out.below hb7); have GT := Lib.hid hr7; clear hr7
  have W := Lib.hid (W.out.below hb7); have ET := Lib.hid (ET.out.below hb7); have RR := Lib.hid (RR.out.below hb7); have B := Lib.hid (B.out.trans (hb7.mono B.out.size))
  clear hb7 c0 c1 c2 c3 c4 c5 c6 c7 hl0
  obtain ⟨⟨c0, c1, c2, c3, c4, c5, c6, c7⟩, _, hl0⟩ := id RR.out
  go_wp2_with fail
  refine (error_nil 0 _ true rfl).mono ?_; rintro e w8 ⟨rfl, hb8⟩
  have WT := Lib.hid (WT.out.below hb8); have GT := Lib.hid (GT.out.below hb8)
  have W := Lib.hid (W.out.below hb8); have ET := Lib.hid (ET.out.below hb8); have RR := Lib.hid (RR.out.below hb8); have B := Lib.hid (B.out.trans (hb8.mono B.out.size))
  clear hb8 c0 c1 c2 c3 c4 c5 c6 c7 hl0
  obtain ⟨⟨c0, c1, c2, c3, c4, c5, c6, c7⟩, _, hl0⟩ := id RR.out
  go_wp2_with fail
  refine (ints_any _ _ _ _ _ GT.out WT.out).mono ?_; rintro e w9 ⟨rfl, hb9⟩
  rw [intsB_refl]
  have B9 := Lib.hid (B.out.trans (hb9.mono B.out.size))
  clear hb9 c0 c1 c2 c3 c4 c5 c6 c7 hl0
  go_wp2
  go_ret
  exact ⟨by first | rfl | simp, B9.out⟩

theorem periodTells_top (fr ev ct ti : Int) (vm : Value) (mo : List Int) (vd : Value) (da : List Int) (vw : Value) (we : List (Int × Int)) (vp : Value) (pk : List Int) (st k : Int) (w : World) (hw : Months w) (hx : ErrT w)
    (_ : (Lit.int .i64 fr).wf = true) (_ : (Lit.int .i64 ev).wf = true) (_ : (Lit.int .i64 ct).wf = true) (_ : (Lit.int .i64 ti).wf = true)
    (h1 : IntsR w vm mo) (h2 : IntsR w vd da) (h3 : PairsR w vw we) (h4 : IntsR w vp pk) (_ : (Lit.int .i64 st).wf = true) (_ : (Lit.int .i64 k).wf = true) :
    Calls Tryd.prog 8 #[.agg #[.int .i64 fr, .int .i64 ev, .int .i64 ct, .int .i64 ti, vm, vd, vw, vp], .int .i64 st, .int .i64 k] w fun e w' => e = .returned (.bool true) ∧ Below w.heap.size w w' := by
  by_cases hF : ruleF fr ev ct ti mo da we pk = 0
  · by_cases hs : 1 ≤ st ∧ st ≤ 109573
    · obtain ⟨y, m, d, hd, hn⟩ := Cal.ex_date st hs.1 hs.2
      cases ho : perS fr ev y m d k with
      | none => exact periodTells_none fr ev ct ti st k vm vd vw vp mo da we pk w hw hx h1 h2 h3 h4 y m d hF hd hn ho
      | some p => exact periodTells_some fr ev ct ti st k vm vd vw vp mo da we pk w hw hx h1 h2 h3 h4 y m d p.1 p.2 hF hd hn ho
    · exact periodTells_start fr ev ct ti st k vm vd vw vp mo da we pk w hw hx h1 h2 h3 h4 hF (by omega)
  · obtain ⟨o, ho⟩ := perO_ex fr ev st k
    exact periodTells_rule fr ev ct ti st k vm vd vw vp mo da we pk w hw hx h1 h2 h3 h4 o ho _ rfl hF

end Go.Proofs.YtdamncbgobjpdaaDoor
