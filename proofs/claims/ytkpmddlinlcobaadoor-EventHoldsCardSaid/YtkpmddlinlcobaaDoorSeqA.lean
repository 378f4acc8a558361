/- The contracts of period.Of, and of seq.ready. Conditions: the rule is right (period.Of). -/
import Derived.Test.YtkpmddlinlcobaaDoorSeqM
namespace Go.Proofs.YtkpmddlinlcobaaDoor
open Go.RowKit
set_option linter.unusedSimpArgs false
set_option linter.unusedVariables false

set_option maxRecDepth 100000 in
set_option maxHeartbeats 8000000 in
theorem pof_no (fr ev ct ti k y m d n : Int) (vm vd vw vp : Value) (mo da : List Int) (we : List (Int × Int)) (pk : List Int) (w : World) (hw : Months w)
    (h1 : IntsR w vm mo) (h2 : IntsR w vd da) (h3 : PairsR w vw we) (h4 : IntsR w vp pk) (hd : Cal.dateB y m d = true) (hn : Cal.num y m d = n) (hF : ruleF fr ev ct ti mo da we pk = 0) (ho : perS fr ev y m d k = none) :
    Calls Tryd.prog 48 #[.agg #[.int .i64 fr, .int .i64 ev, .int .i64 ct, .int .i64 ti, vm, vd, vw, vp], .int .i64 n, .int .i64 k] w
      fun e w' => e = .returned (.tuple #[.slice none 0 0, .bool false]) ∧ Below w.heap.size w w' := by
  obtain ⟨am, km, rfl, _, _, _⟩ := intsR_open h1
  obtain ⟨ad, kd, rfl, _, _, _⟩ := intsR_open h2
  obtain ⟨aw, kw, rfl, _, _, _⟩ := pairsR_open h3
  obtain ⟨ap, kp, rfl, _, _, _⟩ := intsR_open h4
  have r0 := ruleF_0 hF
  have hR := rlAt_new w 25 fr ev ct ti _ _ _ _ mo da we pk h1 h2 h3 h4
  have hb0 : Below w.heap.size w (w.alloc (.cells #[.int .i64 fr, .int .i64 ev, .int .i64 ct, .int .i64 ti, .slice am mo.length km, .slice ad da.length kd, .slice aw we.length kw, .slice ap pk.length kp] 25)) := (Below.refl _ _).alloc (Nat.le_refl _) _
  have hw0 := hw.below hb0
  have F1 := Lib.hid r0.1; have F2 := Lib.hid r0.2.1; have PO := Lib.hid (show PerO fr ev n k none from .inr ⟨y, m, d, hd, hn, ho.symm⟩)
  obtain ⟨⟨c0, c1, c2, c3, c4, c5, c6, c7⟩, _, hl0⟩ := id hR
  clear r0 hF ho hd hn h1 h2 h3 h4 hw hR c0 c1 c2 c3 c4 c5 c6 c7 hl0
  go_enter Tryd.func48, Tryd.ntmps48
  go_wp2_with fail
  refine (of_any fr ev ct ti k am ad aw ap mo.length km da.length kd we.length kw pk.length kp n none _ hw0 F1.out F2.out PO.out).mono ?_
  rintro e w1 ⟨a, b, ⟨rfl, _⟩, hb1⟩
  simp only [Option.isSome_none]
  have hbb := hb0.trans (hb1.mono hb0.size)
  clear hb1 hb0 hw0
  go_wp2
  go_ret2
  exact ⟨rfl, hbb.alloc hbb.size _⟩

set_option maxRecDepth 100000 in
set_option maxHeartbeats 8000000 in
theorem pof_yes (fr ev ct ti k a b y m d n : Int) (vm vd vw vp : Value) (mo da : List Int) (we : List (Int × Int)) (pk : List Int) (w : World) (hw : Months w)
    (h1 : IntsR w vm mo) (h2 : IntsR w vd da) (h3 : PairsR w vw we) (h4 : IntsR w vp pk) (hd : Cal.dateB y m d = true) (hn : Cal.num y m d = n) (hF : ruleF fr ev ct ti mo da we pk = 0) (ho : perS fr ev y m d k = some (a, b)) :
    Calls Tryd.prog 48 #[.agg #[.int .i64 fr, .int .i64 ev, .int .i64 ct, .int .i64 ti, vm, vd, vw, vp], .int .i64 n, .int .i64 k] w
      fun e w' => ∃ r, e = .returned (.tuple #[r, .bool true]) ∧ (IntsR w' r (perL fr mo da we pk n a b) ∧ FreshV w.heap.size r) ∧ Below w.heap.size w w' := by
  obtain ⟨am, km, rfl, _, _, _⟩ := intsR_open h1
  obtain ⟨ad, kd, rfl, _, _, _⟩ := intsR_open h2
  obtain ⟨aw, kw, rfl, _, _, _⟩ := pairsR_open h3
  obtain ⟨ap, kp, rfl, _, _, _⟩ := intsR_open h4
  have r0 := ruleF_0 hF
  have hbd := perS_bd hd r0.2.1.1 ho
  have hfull := r0.2.2.2.1
  have hln : mo.length ≤ 12 ∧ da.length ≤ 31 ∧ we.length ≤ 20 := by simp [fullB] at hfull; omega
  have hR := rlAt_new w 25 fr ev ct ti _ _ _ _ mo da we pk h1 h2 h3 h4
  have hb0 : Below w.heap.size w (w.alloc (.cells #[.int .i64 fr, .int .i64 ev, .int .i64 ct, .int .i64 ti, .slice am mo.length km, .slice ad da.length kd, .slice aw we.length kw, .slice ap pk.length kp] 25)) := (Below.refl _ _).alloc (Nat.le_refl _) _
  have hw0 := hw.below hb0
  have F1 := Lib.hid r0.1; have F2 := Lib.hid r0.2.1; have PO := Lib.hid (show PerO fr ev n k (some (a, b)) from .inr ⟨y, m, d, hd, hn, ho.symm⟩)
  have D := Lib.hid hd; have N := Lib.hid hn; have BD := Lib.hid hbd; have LN := Lib.hid hln
  have RR := Lib.hid hR; have W := Lib.hid hw0; have B := Lib.hid hb0
  clear r0 hF ho hd hn h1 h2 h3 h4 hw hR hbd hfull hln hw0 hb0
  go_enter Tryd.func48, Tryd.ntmps48
  go_wp2_with fail
  refine (of_any fr ev ct ti k am ad aw ap mo.length km da.length kd we.length kw pk.length kp n (some (a, b)) _ W.out F1.out F2.out PO.out).mono ?_
  rintro e w1 ⟨a', b', ⟨rfl, hab⟩, hb1⟩
  obtain ⟨rfl, rfl⟩ : a = a' ∧ b = b' := by have := hab _ rfl; exact ⟨congrArg Prod.fst this, congrArg Prod.snd this⟩
  simp only [Option.isSome_some]
  clear hab
  have hS : Below w1.heap.size w1 (w1.alloc (.cells #[.int .i64 a, .int .i64 b] 88)) := (Below.refl _ _).alloc (Nat.le_refl _) _
  have RR := Lib.hid ((RR.out.below hb1).below hS); have W := Lib.hid ((W.out.below hb1).below hS)
  have B := Lib.hid (B.out.trans (hb1.mono B.out.size))
  have B := Lib.hid (B.out.alloc B.out.size (.cells #[.int .i64 a, .int .i64 b] 88))
  clear hb1 hS
  obtain ⟨⟨c0, c1, c2, c3, c4, c5, c6, c7⟩, _, hl0⟩ := id RR.out
  go_wp2_with fail
  rw [← N.out]
  refine (days_own fr ev ct ti a b _ _ _ _ mo da we pk y m d _ W.out RR.out.2.1.1 RR.out.2.1.2.1 RR.out.2.1.2.2.1 RR.out.2.1.2.2.2 D.out LN.out BD.out.1 BD.out.2).mono ?_; rintro e w2 ⟨r, rfl, ⟨hr, hf⟩, hb2⟩
  have B2 := Lib.hid (B.out.trans (hb2.mono B.out.size)); have HR := Lib.hid hr
  have FV := Lib.hid (show FreshV w.heap.size r from fun g hg => Nat.le_trans B.out.size (hf g hg))
  clear hb2 hr hf c0 c1 c2 c3 c4 c5 c6 c7 hl0
  go_wp2
  go_ret2
  exact ⟨r, rfl, ⟨by rw [perL, ← N.out]; exact HR.out, FV.out⟩, B2.out⟩

/-- what is wrong with a rule, and a day that it begins at. -/
def seqF (F n : Int) : Int := if F ≠ 0 then F else if 1 ≤ n ∧ n ≤ 109573 then 0 else 1

end Go.Proofs.YtkpmddlinlcobaaDoor
