/- The contract of period.Days. No condition but the lists. -/
import Derived.Test.YtdamncbgobjpdaaDoorPerF
namespace Go.Proofs.YtdamncbgobjpdaaDoor
open Go.RowKit
set_option linter.unusedSimpArgs false
set_option linter.unusedVariables false

theorem year_end (y : Int) : Cal.num y 12 31 = Cal.num y 1 1 + 364 + Cal.lp y := by
  unfold Cal.num; rw [Cal.cum_1]; simp [Cal.cum]; omega

/-- a period begins at a day, and has at most 366 days. -/
theorem perS_bd {fr ev y m d k a b : Int} (hd : Cal.dateB y m d = true) (he : 1 ≤ ev) (h : perS fr ev y m d k = some (a, b)) : (1 ≤ a ∧ a ≤ 109573) ∧ (a ≤ b ∧ b ≤ a + 400) := by
  obtain ⟨_, _, b1, b2⟩ := Cal.num_bd hd
  obtain ⟨hm, _, _⟩ := Cal.date_yes hd
  obtain ⟨y1, y2, m1, m2⟩ := Cal.month_yes hm
  unfold perS at h
  split at h
  · cases h
  rename_i hk
  have hke : 0 ≤ k * ev := Int.mul_nonneg (by omega) (by omega)
  split at h
  · split at h
    · cases h; omega
    · cases h
  split at h
  · split at h
    · cases h
      have := Cal.monday_bd (Cal.num y m d)
      have := Cal.monday_pos (Cal.num y m d) b1
      omega
    · cases h
  split at h
  · split at h
    · cases h
      rename_i hn
      obtain ⟨q1, q2⟩ := mon_date _ (by omega) hn
      have hb := Cal.num_bd q2
      have hs := Cal.dim_bd (1900 + ((y - 1900) * 12 + m - 1 + k * ev) / 12) (((y - 1900) * 12 + m - 1 + k * ev) % 12 + 1)
      have e1 : monFrom ((y - 1900) * 12 + m - 1 + k * ev) = Cal.num (1900 + ((y - 1900) * 12 + m - 1 + k * ev) / 12) (((y - 1900) * 12 + m - 1 + k * ev) % 12 + 1) 1 := rfl
      have e2 : monSize ((y - 1900) * 12 + m - 1 + k * ev) = Cal.dim (1900 + ((y - 1900) * 12 + m - 1 + k * ev) / 12) (((y - 1900) * 12 + m - 1 + k * ev) % 12 + 1) := rfl
      rw [← e1] at hb
      rw [← e2] at hs
      omega
    · cases h
  split at h
  · rename_i hn
    cases h
    have q := Cal.num_bd (y := y + k * ev) (m := 1) (d := 1) (Cal.date_mk (Cal.month_mk (by omega) hn (by omega) (by omega)) (by omega) (by simp [Cal.dim]))
    have q2 := year_end (y + k * ev)
    have q3 := Cal.lp_01 (y + k * ev)
    omega
  · cases h

set_option maxRecDepth 100000 in
set_option maxHeartbeats 8000000 in
theorem pdays_no (fr ev ct ti n k : Int) (vm vd vw vp : Value) (mo da : List Int) (we : List (Int × Int)) (pk : List Int) (o : Option (Int × Int)) (w : World) (hw : Months w)
    (h1 : IntsR w vm mo) (h2 : IntsR w vd da) (h3 : PairsR w vw we) (h4 : IntsR w vp pk) (ho : PerO fr ev n k o) (hF : (perT (ruleF fr ev ct ti mo da we pk) o).1 ≠ 0) :
    Calls Tryd.prog 55 #[.agg #[.int .i64 fr, .int .i64 ev, .int .i64 ct, .int .i64 ti, vm, vd, vw, vp], .int .i64 n, .int .i64 k] w
      fun e w' => e = .returned (.tuple #[.slice none 0 0, errV (perT (ruleF fr ev ct ti mo da we pk) o).1]) ∧ Below w.heap.size w w' := by
  obtain ⟨am, km, rfl, m1, m2, _⟩ := intsR_open h1
  obtain ⟨ad, kd, rfl, d1, d2, _⟩ := intsR_open h2
  obtain ⟨aw, kw, rfl, v1, v2, _⟩ := pairsR_open h3
  obtain ⟨ap, kp, rfl, p1, p2, _⟩ := intsR_open h4
  have hR := rlAt_new w 62 fr ev ct ti _ _ _ _ mo da we pk h1 h2 h3 h4
  have hb0 : Below w.heap.size w (w.alloc (.cells #[.int .i64 fr, .int .i64 ev, .int .i64 ct, .int .i64 ti, .slice am mo.length km, .slice ad da.length kd, .slice aw we.length kw, .slice ap pk.length kp] 62)) := (Below.refl _ _).alloc (Nat.le_refl _) _
  have hw0 := hw.below hb0
  obtain ⟨T, hT⟩ : ∃ T, T = perT (ruleF fr ev ct ti mo da we pk) o := ⟨_, rfl⟩
  rw [← hT] at hF
  rw [← hT]
  have hE : errV T.1 = .iface 114 (.int .i64 T.1) := by rw [errV, if_neg hF]
  rw [hE]
  have TT := Lib.hid hT; have EE := Lib.hid hE; clear hT hE hF h1 h2 h3 h4 hw
  go_enter Tryd.func55, Tryd.ntmps55
  go_wp2_with fail
  refine (ready_any fr ev ct ti n k _ _ _ _ mo da we pk o _ hw0 hR.2.1.1 hR.2.1.2.1 hR.2.1.2.2.1 hR.2.1.2.2.2 ho).mono ?_; rintro e w1 ⟨rfl, hb1⟩
  rw [← TT.out, EE.out]
  have hbb := hb0.trans (hb1.mono hb0.size)
  clear hb1 hb0 hR hw0
  go_wp2_with fail
  go_ret2
  exact ⟨rfl, hbb.alloc hbb.size _⟩

set_option maxRecDepth 100000 in
set_option maxHeartbeats 8000000 in
theorem pdays_yes (fr ev ct ti k a b y m d : Int) (vm vd vw vp : Value) (mo da : List Int) (we : List (Int × Int)) (pk : List Int) (w : World) (hw : Months w)
    (h1 : IntsR w vm mo) (h2 : IntsR w vd da) (h3 : PairsR w vw we) (h4 : IntsR w vp pk) (hd : Cal.dateB y m d = true) (hF : ruleF fr ev ct ti mo da we pk = 0) (ho : perS fr ev y m d k = some (a, b)) :
    Calls Tryd.prog 55 #[.agg #[.int .i64 fr, .int .i64 ev, .int .i64 ct, .int .i64 ti, vm, vd, vw, vp], .int .i64 (Cal.num y m d), .int .i64 k] w
      fun e w' => ∃ r, e = .returned (.tuple #[r, .nilIface]) ∧ IntsR w' r (pickL (daysG (askB fr mo da we (Cal.num y m d)) a (min b 109573 + 1 - a).toNat) pk) ∧ Below w.heap.size w w' := by
  have h0 := ruleF_0 hF
  have hbd := perS_bd hd h0.2.1.1 ho
  have hfull := h0.2.2.2.1
  have hln : mo.length ≤ 12 ∧ da.length ≤ 31 ∧ we.length ≤ 20 := by simp [fullB] at hfull; omega
  have hPO : PerO fr ev (Cal.num y m d) k (some (a, b)) := .inr ⟨y, m, d, hd, rfl, ho.symm⟩
  have hTT : perT (ruleF fr ev ct ti mo da we pk) (some (a, b)) = (0, a, b) := by rw [hF]; rfl
  obtain ⟨am, km, rfl, m1, m2, _⟩ := intsR_open h1
  obtain ⟨ad, kd, rfl, d1, d2, _⟩ := intsR_open h2
  obtain ⟨aw, kw, rfl, v1, v2, _⟩ := pairsR_open h3
  obtain ⟨ap, kp, rfl, p1, p2, _⟩ := intsR_open h4
  have hR := rlAt_new w 62 fr ev ct ti _ _ _ _ mo da we pk h1 h2 h3 h4
  have hb0 : Below w.heap.size w (w.alloc (.cells #[.int .i64 fr, .int .i64 ev, .int .i64 ct, .int .i64 ti, .slice am mo.length km, .slice ad da.length kd, .slice aw we.length kw, .slice ap pk.length kp] 62)) := (Below.refl _ _).alloc (Nat.le_refl _) _
  have hw0 := hw.below hb0
  have TT := Lib.hid hTT; have BD := Lib.hid hbd; have LN := Lib.hid hln; have D := Lib.hid hd
  clear hTT hbd hln h0 hfull hF ho h1 h2 h3 h4 hw hd
  go_enter Tryd.func55, Tryd.ntmps55
  go_wp2_with fail
  refine (ready_any fr ev ct ti _ k _ _ _ _ mo da we pk _ _ hw0 hR.2.1.1 hR.2.1.2.1 hR.2.1.2.2.1 hR.2.1.2.2.2 hPO).mono ?_; rintro e w1 ⟨rfl, hb1⟩
  rw [TT.out, errV_0]
  have hR1 := (hR.below hb1).below ((Below.refl _ _).alloc (Nat.le_refl _) (.cells #[.int .i64 a, .int .i64 b] 142))
  have hw1 := (hw0.below hb1).alloc (.cells #[.int .i64 a, .int .i64 b] 142)
  have hbb := hb0.trans (hb1.mono hb0.size)
  have hbb := hbb.alloc hbb.size (.cells #[.int .i64 a, .int .i64 b] 142)
  obtain ⟨⟨c0, c1, c2, c3, c4, c5, c6, c7⟩, _, hl0⟩ := id (hR.below hb1)
  have B := Lib.hid hbb; have R1 := Lib.hid hR1; have W1 := Lib.hid hw1
  clear hb1 hb0 hR hw0 hbb hR1 hw1
  go_wp2_with fail
  refine (days_any fr ev ct ti a b _ _ _ _ mo da we pk y m d _ W1.out R1.out.2.1.1 R1.out.2.1.2.1 R1.out.2.1.2.2.1 R1.out.2.1.2.2.2 D.out LN.out BD.out.1 BD.out.2).mono ?_; rintro e w2 ⟨r, rfl, hr, hb2⟩
  have B2 := Lib.hid (B.out.trans (hb2.mono B.out.size)); have HR2 := Lib.hid hr
  clear hb2 hr
  go_wp2_with fail
  go_ret2
  exact ⟨r, rfl, HR2.out, B2.out⟩

end Go.Proofs.YtdamncbgobjpdaaDoor
