/- The contract of the reference chimeref1.Period: the days of a period. Conditions: the rule is right, there is such a period. (printed by gen_refs.py) -/
import Derived.Test.YtdpngbjlljgoaaaDoorRefQ
import Derived.Test.YtdpngbjlljgoaaaDoorPerH
namespace Go.Proofs.YtdpngbjlljgoaaaDoor
open Go.RowKit
set_option linter.unusedSimpArgs false
set_option linter.unusedVariables false

theorem rwanted_day (fr ev ct ti n0 n y0 m0 d0 : Int) (vm vd vw vp : Value) (mo da : List Int) (we : List (Int × Int)) (pk : List Int) (w : World)
    (h1 : IntsR w vm mo) (h2 : IntsR w vd da) (h3 : PairsR w vw we) (h4 : IntsR w vp pk) (hd0 : Cal.dateB y0 m0 d0 = true) (hn0 : Cal.num y0 m0 d0 = n0) (hn1 : 1 ≤ n) (hn2 : n ≤ 109573)
    (hf : 1 ≤ fr ∧ fr ≤ 4) (hl : mo.length ≤ 12 ∧ da.length ≤ 31 ∧ we.length ≤ 20) :
    Calls Tryd.prog 114 #[.agg #[.int .i64 fr, .int .i64 ev, .int .i64 ct, .int .i64 ti, vm, vd, vw, vp], .int .i64 n0, .int .i64 n] w fun e w' => e = .returned (.bool (askB fr mo da we n0 n)) ∧ Below w.heap.size w w' := by
  obtain ⟨y, m, d, hd, hn⟩ := Cal.ex_date n hn1 hn2
  exact rwanted_any fr ev ct ti n0 n y0 m0 d0 y m d vm vd vw vp mo da we pk w h1 h2 h3 h4 hd0 hn0 hd hn hf hl

set_option maxRecDepth 100000 in
set_option maxHeartbeats 16000000 in
theorem rperiod_fr (fr ev ct ti k a b y0 m0 d0 n0 : Int) (vm vd vw vp : Value) (mo da : List Int) (we : List (Int × Int)) (pk : List Int) (w : World)
    (h1 : IntsR w vm mo) (h2 : IntsR w vd da) (h3 : PairsR w vw we) (h4 : IntsR w vp pk) (hd0 : Cal.dateB y0 m0 d0 = true) (hn0 : Cal.num y0 m0 d0 = n0) (hF : ruleF fr ev ct ti mo da we pk = 0) (ho : perS fr ev y0 m0 d0 k = some (a, b)) :
    Calls Tryd.prog 72 #[.agg #[.int .i64 fr, .int .i64 ev, .int .i64 ct, .int .i64 ti, vm, vd, vw, vp], .int .i64 n0, .int .i64 k] w
      fun e w' => ∃ r, e = .returned (.tuple #[r, .bool true]) ∧ (IntsR w' r (perL fr mo da we pk n0 a b) ∧ FreshV w.heap.size r) ∧ Below w.heap.size w w' := by
  obtain ⟨i0, hi, hz0, hz1, hz2⟩ := info_parts intInfoP
  obtain ⟨am, km, rfl, _, mm, _⟩ := intsR_open h1
  obtain ⟨ad, kd, rfl, _, dd, _⟩ := intsR_open h2
  obtain ⟨aw, kw, rfl, _, ww, _⟩ := pairsR_open h3
  obtain ⟨ap, kp, rfl, _, pp, _⟩ := intsR_open h4
  unfold maxLen at mm dd ww pp
  have hr0 := ruleF_0 hF
  have hbd := perS_bd hd0 hr0.2.1.1 ho
  have hfull := hr0.2.2.2.1
  have hln : mo.length ≤ 12 ∧ da.length ≤ 31 ∧ we.length ≤ 20 := by simp [fullB] at hfull; omega
  have FR := Lib.hid hr0.1; have EV := Lib.hid hr0.2.1; have LN := Lib.hid hln
  obtain ⟨⟨a1, a2⟩, b1, b2⟩ := hbd
  obtain ⟨w0, hw0⟩ : ∃ x, x = w.alloc (.cells #[.int .i64 fr, .int .i64 ev, .int .i64 ct, .int .i64 ti, .slice am mo.length km, .slice ad da.length kd, .slice aw we.length kw, .slice ap pk.length kp] 25) := ⟨_, rfl⟩
  have hR := rlAt_new w 25 fr ev ct ti _ _ _ _ mo da we pk h1 h2 h3 h4
  have hb0 : Below w.heap.size w w0 := by rw [hw0]; exact (Below.refl _ _).alloc (Nat.le_refl _) _
  rw [← hw0] at hR
  have RR := Lib.hid hR; have B0 := Lib.hid hb0; have W0 := Lib.hid hw0; have D0 := Lib.hid hd0; have N0 := Lib.hid hn0; have HO := Lib.hid ho
  clear hr0 hfull hln hF ho hd0 hn0 hR hb0 hw0 h1 h2 h3 h4
  obtain ⟨⟨c0, c1, c2, c3, c4, c5, c6, c7⟩, _, hl0⟩ := id RR.out
  go_enter Tryd.func72, Tryd.ntmps72
  go_upto_region 1 with fail
  rw [← W0.out]
  go_wp2_with fail
  refine (rbegin_any fr ev ct ti k y0 m0 d0 n0 am ad aw ap mo.length km da.length kd we.length kw pk.length kp _ D0.out N0.out FR.out EV.out).mono ?_
  rintro e w1 ⟨a', b', rfl, hab, hb1⟩
  obtain ⟨rfl, rfl⟩ : a = a' ∧ b = b' := by have := hab _ HO.out; exact ⟨congrArg Prod.fst this, congrArg Prod.snd this⟩
  rw [show (perS fr ev y0 m0 d0 k).isSome = true by rw [HO.out]; rfl]
  clear hab
  have RR1 := Lib.hid (RR.out.below hb1); have B1 := Lib.hid (B0.out.trans (hb1.mono B0.out.size))
  clear hb1 c0 c1 c2 c3 c4 c5 c6 c7 hl0
  obtain ⟨cnt, hcnt⟩ : ∃ cnt, cnt = (min b 109573 + 1 - a).toNat := ⟨_, rfl⟩
  have hcb : (cnt : Int) = min b 109573 + 1 - a := by omega
  have hc4 : cnt ≤ 401 := by omega
  obtain ⟨ask, hask⟩ : ∃ ask, ask = askB fr mo da we n0 := ⟨_, rfl⟩
  have CN := Lib.hid hcnt; have CB := Lib.hid hcb; have ASK := Lib.hid hask; have C4 := Lib.hid hc4
  clear hcnt hcb hask hc4
  go_wp2_with fail
  go_loopg [11, 12] cnt (fun g ov nv wr => ∃ c : Nat, nv = .int .i64 (a + c) ∧ c ≤ cnt ∧ g = cnt - c ∧ wr.ownsRow w1.heap.size 3 1 ov (daysG ask a c).length ((daysG ask a c).map (Value.int .i64)) ∧ Below w1.heap.size w1 wr)
  case atStart => exact ⟨0, by simp, Nat.zero_le _, rfl, World.ownsRow_nil _ _ _ _, Below.refl _ _⟩
  case round =>
    obtain ⟨c, hnv, hc, hg, hown, hb⟩ := hrel
    obtain ⟨n, hn⟩ : ∃ n, n = a + (c : Int) := ⟨_, rfl⟩
    rw [← hn] at hnv
    subst hnv
    have hna : 1 ≤ n := by omega
    have hnb : n ≤ 110000 := by have := C4.out; omega
    have hcc := CB.out
    have N := Lib.hid hn; have G := Lib.hid hg; have OW := Lib.hid hown; have BL := Lib.hid hb
    by_cases hlt : c < cnt
    · have e1 : decide (n ≤ b) = true := decide_eq_true (by omega)
      have e2 : decide (n ≤ 109573) = true := decide_eq_true (by omega)
      have e3 : decide (n < 1) = false := decide_eq_false (by omega)
      have hnl : n ≤ 109573 := by omega
      have CL := Lib.hid hc; have LT := Lib.hid hlt
      clear hcc hn hg hown hb hc hlt
      have RX := Lib.hid (RR1.out.below BL.out)
      obtain ⟨⟨c0, c1, c2, c3, c4, c5, c6, c7⟩, _, hl0⟩ := id RX.out
      go_wp2_with fail
      refine (rwanted_day fr ev ct ti n0 n y0 m0 d0 _ _ _ _ mo da we pk _ RX.out.2.1.1 RX.out.2.1.2.1 RX.out.2.1.2.2.1 RX.out.2.1.2.2.2 D0.out N0.out hna hnl FR.out LN.out).mono ?_; rintro e w2 ⟨rfl, hb2⟩
      obtain ⟨ok, hok⟩ : ∃ ok, ok = askB fr mo da we n0 n := ⟨_, rfl⟩
      have AK := Lib.hid (show ask (a + (c : Int)) = ok by rw [hok, ASK.out, N.out])
      rw [← hok]
      clear hok
      have OW3 := Lib.hid (own_kept OW.out hb2)
      have BL3 := Lib.hid (BL.out.trans (hb2.mono BL.out.size))
      have hwc := BL3.out.size
      clear hb2 c0 c1 c2 c3 c4 c5 c6 c7 hl0
      cases ok
      · have E := Lib.hid (daysG_no (p := ask) (a := a) (c := c) AK.out)
        go_wp2
        go_roundg (cnt - (c + 1))
        case measure => rw [G.out]; have := LT.out; omega
        case rel => exact ⟨c + 1, congrArg (Value.int .i64) (by have := N.out; omega), LT.out, rfl, by rw [E.out]; exact OW3.out, BL3.out⟩
      · have E := Lib.hid (daysG_yes (p := ask) (a := a) (c := c) AK.out)
        obtain ⟨done, hdone⟩ : ∃ done, done = daysG ask a c := ⟨_, rfl⟩
        have hdl : done.length ≤ 401 := by rw [hdone]; exact Nat.le_trans (daysG_len _ _ _) (by have := CL.out; have := C4.out; omega)
        have hown := OW3.out
        rw [← hdone] at hown
        have DN := Lib.hid hdone; clear hdone
        go_wp2_with (at_builtin; refine wpList_append_lies _ rfl _ _ 22 rfl w1.heap.size 3 i0 _ 1 8 Tryd.underlying22 hi hz0 hz1 hz2 rfl (by decide) _ _ _ rfl (hown.alloc _) ⟨w2.heap.size, 0, none⟩ 1 1 [.int .i64 n] rfl rfl ?d1 ?d2 (by decide) (by unfold maxLen; omega) (by omega) (by simp; omega) _ rfl ?_)
        case d1 => exact cell_one_new _ _ _
        case d2 => intro u hu; simp at hu; subst hu; rfl
        intro g3 cap3 w5 hown3 hgrow3 hat3 hlt3
        have hB3 := Lib.hid ((BL3.out.alloc hwc (.cells #[.int .i64 n] 3)).grown hgrow3 (by simp; omega) (fun c hc => (hown.lt c hc).1))
        have O3 := Lib.hid hown3
        clear hown3 hgrow3 hat3 hlt3 hown
        go_wp2
        go_roundg (cnt - (c + 1))
        case measure => rw [G.out]; have := LT.out; omega
        case rel => exact ⟨c + 1, congrArg (Value.int .i64) (by have := N.out; omega), LT.out, rfl, by rw [E.out, ← DN.out, ← N.out, List.length_append, List.map_append]; exact O3.out, hB3.out⟩
    · have hce : c = cnt := by omega
      obtain ⟨L, hL⟩ : ∃ L, L = daysG ask a c := ⟨_, rfl⟩
      have hLl : L.length ≤ 401 := by rw [hL]; exact Nat.le_trans (daysG_len _ _ _) (by have := C4.out; omega)
      rw [← hL] at OW
      have LL := Lib.hid (show perL fr mo da we pk n0 a b = pickL L pk by rw [perL, hL, hce, CN.out, ASK.out])
      have e12 : decide (n ≤ b) = false ∨ (decide (n ≤ b) = true ∧ decide (n ≤ 109573) = false) := by
        by_cases h : n ≤ b
        · exact .inr ⟨decide_eq_true h, decide_eq_false (by omega)⟩
        · exact .inl (decide_eq_false h)
      have LR := Lib.hid (intsR_of_owns OW.out)
      have FRV := Lib.hid (fun g hg => Nat.le_trans B1.out.size (ownBlock_ge OW.out g hg) : FreshV w.heap.size _)
      have BB := Lib.hid (B1.out.trans (BL.out.mono B1.out.size))
      have RX := Lib.hid (RR1.out.below BL.out)
      clear hcc hn hg hown hb hc hlt hce hL OW N G
      obtain ⟨la, lc, rfl, lc1, lc2, hlc⟩ := intsR_open LR.out
      unfold maxLen at lc2
      have LC := Lib.hid hlc; clear hlc
      obtain ⟨⟨c0, c1, c2, c3, c4, c5, c6, c7⟩, _, hl0⟩ := id RX.out
      by_cases hpk : pk = []
      · have P := Lib.hid (show pickL L pk = L by rw [pickL, if_pos hpk])
        have z1 : ((pk.length : Int) == 0) = true := by rw [hpk]; rfl
        clear hpk
        rcases e12 with e1 | ⟨e1, e2⟩
        all_goals
          go_wp2
          go_ret2
          exact ⟨_, rfl, ⟨by rw [LL.out, P.out]; exact LR.out, FRV.out⟩, BB.out⟩
      · have P := Lib.hid (show pickL L pk = pickG pk L.length 0 L by rw [pickL, if_neg hpk])
        have z1 : ((pk.length : Int) == 0) = false := by rw [beq_eq_false_iff_ne]; intro h; exact hpk (List.length_eq_zero_iff.1 (by omega))
        clear hpk
        obtain ⟨wz, hwz⟩ : ∃ x, x = wr := ⟨_, rfl⟩
        rw [← hwz] at c0 c1 c2 c3 c4 c5 c6 c7 hl0 RX BB LR LC
        rw [← hwz]
        clear hwz BL
        rcases e12 with e1 | ⟨e1, e2⟩
        all_goals
          go_wp2_with fail
          clear c0 c1 c2 c3 c4 c5 c6 c7 hl0
          go_loopg [14, 15] L.length (fun g ov iv wx => ∃ k : Nat, k ≤ L.length ∧ iv = .int .i64 k ∧ g = L.length - k ∧ wx.ownsRow wz.heap.size 3 1 ov (pickG pk L.length 0 (L.take k)).length ((pickG pk L.length 0 (L.take k)).map (Value.int .i64)) ∧ Below wz.heap.size wz wx)
          case atStart => exact ⟨0, Nat.zero_le _, rfl, rfl, World.ownsRow_nil _ _ _ _, Below.refl _ _⟩
          case round =>
            obtain ⟨k2, hk, rfl, hg, hown, hb⟩ := hrel
            have G := Lib.hid hg; clear hg
            have BX := Lib.hid hb
            have RY := Lib.hid (RX.out.below BX.out)
            obtain ⟨⟨c0, c1, c2, c3, c4, c5, c6, c7⟩, _, hl0⟩ := id RY.out
            by_cases hlt : k2 < L.length
            · obtain ⟨lb, lo, rfl, hcs⟩ := LC.out (by omega)
              have u0 := cell_below BX.out (hcs k2 hlt)
              obtain ⟨x, hx⟩ : ∃ x, x = L[k2] := ⟨_, rfl⟩
              rw [← hx] at u0
              have X := Lib.hid hx
              have hpl := Nat.le_trans (pickG_len pk L.length (L.take k2) 0) (Nat.le_of_eq (List.length_take))
              obtain ⟨done, hdone⟩ : ∃ done, done = pickG pk L.length 0 (L.take k2) := ⟨_, rfl⟩
              rw [← hdone] at hown hpl
              have hdl : done.length ≤ 1000 := by omega
              have hbs := hb.size
              have hlb : lb < wr.heap.size := World.block_lt_of_cell? wr _ u0
              have DN := Lib.hid hdone; have OW := Lib.hid hown
              clear hx hcs hdone hown hpl hb
              obtain ⟨p1, hp1⟩ : ∃ p1, p1 = inB pk ((k2 : Int) + 1) := ⟨_, rfl⟩
              obtain ⟨p2, hp2⟩ : ∃ p2, p2 = inB pk ((k2 : Int) - L.length) := ⟨_, rfl⟩
              have P1 := Lib.hid hp1; have P2 := Lib.hid hp2
              have PB := Lib.hid (show pickB pk L.length k2 = (p1 || p2) by rw [pickB, ← hp1, ← hp2])
              clear hp1 hp2
              have hk0 : (0 : Int) ≤ (k2 : Int) := Int.natCast_nonneg _
              go_wp2_with fail
              refine (rin_any _ pk _ _ RY.out.2.1.2.2.2).mono ?_; rintro e w' ⟨rfl, rfl⟩
              rw [← P1.out]
              go_wp2_with fail
              refine (rin_any _ pk _ _ RY.out.2.1.2.2.2).mono ?_; rintro e w' ⟨rfl, rfl⟩
              rw [← P2.out]
              clear c0 c1 c2 c3 c4 c5 c6 c7 hl0
              cases hpp : (p1 || p2)
              · have E := Lib.hid (pick_no hlt (PB.out.trans hpp))
                obtain ⟨rfl, rfl⟩ : p1 = false ∧ p2 = false := by revert hpp; cases p1 <;> cases p2 <;> simp
                clear hpp
                go_wp2
                go_roundg (L.length - (k2 + 1))
                case measure => rw [G.out]; omega
                case rel => exact ⟨k2 + 1, by omega, by go_num, rfl, by rw [E.out, ← DN.out]; exact OW.out, BX.out⟩
              · have E := Lib.hid (pick_yes hlt (PB.out.trans hpp))
                have hown := OW.out
                have hpq : p1 = true ∨ (p1 = false ∧ p2 = true) := by revert hpp; cases p1 <;> cases p2 <;> simp
                clear hpp
                rcases hpq with rfl | ⟨rfl, rfl⟩
                all_goals
                  go_wp2_with (at_builtin; refine wpList_append_lies _ rfl _ _ 22 rfl wz.heap.size 3 i0 _ 1 8 Tryd.underlying22 hi hz0 hz1 hz2 rfl (by decide) _ _ _ rfl (hown.alloc _) ⟨wr.heap.size, 0, none⟩ 1 1 [.int .i64 x] rfl rfl ?d1 ?d2 (by decide) (by unfold maxLen; omega) (by omega) (by simp; omega) _ rfl ?_)
                  case d1 => exact cell_one_new _ _ _
                  case d2 => intro u hu; simp at hu; subst hu; rfl
                  intro g3 cap3 w3 hown3 hgrow3 hat3 hlt3
                  have hB3 := Lib.hid ((BX.out.alloc hbs (.cells #[.int .i64 x] 3)).grown hgrow3 (by simp; omega) (fun c hc => (hown.lt c hc).1))
                  have O3 := Lib.hid hown3
                  clear hown3 hgrow3 hat3 hlt3
                  go_wp2
                  go_roundg (L.length - (k2 + 1))
                  case measure => rw [G.out]; omega
                  case rel => exact ⟨k2 + 1, by omega, by go_num, rfl, by rw [E.out, ← DN.out, ← X.out, List.length_append, List.map_append]; exact O3.out, hB3.out⟩
            · have hke : k2 = L.length := by omega
              rw [hke, List.take_length] at hown
              have OW := Lib.hid hown
              have hge : ¬ (k2 : Int) < (L.length : Int) := by omega
              clear hown hb hke
              go_wp2
              go_ret2
              exact ⟨_, rfl, ⟨by rw [LL.out, P.out]; exact intsR_of_owns OW.out, fun g hg => Nat.le_trans BB.out.size (ownBlock_ge OW.out g hg)⟩, BB.out.trans (BX.out.mono BB.out.size)⟩

theorem rperiod_any (fr ev ct ti k a b y0 m0 d0 n0 : Int) (vm vd vw vp : Value) (mo da : List Int) (we : List (Int × Int)) (pk : List Int) (w : World)
    (h1 : IntsR w vm mo) (h2 : IntsR w vd da) (h3 : PairsR w vw we) (h4 : IntsR w vp pk) (hd0 : Cal.dateB y0 m0 d0 = true) (hn0 : Cal.num y0 m0 d0 = n0) (hF : ruleF fr ev ct ti mo da we pk = 0) (ho : perS fr ev y0 m0 d0 k = some (a, b)) :
    Calls Tryd.prog 72 #[.agg #[.int .i64 fr, .int .i64 ev, .int .i64 ct, .int .i64 ti, vm, vd, vw, vp], .int .i64 n0, .int .i64 k] w
      fun e w' => ∃ r, e = .returned (.tuple #[r, .bool true]) ∧ IntsR w' r (perL fr mo da we pk n0 a b) ∧ Below w.heap.size w w' :=
  (rperiod_fr fr ev ct ti k a b y0 m0 d0 n0 vm vd vw vp mo da we pk w h1 h2 h3 h4 hd0 hn0 hF ho).mono fun _ _ ⟨r, h1, h2, h3⟩ => ⟨r, h1, h2.1, h3⟩

end Go.Proofs.YtdpngbjlljgoaaaDoor
