/- The law PeriodHolds: days of a period are its own, rising; with a pick there are no more: for every rule. The walk. -/
import Derived.Test.YtonoiaimknkpfaaDoorPerH
namespace Go.Proofs.YtonoiaimknkpfaaDoor
open Go.RowKit
set_option linter.unusedSimpArgs false
set_option linter.unusedVariables false

set_option maxRecDepth 100000 in
set_option maxHeartbeats 16000000 in
theorem periodHolds_ok (fr ev ct ti st k a b y m d : Int) (vm vd vw vp : Value) (mo da : List Int) (we : List (Int × Int)) (pk : List Int) (o2 : Option (Int × Int)) (w : World) (hw : Months w)
    (h1 : IntsR w vm mo) (h2 : IntsR w vd da) (h3 : PairsR w vw we) (h4 : IntsR w vp pk) (hd : Cal.dateB y m d = true) (hst : Cal.num y m d = st)
    (hF : ruleF fr ev ct ti mo da we pk = 0) (hF2 : ruleF fr ev ct ti mo da we [] = 0) (ho : perS fr ev y m d k = some (a, b)) (ho2 : PerO fr ev st (k + 1) o2) (hnx : ∀ p, o2 = some p → b < p.1) (hk : 0 ≤ k ∧ k ≤ 109573) :
    Calls Tryd.prog 8 #[.agg #[.int .i64 fr, .int .i64 ev, .int .i64 ct, .int .i64 ti, vm, vd, vw, vp], .int .i64 st, .int .i64 k] w fun e w' => e = .returned (.bool true) ∧ Below w.heap.size w w' := by
  obtain ⟨am, km, rfl, _, m2, _⟩ := intsR_open h1
  obtain ⟨ad, kd, rfl, _, d2, _⟩ := intsR_open h2
  obtain ⟨aw, kw, rfl, _, v2, _⟩ := pairsR_open h3
  obtain ⟨ap, kp, rfl, _, p2, _⟩ := intsR_open h4
  unfold maxLen at m2 d2 v2 p2
  obtain ⟨k1, k2⟩ := hk
  have hR := rlAt_new w 51 fr ev ct ti _ _ _ _ mo da we pk h1 h2 h3 h4
  have hb0 : Below w.heap.size w (w.alloc (.cells #[.int .i64 fr, .int .i64 ev, .int .i64 ct, .int .i64 ti, .slice am mo.length km, .slice ad da.length kd, .slice aw we.length kw, .slice ap pk.length kp] 51)) := (Below.refl _ _).alloc (Nat.le_refl _) _
  have hw0 := hw.below hb0
  have hbd := perS_bd hd (ruleF_0 hF).2.1.1 ho
  have q0 : PerO fr ev st k (some (a, b)) := .inr ⟨y, m, d, hd, hst, ho.symm⟩
  have T0 := Lib.hid (show perT (ruleF fr ev ct ti mo da we pk) (some (a, b)) = (0, a, b) by rw [hF]; rfl)
  have D := Lib.hid hd; have ST := Lib.hid hst; have FF := Lib.hid hF; have FF2 := Lib.hid hF2; have HO := Lib.hid ho; have HO2 := Lib.hid ho2; have NX := Lib.hid hnx; have Q0 := Lib.hid q0; have BD := Lib.hid hbd
  clear hd hst hF hF2 ho ho2 hnx q0 hbd h1 h2 h3 h4 hw
  go_enter Tryd.func8, Tryd.ntmps8
  go_wp2_with fail
  refine (pdaysL 2 1 0 0 1 46341 46347 2026 11 15 46340 _ _ _ _ [] [] [] [] _ hw0 (intsR_nil _) (intsR_nil _) (reads_nil _ 2) (intsR_nil _) fact_date.1 fact_date.2 (perF_plain 2 1 (.inr rfl) (by decide)) fact_per).mono ?_; rintro e w1 ⟨r1, rfl, hr1, hb1⟩
  rw [fact_list] at hr1
  obtain ⟨fa, fc, rfl, f1, f2, hfc⟩ := intsR_open hr1
  obtain ⟨fb, fo, rfl, hfcell⟩ := hfc (by decide)
  have c0 := hfcell 0 (by decide); simp at c0
  have hR1 := hR.below hb1; have hw1 := hw0.below hb1; have hbb := hb0.trans (hb1.mono hb0.size)
  clear hr1 hfc hfcell hb1 hR hw0 hb0 f1 f2
  have B := Lib.hid hbb; have RR := Lib.hid hR1; have W := Lib.hid hw1
  obtain ⟨⟨e0, e1, e2, e3, e4, e5, e6, e7⟩, _, hl0⟩ := id hR1
  clear hbb hR1 hw1
  go_wp2_with fail
  refine (pdaysL fr ev ct ti k a b y m d st _ _ _ _ mo da we pk _ W.out RR.out.2.1.1 RR.out.2.1.2.1 RR.out.2.1.2.2.1 RR.out.2.1.2.2.2 D.out ST.out FF.out HO.out).mono ?_; rintro e w2 ⟨r2, rfl, hr2, hb2⟩
  obtain ⟨L, hL⟩ : ∃ L, L = perL fr mo da we pk st a b := ⟨_, rfl⟩
  rw [← hL] at hr2
  have LL := Lib.hid hL; clear hL
  have hR2 := RR.out.below hb2; have hw2 := W.out.below hb2; have hbb := B.out.trans (hb2.mono B.out.size)
  obtain ⟨la, lc, rfl, l1, l2, hlc⟩ := intsR_open hr2
  unfold maxLen at l2
  have LC := Lib.hid hlc
  have B := Lib.hid hbb; have RR := Lib.hid hR2; have W := Lib.hid hw2
  clear hr2 hlc hb2 hbb hR2 hw2 c0 e0 e1 e2 e3 e4 e5 e6 e7 hl0
  obtain ⟨⟨e0, e1, e2, e3, e4, e5, e6, e7⟩, _, hl0⟩ := id RR.out
  go_wp2_with fail
  refine (begin_any fr ev ct ti st k _ _ _ _ mo da we pk (some (a, b)) _ W.out RR.out.2.1.1 RR.out.2.1.2.1 RR.out.2.1.2.2.1 RR.out.2.1.2.2.2 Q0.out).mono ?_; rintro e w3 ⟨rfl, hb3⟩
  rw [T0.out, errV_0]
  have LC := Lib.hid (fun h => (LC.out h : ∃ b off, la = some ⟨b, off, none⟩ ∧ _) |>.imp fun b x => x.imp fun off y => ⟨y.1, fun j hj => cell_below hb3 (y.2 j hj)⟩ : 0 < L.length → ∃ b off, la = some ⟨b, off, none⟩ ∧ ∀ j (hj : j < L.length), w3.cell? ⟨b, off + j, none⟩ = some (.int .i64 L[j]))
  have B := Lib.hid (B.out.trans (hb3.mono B.out.size)); have RR := Lib.hid (RR.out.below hb3); have W := Lib.hid (W.out.below hb3)
  clear hb3 e0 e1 e2 e3 e4 e5 e6 e7 hl0
  obtain ⟨⟨e0, e1, e2, e3, e4, e5, e6, e7⟩, _, hl0⟩ := id RR.out
  go_wp2_with fail
  refine (begin_any fr ev ct ti st (k + 1) _ _ _ _ mo da we pk o2 _ W.out RR.out.2.1.1 RR.out.2.1.2.1 RR.out.2.1.2.2.1 RR.out.2.1.2.2.2 HO2.out).mono ?_; rintro e w4 ⟨rfl, hb4⟩
  have LC := Lib.hid (fun h => (LC.out h : ∃ b off, la = some ⟨b, off, none⟩ ∧ _) |>.imp fun b x => x.imp fun off y => ⟨y.1, fun j hj => cell_below hb4 (y.2 j hj)⟩ : 0 < L.length → ∃ b off, la = some ⟨b, off, none⟩ ∧ ∀ j (hj : j < L.length), w4.cell? ⟨b, off + j, none⟩ = some (.int .i64 L[j]))
  have B := Lib.hid (B.out.trans (hb4.mono B.out.size)); have RR := Lib.hid (RR.out.below hb4); have W := Lib.hid (W.out.below hb4)
  clear hb4 e0 e1 e2 e3 e4 e5 e6 e7 hl0
  obtain ⟨⟨e0, e1, e2, e3, e4, e5, e6, e7⟩, _, hl0⟩ := id RR.out
  have hmem := Lib.hid (fun x (hx : x ∈ L) => (by rw [LL.out] at hx; exact perL_bd BD.out.1.1 x hx : a ≤ x ∧ x ≤ b ∧ 1 ≤ x ∧ x ≤ 109573))
  have hup := Lib.hid (by rw [LL.out]; exact perL_up fr mo da we pk st a b : L.Pairwise (· < ·))
  obtain ⟨n2, E2⟩ : ∃ n2 : Int, Hid ((perT (ruleF fr ev ct ti mo da we pk) o2 = (1, 0, 0) ∧ n2 = 0) ∨ (∃ c : Int, perT (ruleF fr ev ct ti mo da we pk) o2 = (0, n2, c) ∧ b < n2)) := by
    rw [FF.out]
    cases ho : o2 with
    | none => exact ⟨0, Lib.hid (.inl ⟨rfl, rfl⟩)⟩
    | some p => exact ⟨p.1, Lib.hid (.inr ⟨p.2, rfl, NX.out p ho⟩)⟩
  have hnil : ∃ v : Value, Hid (errV (perT (ruleF fr ev ct ti mo da we pk) o2).1 = v ∧ (perT (ruleF fr ev ct ti mo da we pk) o2).2.1 = n2 ∧ (v = .nilIface ∧ b < n2 ∨ v = .iface 58 (.int .i64 1))) := by
    rcases E2.out with ⟨h, rfl⟩ | ⟨c, h, hlt⟩
    · exact ⟨_, Lib.hid ⟨rfl, by rw [h], .inr (by rw [h]; rfl)⟩⟩
    · exact ⟨_, Lib.hid ⟨rfl, by rw [h], .inl ⟨by rw [h]; rfl, hlt⟩⟩⟩
  obtain ⟨v, V⟩ := hnil
  rw [V.out.1, V.out.2.1]
  have hvv := V.out.2.2
  clear E2 V
  rcases hvv with ⟨rfl, hbn⟩ | rfl
  all_goals
    go_wp2_with fail
    go_loopg [14] L.length (fun g iv wr => ∃ c : Nat, iv = .int .i64 c ∧ c ≤ L.length ∧ g = L.length - c ∧ Below w4.heap.size w4 wr)
    case atStart => exact ⟨0, rfl, Nat.zero_le _, rfl, Below.refl _ _⟩
    case round =>
      obtain ⟨c, rfl, hc, hg, hb⟩ := hrel
      have G := Lib.hid hg; have BL := Lib.hid hb; clear hg hb
      by_cases hlt : c < L.length
      · obtain ⟨lb, lo, rfl, hcs⟩ := LC.out (by omega)
        obtain ⟨x1, x2, x3, x4⟩ := hmem.out L[c] (List.getElem_mem hlt)
        cases c with
        | zero =>
          have g0 := cell_below BL.out (hcs 0 hlt)
          obtain ⟨x, hx⟩ : ∃ x, x = L[0] := ⟨_, rfl⟩
          rw [← hx] at g0 x1 x2 x3 x4
          rw [Nat.add_zero] at g0
          clear hx hcs
          have y1 : decide (x < a) = false := decide_eq_false (by omega)
          have y2 : decide (x < 1) = false := decide_eq_false (by omega)
          have y3 : decide (109573 < x) = false := decide_eq_false (by omega)
          try have y4 : decide (n2 ≤ x) = false := decide_eq_false (by omega)
          go_upto_region 14 with fail
          refine wp_region_quiet_lit (by kernel_rfl) (by kernel_rfl) ?_
          try simp only [List.append_eq, List.cons_append, List.nil_append]
          repeat (go_big_quiet_step ((go_at_call 15; exact quiet_l (last_any _))))
          refine wpQuiet_nil ?_
          intro _ hw'
          obtain ⟨nq, hw''⟩ := hw'
          subst hw''
          go_wp2
          go_roundg (L.length - (0 + 1))
          case measure => rw [G.out]; omega
          case rel => exact ⟨0 + 1, by go_num, by omega, rfl, below_drewN BL.out _⟩
        | succ j =>
          have g0 := cell_below BL.out (hcs j (by omega))
          have g1 := cell_below BL.out (hcs (j + 1) hlt)
          have hpx := up_at hup.out j hlt
          obtain ⟨x, hx⟩ : ∃ x, x = L[j + 1] := ⟨_, rfl⟩
          obtain ⟨p, hp⟩ : ∃ p, p = L[j] := ⟨_, rfl⟩
          rw [← hx] at g1 x1 x2 x3 x4 hpx
          rw [← hp] at g0 hpx
          clear hx hp hcs
          have y1 : decide (x < a) = false := decide_eq_false (by omega)
          have y2 : decide (x < 1) = false := decide_eq_false (by omega)
          have y3 : decide (109573 < x) = false := decide_eq_false (by omega)
          try have y4 : decide (n2 ≤ x) = false := decide_eq_false (by omega)
          have y5 : decide (x ≤ p) = false := decide_eq_false (by omega)
          have y6 : decide ((0 : Int) < (j : Int) + 1) = true := decide_eq_true (by omega)
          go_upto_region 14 with fail
          refine wp_region_quiet_lit (by kernel_rfl) (by kernel_rfl) ?_
          try simp only [List.append_eq, List.cons_append, List.nil_append]
          repeat (go_big_quiet_step ((go_at_call 15; exact quiet_l (last_any _))))
          refine wpQuiet_nil ?_
          intro _ hw'
          obtain ⟨nq, hw''⟩ := hw'
          subst hw''
          go_wp2
          go_roundg (L.length - (j + 1 + 1))
          case measure => rw [G.out]; omega
          case rel => exact ⟨j + 1 + 1, by go_num, by omega, rfl, below_drewN BL.out _⟩
      · have hce : c = L.length := by omega
        have H2 := Lib.hid (RR.out.below BL.out)
        have W2 := Lib.hid (W.out.below BL.out)
        have B2 := Lib.hid (B.out.trans (BL.out.mono B.out.size))
        have LC2 := Lib.hid (fun h => (LC.out h : ∃ b off, la = some ⟨b, off, none⟩ ∧ _) |>.imp fun b x => x.imp fun off y => ⟨y.1, fun j hj => cell_below BL.out (y.2 j hj)⟩ : 0 < L.length → ∃ b off, la = some ⟨b, off, none⟩ ∧ ∀ j (hj : j < L.length), wr.cell? ⟨b, off + j, none⟩ = some (.int .i64 L[j]))
        clear hce e0 e1 e2 e3 e4 e5 e6 e7 hl0 G
        obtain ⟨⟨e0, e1, e2, e3, e4, e5, e6, e7⟩, _, hl0⟩ := id H2.out
        go_wp2_with fail
        refine (pdaysL fr ev ct ti k a b y m d st _ _ _ _ mo da we [] _ (W2.out.alloc _) (H2.out.2.1.1.below ((Below.refl _ _).alloc (Nat.le_refl _) _)) (H2.out.2.1.2.1.below ((Below.refl _ _).alloc (Nat.le_refl _) _)) (H2.out.2.1.2.2.1.below ((Below.refl _ _).alloc (Nat.le_refl _) _)) (intsR_nil _) D.out ST.out FF2.out HO.out).mono ?_; rintro e w5 ⟨r5, rfl, hr5, hb5⟩
        obtain ⟨M, hM⟩ : ∃ M, M = perL fr mo da we [] st a b := ⟨_, rfl⟩
        rw [← hM] at hr5
        have MM := Lib.hid hM; clear hM
        have hin := Lib.hid (fun x (hx : x ∈ L) => (by rw [LL.out] at hx; rw [MM.out]; exact perL_in fr mo da we pk st a b x hx : x ∈ M))
        have hb45 : Below wr.heap.size wr w5 := ((Below.refl _ _).alloc (Nat.le_refl _) _).trans (hb5.mono (by simp))
        have LC3 := Lib.hid (fun h => (LC2.out h : ∃ b off, la = some ⟨b, off, none⟩ ∧ _) |>.imp fun b x => x.imp fun off y => ⟨y.1, fun j hj => cell_below hb45 (y.2 j hj)⟩ : 0 < L.length → ∃ b off, la = some ⟨b, off, none⟩ ∧ ∀ j (hj : j < L.length), w5.cell? ⟨b, off + j, none⟩ = some (.int .i64 L[j]))
        have H3 := Lib.hid (H2.out.below hb45); have B3 := Lib.hid (B2.out.trans (hb45.mono B2.out.size))
        have IM := Lib.hid hr5
        obtain ⟨ma, mc, rfl, _, n2', _⟩ := intsR_open hr5
        unfold maxLen at n2'
        clear hr5 hb5 hb45 e0 e1 e2 e3 e4 e5 e6 e7 hl0
        go_wp2_with fail
        go_loopg [17] L.length (fun g iv wx => ∃ c : Nat, iv = .int .i64 c ∧ c ≤ L.length ∧ g = L.length - c ∧ wx = w5)
        case atStart => exact ⟨0, rfl, Nat.zero_le _, rfl, rfl⟩
        case round =>
          obtain ⟨c, rfl, hc, hg, rfl⟩ := hrel
          have G := Lib.hid hg; clear hg
          by_cases hlt : c < L.length
          · obtain ⟨lb, lo, rfl, hcs⟩ := LC3.out (by omega)
            have g0 := hcs c hlt
            have z := Lib.hid (show inB M L[c] = true by rw [inB, decide_eq_true_eq]; exact hin.out _ (List.getElem_mem hlt))
            obtain ⟨x, hx⟩ : ∃ x, x = L[c] := ⟨_, rfl⟩
            rw [← hx] at g0 z
            clear hx hcs
            go_wp2_with fail
            refine (rin_any _ M x _ IM.out).mono ?_; rintro e w' ⟨rfl, rfl⟩
            rw [z.out]
            go_wp2
            go_roundg (L.length - (c + 1))
            case measure => rw [G.out]; omega
            case rel => exact ⟨c + 1, by go_num, by omega, rfl, rfl⟩
          · have hce : c = L.length := by omega
            obtain ⟨⟨e0, e1, e2, e3, e4, e5, e6, e7⟩, _, hl0⟩ := id H3.out
            by_cases hpk : pk.length = 0
            · have HLM := Lib.hid (show (M.length : Int) = (L.length : Int) by rw [MM.out, LL.out, List.length_eq_zero_iff.1 hpk])
              have z2 : decide ((0 : Int) < (pk.length : Int)) = false := decide_eq_false (by omega)
              have z3 : decide (0 < pk.length) = false := decide_eq_false (by omega)
              clear hce hpk
              go_wp2
              go_ret
              exact ⟨by simp; exact HLM.out, B3.out⟩
            · have z2 : decide ((0 : Int) < (pk.length : Int)) = true := decide_eq_true (by omega)
              have z3 : decide (0 < pk.length) = true := decide_eq_true (by omega)
              clear hce hpk
              go_wp2
              go_ret
              exact ⟨by simp, B3.out⟩

set_option maxRecDepth 100000 in
set_option maxHeartbeats 8000000 in
theorem periodHolds_bad (fr ev ct ti st k : Int) (vm vd vw vp : Value) (mo da : List Int) (we : List (Int × Int)) (pk : List Int) (o : Option (Int × Int)) (w : World) (hw : Months w)
    (h1 : IntsR w vm mo) (h2 : IntsR w vd da) (h3 : PairsR w vw we) (h4 : IntsR w vp pk) (ho : PerO fr ev st k o) (hF : (perT (ruleF fr ev ct ti mo da we pk) o).1 ≠ 0) :
    Calls Tryd.prog 8 #[.agg #[.int .i64 fr, .int .i64 ev, .int .i64 ct, .int .i64 ti, vm, vd, vw, vp], .int .i64 st, .int .i64 k] w fun e w' => e = .returned (.bool true) ∧ Below w.heap.size w w' := by
  obtain ⟨am, km, rfl, _, m2, _⟩ := intsR_open h1
  obtain ⟨ad, kd, rfl, _, d2, _⟩ := intsR_open h2
  obtain ⟨aw, kw, rfl, _, v2, _⟩ := pairsR_open h3
  obtain ⟨ap, kp, rfl, _, p2, _⟩ := intsR_open h4
  have hR := rlAt_new w 51 fr ev ct ti _ _ _ _ mo da we pk h1 h2 h3 h4
  have hb0 : Below w.heap.size w (w.alloc (.cells #[.int .i64 fr, .int .i64 ev, .int .i64 ct, .int .i64 ti, .slice am mo.length km, .slice ad da.length kd, .slice aw we.length kw, .slice ap pk.length kp] 51)) := (Below.refl _ _).alloc (Nat.le_refl _) _
  have hw0 := hw.below hb0
  have HF := Lib.hid hF; have HO := Lib.hid ho
  clear ho hF h1 h2 h3 h4 hw
  go_enter Tryd.func8, Tryd.ntmps8
  go_wp2_with fail
  refine (pdaysL 2 1 0 0 1 46341 46347 2026 11 15 46340 _ _ _ _ [] [] [] [] _ hw0 (intsR_nil _) (intsR_nil _) (reads_nil _ 2) (intsR_nil _) fact_date.1 fact_date.2 (perF_plain 2 1 (.inr rfl) (by decide)) fact_per).mono ?_; rintro e w1 ⟨r1, rfl, hr1, hb1⟩
  rw [fact_list] at hr1
  obtain ⟨fa, fc, rfl, f1, f2, hfc⟩ := intsR_open hr1
  obtain ⟨fb, fo, rfl, hfcell⟩ := hfc (by decide)
  have c0 := hfcell 0 (by decide); simp at c0
  have hR1 := hR.below hb1; have hw1 := hw0.below hb1; have hbb := hb0.trans (hb1.mono hb0.size)
  clear hr1 hfc hfcell hb1 hR hw0 hb0 f1 f2
  have B := Lib.hid hbb; have RR := Lib.hid hR1; have W := Lib.hid hw1
  obtain ⟨⟨e0, e1, e2, e3, e4, e5, e6, e7⟩, _, hl0⟩ := id hR1
  clear hbb hR1 hw1
  go_wp2_with fail
  refine (pdays_no fr ev ct ti st k _ _ _ _ mo da we pk o _ W.out RR.out.2.1.1 RR.out.2.1.2.1 RR.out.2.1.2.2.1 RR.out.2.1.2.2.2 HO.out HF.out).mono ?_; rintro e w2 ⟨rfl, hb2⟩
  rw [show errV (perT (ruleF fr ev ct ti mo da we pk) o).1 = .iface 58 (.int .i64 (perT (ruleF fr ev ct ti mo da we pk) o).1) by rw [errV, if_neg HF.out]]
  have B2 := Lib.hid (B.out.trans (hb2.mono B.out.size))
  clear hb2 e0 e1 e2 e3 e4 e5 e6 e7 hl0 c0
  go_wp2
  go_ret
  exact ⟨rfl, B2.out⟩

theorem ruleF_nopick {fr ev ct ti : Int} {mo da : List Int} {we : List (Int × Int)} {pk : List Int} (h : ruleF fr ev ct ti mo da we pk = 0) : ruleF fr ev ct ti mo da we [] = 0 := by
  unfold ruleF at h ⊢
  by_cases h1 : numsB fr ev ct ti = true
  · rw [if_pos h1] at h ⊢
    by_cases h2 : (ct != 0 && ti != 0) = true
    · rw [if_pos h2] at h; omega
    rw [if_neg h2] at h ⊢
    by_cases h3 : fullB mo da we pk = true
    · rw [if_pos h3] at h; omega
    rw [if_neg h3] at h
    rw [if_neg (by simp [fullB] at h3 ⊢; omega)]
    by_cases h4 : inB2 mo da (we.any nth2B) pk = true
    · rw [if_pos h4] at h
      rw [if_pos (by simp only [inB2, Bool.and_eq_true] at h4 ⊢; exact ⟨h4.1, by simp [withinB]⟩)]
      by_cases h5 : upB mo da we pk = true
      · rw [if_pos h5] at h
        rw [if_pos (by simp only [upB, Bool.and_eq_true] at h5 ⊢; exact ⟨h5.1, by simp [risesB]⟩)]
        by_cases h6 : shapeB fr mo da we pk = true
        · rw [if_pos h6] at h; omega
        · rw [if_neg (by
            intro h7
            apply h6
            simp only [shapeB, Bool.or_eq_true] at h7 ⊢
            rcases h7 with h7 | h7
            · exact .inl h7
            · simp at h7)]
      · rw [if_neg h5] at h; omega
    · rw [if_neg h4] at h; omega
  · rw [if_neg h1] at h; omega

theorem periodHolds_top (fr ev ct ti : Int) (vm : Value) (mo : List Int) (vd : Value) (da : List Int) (vw : Value) (we : List (Int × Int)) (vp : Value) (pk : List Int) (st k : Int) (w : World) (hw : Months w)
    (_ : (Lit.int .i64 fr).wf = true) (_ : (Lit.int .i64 ev).wf = true) (_ : (Lit.int .i64 ct).wf = true) (_ : (Lit.int .i64 ti).wf = true)
    (h1 : IntsR w vm mo) (h2 : IntsR w vd da) (h3 : PairsR w vw we) (h4 : IntsR w vp pk) (_ : (Lit.int .i64 st).wf = true) (_ : (Lit.int .i64 k).wf = true) :
    Calls Tryd.prog 8 #[.agg #[.int .i64 fr, .int .i64 ev, .int .i64 ct, .int .i64 ti, vm, vd, vw, vp], .int .i64 st, .int .i64 k] w fun e w' => e = .returned (.bool true) ∧ Below w.heap.size w w' := by
  obtain ⟨o, ho⟩ := perO_ex fr ev st k
  by_cases hF : (perT (ruleF fr ev ct ti mo da we pk) o).1 = 0
  · have hF0 : ruleF fr ev ct ti mo da we pk = 0 := by
      unfold perT at hF
      by_cases h : ruleF fr ev ct ti mo da we pk ≠ 0
      · rw [if_pos h] at hF; exact hF
      · omega
    rw [hF0] at hF
    cases o with
    | none => exact absurd hF (by decide)
    | some p =>
      obtain ⟨a, b⟩ := p
      rcases ho with ⟨_, h⟩ | ⟨y, m, d, hd, hst, ho⟩
      · cases h
      · obtain ⟨o2, ho2⟩ := perO_ex fr ev st (k + 1)
        have he := (ruleF_0 hF0).2.1
        have hk : 0 ≤ k ∧ k ≤ 109573 := by
          have := ho; unfold perS at this
          split at this
          · cases this
          · omega
        refine periodHolds_ok fr ev ct ti st k a b y m d vm vd vw vp mo da we pk o2 w hw h1 h2 h3 h4 hd hst hF0 (ruleF_nopick hF0) ho.symm ho2 ?_ hk
        rintro ⟨a', b'⟩ rfl
        rcases ho2 with ⟨_, h⟩ | ⟨y', m', d', hd', hst', ho2⟩
        · cases h
        · obtain ⟨rfl, rfl, rfl⟩ := Cal.num_inj hd' hd (hst'.trans hst.symm)
          exact perS_next hd he ho.symm ho2.symm
  · exact periodHolds_bad fr ev ct ti st k vm vd vw vp mo da we pk o w hw h1 h2 h3 h4 ho hF

end Go.Proofs.YtonoiaimknkpfaaDoor
