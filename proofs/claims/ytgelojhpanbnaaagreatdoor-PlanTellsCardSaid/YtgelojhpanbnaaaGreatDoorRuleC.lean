/- The contract of rule.Check: what is wrong with any rule. No condition. -/
import Derived.Test.YtgelojhpanbnaaaGreatDoorQ04
import Derived.Deep.DeepCutAuto
import Derived.Outline
namespace Go.Proofs.YtgelojhpanbnaaaGreatDoor
open Go.RowKit
set_option linter.unusedSimpArgs false
set_option linter.unusedVariables false

def RlAt (wx : World) (b : Nat) (fr ev ct ti : Int) (vm vd vw vp : Value) (mo da : List Int) (we : List (Int × Int)) (pk : List Int) : Prop :=
  (wx.cell? ⟨b, 0, none⟩ = some (.int .i64 fr) ∧ wx.cell? ⟨b, 1, none⟩ = some (.int .i64 ev) ∧ wx.cell? ⟨b, 2, none⟩ = some (.int .i64 ct) ∧ wx.cell? ⟨b, 3, none⟩ = some (.int .i64 ti) ∧
    wx.cell? ⟨b, 4, none⟩ = some vm ∧ wx.cell? ⟨b, 5, none⟩ = some vd ∧ wx.cell? ⟨b, 6, none⟩ = some vw ∧ wx.cell? ⟨b, 7, none⟩ = some vp) ∧
  (IntsR wx vm mo ∧ IntsR wx vd da ∧ PairsR wx vw we ∧ IntsR wx vp pk) ∧ b < wx.heap.size

theorem RlAt.below {w w' : World} {b : Nat} {fr ev ct ti : Int} {vm vd vw vp : Value} {mo da : List Int} {we : List (Int × Int)} {pk : List Int} (h : RlAt w b fr ev ct ti vm vd vw vp mo da we pk) (hb : Below w.heap.size w w') :
    RlAt w' b fr ev ct ti vm vd vw vp mo da we pk := by
  obtain ⟨⟨c0, c1, c2, c3, c4, c5, c6, c7⟩, ⟨l0, l1, l2, l3⟩, h1⟩ := h
  exact ⟨⟨cell_below hb c0, cell_below hb c1, cell_below hb c2, cell_below hb c3, cell_below hb c4, cell_below hb c5, cell_below hb c6, cell_below hb c7⟩, ⟨l0.below hb, l1.below hb, l2.below hb, l3.below hb⟩, Nat.lt_of_lt_of_le h1 hb.size⟩

theorem rlAt_new (w : World) (t : TypeId) (fr ev ct ti : Int) (vm vd vw vp : Value) (mo da : List Int) (we : List (Int × Int)) (pk : List Int) (h1 : IntsR w vm mo) (h2 : IntsR w vd da) (h3 : PairsR w vw we) (h4 : IntsR w vp pk) :
    RlAt (w.alloc (.cells #[.int .i64 fr, .int .i64 ev, .int .i64 ct, .int .i64 ti, vm, vd, vw, vp] t)) w.heap.size fr ev ct ti vm vd vw vp mo da we pk := by
  have hb : Below w.heap.size w (w.alloc (.cells #[.int .i64 fr, .int .i64 ev, .int .i64 ct, .int .i64 ti, vm, vd, vw, vp] t)) := (Below.refl _ _).alloc (Nat.le_refl _) _
  have hc : ∀ (i : Nat) (u : Value), #[Value.int .i64 fr, .int .i64 ev, .int .i64 ct, .int .i64 ti, vm, vd, vw, vp][i]? = some u → (w.alloc (.cells #[.int .i64 fr, .int .i64 ev, .int .i64 ct, .int .i64 ti, vm, vd, vw, vp] t)).cell? ⟨w.heap.size, i, none⟩ = some u := fun i u hu => by
    rw [cell_of_row _ _ i _ t (0, 0) (heap_alloc_new w _)]; exact hu
  exact ⟨⟨hc 0 _ rfl, hc 1 _ rfl, hc 2 _ rfl, hc 3 _ rfl, hc 4 _ rfl, hc 5 _ rfl, hc 6 _ rfl, hc 7 _ rfl⟩, ⟨h1.below hb, h2.below hb, h3.below hb, h4.below hb⟩, by simp⟩

def dayOk (n : Int) : Bool := decide (1 ≤ n) && decide (n ≤ 109573)

theorem dayOk_any (n : Int) (w : World) :
    Calls Tryz.prog 135 #[.int .i64 n] w fun e w' => e = .returned (.bool (dayOk n)) ∧ w = w' := day_any n w

def numsB (fr ev ct ti : Int) : Bool := freqB fr && decide (1 ≤ ev) && decide (ev ≤ 50) && decide (0 ≤ ct) && decide (ct ≤ 200) && (ti == 0 || dayOk ti)

theorem by_sum (a b c : Nat) (h1 : a ≤ 12) (h2 : b ≤ 31) (h3 : c ≤ 20) : wrap64 (wrap64 ((a : Int) + (b : Int)) + (c : Int)) = ((a + b + c : Nat) : Int) := by
  have e : wrap64 ((a : Int) + (b : Int)) = (a : Int) + (b : Int) := IntWalk.wrap64_in _ (by omega)
  rw [e, IntWalk.wrap64_in _ (by omega)]
  omega

def fullB (mo da : List Int) (we : List (Int × Int)) (pk : List Int) : Bool := decide (12 < mo.length) || decide (31 < da.length) || decide (20 < we.length) || decide (20 < pk.length)

def inB2 (mo da : List Int) (b : Bool) (pk : List Int) : Bool := withinB 1 12 mo && withinB (-31) 31 da && !b && withinB (-31) 31 pk

def upB (mo da : List Int) (we : List (Int × Int)) (pk : List Int) : Bool := risesB mo && risesB da && risesNB we && risesB pk

def shapeB (fr : Int) (mo da : List Int) (we : List (Int × Int)) (pk : List Int) : Bool :=
  (we.any nth1B && decide (fr ≤ 2)) || (decide (0 < da.length) && fr == 2) || (fr == 4 && mo.length == 0 && decide (0 < mo.length + da.length + we.length)) || (decide (0 < pk.length) && mo.length + da.length + we.length == 0)

def ruleF (fr ev ct ti : Int) (mo da : List Int) (we : List (Int × Int)) (pk : List Int) : Int :=
  if numsB fr ev ct ti = true then if (ct != 0 && ti != 0) = true then 3 else if fullB mo da we pk = true then 4 else
    if inB2 mo da (we.any nth2B) pk = true then if upB mo da we pk = true then if shapeB fr mo da we pk = true then 3 else 0 else 7 else 1 else 1

set_option maxRecDepth 100000 in
set_option maxHeartbeats 16000000 in
theorem rcheck_any (fr ev ct ti : Int) (vm vd vw vp : Value) (mo da : List Int) (we : List (Int × Int)) (pk : List Int) (w : World) (h1 : IntsR w vm mo) (h2 : IntsR w vd da) (h3 : PairsR w vw we) (h4 : IntsR w vp pk) :
    Calls Tryz.prog 64 #[.agg #[.int .i64 fr, .int .i64 ev, .int .i64 ct, .int .i64 ti, vm, vd, vw, vp]] w fun e w' => e = .returned (errV (ruleF fr ev ct ti mo da we pk)) ∧ Below w.heap.size w w' := by
  obtain ⟨am, km, rfl, m1, m2, _⟩ := intsR_open h1
  obtain ⟨ad, kd, rfl, d1, d2, _⟩ := intsR_open h2
  obtain ⟨aw, kw, rfl, v1, v2, _⟩ := pairsR_open h3
  obtain ⟨ap, kp, rfl, p1, p2, _⟩ := intsR_open h4
  unfold maxLen at m2 d2 v2 p2
  have hR := rlAt_new w 25 fr ev ct ti _ _ _ _ mo da we pk h1 h2 h3 h4
  have hb0 : Below w.heap.size w (w.alloc (.cells #[.int .i64 fr, .int .i64 ev, .int .i64 ct, .int .i64 ti, .slice am mo.length km, .slice ad da.length kd, .slice aw we.length kw, .slice ap pk.length kp] 25)) := (Below.refl _ _).alloc (Nat.le_refl _) _
  obtain ⟨n1, hn1⟩ : ∃ n1, n1 = we.any nth1B := ⟨_, rfl⟩
  obtain ⟨n2, hn2⟩ : ∃ n2, n2 = we.any nth2B := ⟨_, rfl⟩
  have N1 := Lib.hid hn1; have N2 := Lib.hid hn2
  clear hn1 hn2 h1 h2 h3 h4
  go_enter Tryz.func64, Tryz.ntmps64
  go_wp2_with fail
  refine (contN1_any _ we _ hR.2.1.2.2.1).mono ?_; rintro e w1 ⟨rfl, hb1⟩
  rw [← N1.out]
  have hR1 := hR.below hb1
  have B1 := Lib.hid (hb0.trans (hb1.mono hb0.size)); clear hb1 hR hb0
  obtain ⟨⟨c0, c1, c2, c3, c4, c5, c6, c7⟩, _, _⟩ := id hR1
  go_wp2_with fail
  refine (contN2_any _ we _ hR1.2.1.2.2.1).mono ?_; rintro e w2 ⟨rfl, hb2⟩
  rw [← N2.out]
  have hR2 := hR1.below hb2
  have B2 := Lib.hid (B1.out.trans (hb2.mono B1.out.size)); clear hb2 hR1 c0 c1 c2 c3 c4 c5 c6 c7
  obtain ⟨⟨c0, c1, c2, c3, c4, c5, c6, c7⟩, _, _⟩ := id hR2
  obtain ⟨b4, h4⟩ : ∃ b : Bool, b = (!numsB fr ev ct ti) := ⟨_, rfl⟩
  have H4 := Lib.hid h4; clear h4
  go_upto_region 4 with fail
  go_cut [23] (fun s23 wx => s23 = .bool b4 ∧ w2 = wx)
  case first => as_aux_lemma =>
    cases a1 : freqB fr
    · go_wp2_with (first | (go_at_call 134; refine (freq_any _ _).mono ?_; rintro e w' ⟨rfl, rfl⟩) | (go_at_call 135; refine (dayOk_any _ _).mono ?_; rintro e w' ⟨rfl, rfl⟩))
      go_meet
      exact ⟨by rw [H4.out]; exact congrArg Value.bool (by first | (simp [numsB, a1]; done) | (simp [numsB, a1]; omega)), rfl⟩
    · have F1 := Lib.hid a1
      by_cases a2 : ev < 1
      · go_wp2_with (first | (go_at_call 134; refine (freq_any _ _).mono ?_; rintro e w' ⟨rfl, rfl⟩) | (go_at_call 135; refine (dayOk_any _ _).mono ?_; rintro e w' ⟨rfl, rfl⟩))
        go_meet
        exact ⟨by rw [H4.out]; exact congrArg Value.bool (by first | (simp [numsB, a1]; done) | (simp [numsB, a1]; omega)), rfl⟩
      · skip
        by_cases a3 : 50 < ev
        · go_wp2_with (first | (go_at_call 134; refine (freq_any _ _).mono ?_; rintro e w' ⟨rfl, rfl⟩) | (go_at_call 135; refine (dayOk_any _ _).mono ?_; rintro e w' ⟨rfl, rfl⟩))
          go_meet
          exact ⟨by rw [H4.out]; exact congrArg Value.bool (by first | (simp [numsB, a1]; done) | (simp [numsB, a1]; omega)), rfl⟩
        · skip
          by_cases a4 : ct < 0
          · go_wp2_with (first | (go_at_call 134; refine (freq_any _ _).mono ?_; rintro e w' ⟨rfl, rfl⟩) | (go_at_call 135; refine (dayOk_any _ _).mono ?_; rintro e w' ⟨rfl, rfl⟩))
            go_meet
            exact ⟨by rw [H4.out]; exact congrArg Value.bool (by first | (simp [numsB, a1]; done) | (simp [numsB, a1]; omega)), rfl⟩
          · skip
            by_cases a5 : 200 < ct
            · go_wp2_with (first | (go_at_call 134; refine (freq_any _ _).mono ?_; rintro e w' ⟨rfl, rfl⟩) | (go_at_call 135; refine (dayOk_any _ _).mono ?_; rintro e w' ⟨rfl, rfl⟩))
              go_meet
              exact ⟨by rw [H4.out]; exact congrArg Value.bool (by first | (simp [numsB, a1]; done) | (simp [numsB, a1]; omega)), rfl⟩
            · skip
              have NB := Lib.hid (show (!numsB fr ev ct ti) = !(ti == 0 || dayOk ti) by simp [numsB, a1, show 1 ≤ ev by omega, show ev ≤ 50 by omega, show 0 ≤ ct by omega, show ct ≤ 200 by omega])
              have e2 : decide (ev < 1) = false := decide_eq_false a2
              have e3 : decide (50 < ev) = false := decide_eq_false a3
              have e4 : decide (ct < 0) = false := decide_eq_false a4
              have e5 : decide (200 < ct) = false := decide_eq_false a5
              by_cases a6 : ti = 0
              · have a7 : (ti != 0) = false := by simpa using a6
                have NC := Lib.hid (show (!numsB fr ev ct ti) = false by rw [NB.out]; simp [a6])
                clear a6
                go_wp2_with (first | (go_at_call 134; refine (freq_any _ _).mono ?_; rintro e w' ⟨rfl, rfl⟩) | (go_at_call 135; refine (dayOk_any _ _).mono ?_; rintro e w' ⟨rfl, rfl⟩))
                go_meet
                exact ⟨by rw [H4.out, NC.out], rfl⟩
              · have a7 : (ti != 0) = true := by simpa using a6
                have a9 : (ti == 0) = false := by simpa using a6
                cases a8 : dayOk ti
                · have NC := Lib.hid (show (!numsB fr ev ct ti) = true by rw [NB.out, a8, a9]; rfl)
                  clear a6 a9
                  go_wp2_with (first | (go_at_call 134; refine (freq_any _ _).mono ?_; rintro e w' ⟨rfl, rfl⟩) | (go_at_call 135; refine (dayOk_any _ _).mono ?_; rintro e w' ⟨rfl, rfl⟩))
                  go_meet
                  exact ⟨by rw [H4.out, NC.out], rfl⟩
                · have NC := Lib.hid (show (!numsB fr ev ct ti) = false by rw [NB.out, a8, a9]; rfl)
                  clear a6 a9
                  go_wp2_with (first | (go_at_call 134; refine (freq_any _ _).mono ?_; rintro e w' ⟨rfl, rfl⟩) | (go_at_call 135; refine (dayOk_any _ _).mono ?_; rintro e w' ⟨rfl, rfl⟩))
                  go_meet
                  exact ⟨by rw [H4.out, NC.out], rfl⟩
  case rest =>
    obtain ⟨rfl, rfl⟩ := hcut
    cases b4
    rotate_left
    · have q := H4.out
      as_aux_lemma =>
        have E := Lib.hid (show ruleF fr ev ct ti mo da we pk = 1 by rw [ruleF, if_neg (by rw [show numsB fr ev ct ti = false by simpa using q]; simp)])
        go_wp2_with fail
        go_ret
        exact ⟨by rw [E.out]; rfl, B2.out⟩
    have Q4 := Lib.hid (show numsB fr ev ct ti = true by have q := H4.out; simpa using q); clear H4
    obtain ⟨b6, h6⟩ : ∃ b : Bool, b = (ct != 0 && ti != 0) := ⟨_, rfl⟩
    have H6 := Lib.hid h6; clear h6
    go_upto_region 6 with fail
    go_cut [60] (fun s60 wx => s60 = .bool b6 ∧ w2 = wx)
    case first => as_aux_lemma =>
      cases a1 : (ct != 0)
      · go_wp2
        go_meet
        exact ⟨by rw [H6.out, a1]; rfl, rfl⟩
      · cases a2 : (ti != 0)
        · go_wp2
          go_meet
          exact ⟨by rw [H6.out, a1, a2]; rfl, rfl⟩
        · go_wp2
          go_meet
          exact ⟨by rw [H6.out, a1, a2]; rfl, rfl⟩
    case rest =>
      obtain ⟨rfl, rfl⟩ := hcut
      cases b6
      rotate_left
      · have q := H6.out.symm
        as_aux_lemma =>
          have E := Lib.hid (show ruleF fr ev ct ti mo da we pk = 3 by rw [ruleF, if_pos Q4.out, if_pos q])
          go_wp2_with fail
          go_ret
          exact ⟨by rw [E.out]; rfl, B2.out⟩
      have Q6 := Lib.hid H6.out.symm; clear H6
      obtain ⟨b8, h8⟩ : ∃ b : Bool, b = (fullB mo da we pk) := ⟨_, rfl⟩
      have H8 := Lib.hid h8; clear h8
      go_upto_region 8 with fail
      go_cut [70] (fun s70 wx => s70 = .bool b8 ∧ w2 = wx)
      case first => as_aux_lemma =>
        by_cases a2 : 12 < mo.length
        · go_wp2
          go_meet
          exact ⟨by rw [H8.out]; exact congrArg Value.bool (by first | (simp [fullB]; done) | (simp [fullB]; omega) | (rw [Bool.eq_iff_iff]; simp [fullB]; omega)), rfl⟩
        · skip
          by_cases a4 : 31 < da.length
          · go_wp2
            go_meet
            exact ⟨by rw [H8.out]; exact congrArg Value.bool (by first | (simp [fullB]; done) | (simp [fullB]; omega) | (rw [Bool.eq_iff_iff]; simp [fullB]; omega)), rfl⟩
          · skip
            by_cases a6 : 20 < we.length
            · go_wp2
              go_meet
              exact ⟨by rw [H8.out]; exact congrArg Value.bool (by first | (simp [fullB]; done) | (simp [fullB]; omega) | (rw [Bool.eq_iff_iff]; simp [fullB]; omega)), rfl⟩
            · skip
              by_cases a8 : 20 < pk.length
              · go_wp2
                go_meet
                exact ⟨by rw [H8.out]; exact congrArg Value.bool (by first | (simp [fullB]; done) | (simp [fullB]; omega) | (rw [Bool.eq_iff_iff]; simp [fullB]; omega)), rfl⟩
              · skip
                go_wp2
                go_meet
                exact ⟨by rw [H8.out]; exact congrArg Value.bool (by first | (simp [fullB]; done) | (simp [fullB]; omega) | (rw [Bool.eq_iff_iff]; simp [fullB]; omega)), rfl⟩
      case rest =>
        obtain ⟨rfl, rfl⟩ := hcut
        cases b8
        rotate_left
        · have q := H8.out.symm
          as_aux_lemma =>
            have E := Lib.hid (show ruleF fr ev ct ti mo da we pk = 4 by rw [ruleF, if_pos Q4.out, if_neg (by rw [Q6.out]; simp), if_pos q])
            go_wp2_with fail
            go_ret
            exact ⟨by rw [E.out]; rfl, B2.out⟩
        have Q8 := Lib.hid H8.out.symm; clear H8
        have hln : mo.length ≤ 12 ∧ da.length ≤ 31 ∧ we.length ≤ 20 ∧ pk.length ≤ 20 := by have q := Q8.out; simp [fullB] at q; omega
        obtain ⟨g1, g2, g3, g4⟩ := hln
        have hby : wrap64 (wrap64 ((mo.length : Int) + (da.length : Int)) + (we.length : Int)) = ((mo.length + da.length + we.length : Nat) : Int) := by_sum _ _ _ g1 g2 g3
        rw [hby]
        clear hby
        obtain ⟨nn, hnn⟩ : ∃ nn, nn = mo.length + da.length + we.length := ⟨_, rfl⟩
        rw [← hnn]
        have NN := Lib.hid hnn; clear hnn
        cases n2
        rotate_left
        · have q : inB2 mo da (we.any nth2B) pk = false := by rw [← N2.out]; simp [inB2]
          clear N2 N1 NN
          obtain ⟨b9, h9⟩ : ∃ b : Bool, b = (true) := ⟨_, rfl⟩
          have H9 := Lib.hid h9; clear h9
          go_upto_region 10 with fail
          go_cut [94] (fun s94 wx => s94 = .bool b9 ∧ RlAt wx w.heap.size fr ev ct ti (.slice am mo.length km) (.slice ad da.length kd) (.slice aw we.length kw) (.slice ap pk.length kp) mo da we pk ∧ Below w2.heap.size w2 wx)
          case first => as_aux_lemma =>
            have D0 := Lib.hid (Below.refl w2.heap.size w2)
            cases q9_0 : withinB 1 12 mo
            · have Q9_0 := Lib.hid q9_0; clear q9_0
              go_wp2_with fail
              refine (within_any _ mo 1 12 _ hR2.2.1.1).mono ?_; rintro e x9_0 ⟨rfl, hx⟩
              rw [Q9_0.out]
              have R9_0 := RlAt.below hR2 hx
              have D9_0 := Lib.hid (D0.out.trans (hx.mono D0.out.size)); clear hx
              obtain ⟨⟨c0, c1, c2, c3, c4, c5, c6, c7⟩, _, _⟩ := id R9_0
              go_wp2
              go_meet
              exact ⟨by rw [H9.out], R9_0, D9_0.out⟩
            · have Q9_0 := Lib.hid q9_0; clear q9_0
              go_wp2_with fail
              refine (within_any _ mo 1 12 _ hR2.2.1.1).mono ?_; rintro e x9_0 ⟨rfl, hx⟩
              rw [Q9_0.out]
              have R9_0 := RlAt.below hR2 hx
              have D9_0 := Lib.hid (D0.out.trans (hx.mono D0.out.size)); clear hx
              obtain ⟨⟨c0, c1, c2, c3, c4, c5, c6, c7⟩, _, _⟩ := id R9_0
              cases q9_1 : withinB (-31) 31 da
              · have Q9_1 := Lib.hid q9_1; clear q9_1
                go_wp2_with fail
                refine (within_any _ da (-31) 31 _ R9_0.2.1.2.1).mono ?_; rintro e x9_1 ⟨rfl, hx⟩
                rw [Q9_1.out]
                have R9_1 := RlAt.below R9_0 hx
                have D9_1 := Lib.hid (D9_0.out.trans (hx.mono D9_0.out.size)); clear hx
                obtain ⟨⟨c0, c1, c2, c3, c4, c5, c6, c7⟩, _, _⟩ := id R9_1
                go_wp2
                go_meet
                exact ⟨by rw [H9.out], R9_1, D9_1.out⟩
              · have Q9_1 := Lib.hid q9_1; clear q9_1
                go_wp2_with fail
                refine (within_any _ da (-31) 31 _ R9_0.2.1.2.1).mono ?_; rintro e x9_1 ⟨rfl, hx⟩
                rw [Q9_1.out]
                have R9_1 := RlAt.below R9_0 hx
                have D9_1 := Lib.hid (D9_0.out.trans (hx.mono D9_0.out.size)); clear hx
                obtain ⟨⟨c0, c1, c2, c3, c4, c5, c6, c7⟩, _, _⟩ := id R9_1
                go_wp2
                go_meet
                exact ⟨by rw [H9.out], R9_1, D9_1.out⟩
          case rest =>
            obtain ⟨rfl, hRC, hbx⟩ := hcut
            have B10 := Lib.hid (B2.out.trans (hbx.mono B2.out.size)); clear hbx
            have q9 := H9.out
            subst q9
            as_aux_lemma =>
              have E := Lib.hid (show ruleF fr ev ct ti mo da we pk = 1 by rw [ruleF, if_pos Q4.out, if_neg (by rw [Q6.out]; simp), if_neg (by rw [Q8.out]; simp), if_neg (by rw [q]; simp)])
              go_wp2_with fail
              go_ret
              exact ⟨by rw [E.out]; rfl, B10.out⟩
        obtain ⟨b10, h10⟩ : ∃ b : Bool, b = (!inB2 mo da false pk) := ⟨_, rfl⟩
        have H10 := Lib.hid h10; clear h10
        go_upto_region 10 with fail
        go_cut [94] (fun s94 wx => s94 = .bool b10 ∧ RlAt wx w.heap.size fr ev ct ti (.slice am mo.length km) (.slice ad da.length kd) (.slice aw we.length kw) (.slice ap pk.length kp) mo da we pk ∧ Below w2.heap.size w2 wx)
        case first => as_aux_lemma =>
          have D0 := Lib.hid (Below.refl w2.heap.size w2)
          cases q10_0 : withinB 1 12 mo
          · have Q10_0 := Lib.hid q10_0; clear q10_0
            go_wp2_with fail
            refine (within_any _ mo 1 12 _ hR2.2.1.1).mono ?_; rintro e x10_0 ⟨rfl, hx⟩
            rw [Q10_0.out]
            have R10_0 := RlAt.below hR2 hx
            have D10_0 := Lib.hid (D0.out.trans (hx.mono D0.out.size)); clear hx
            obtain ⟨⟨c0, c1, c2, c3, c4, c5, c6, c7⟩, _, _⟩ := id R10_0
            go_wp2
            go_meet
            exact ⟨by rw [H10.out]; exact congrArg Value.bool (by simp [inB2, Q10_0.out]), R10_0, D10_0.out⟩
          · have Q10_0 := Lib.hid q10_0; clear q10_0
            go_wp2_with fail
            refine (within_any _ mo 1 12 _ hR2.2.1.1).mono ?_; rintro e x10_0 ⟨rfl, hx⟩
            rw [Q10_0.out]
            have R10_0 := RlAt.below hR2 hx
            have D10_0 := Lib.hid (D0.out.trans (hx.mono D0.out.size)); clear hx
            obtain ⟨⟨c0, c1, c2, c3, c4, c5, c6, c7⟩, _, _⟩ := id R10_0
            cases q10_1 : withinB (-31) 31 da
            · have Q10_1 := Lib.hid q10_1; clear q10_1
              go_wp2_with fail
              refine (within_any _ da (-31) 31 _ R10_0.2.1.2.1).mono ?_; rintro e x10_1 ⟨rfl, hx⟩
              rw [Q10_1.out]
              have R10_1 := RlAt.below R10_0 hx
              have D10_1 := Lib.hid (D10_0.out.trans (hx.mono D10_0.out.size)); clear hx
              obtain ⟨⟨c0, c1, c2, c3, c4, c5, c6, c7⟩, _, _⟩ := id R10_1
              go_wp2
              go_meet
              exact ⟨by rw [H10.out]; exact congrArg Value.bool (by simp [inB2, Q10_0.out, Q10_1.out]), R10_1, D10_1.out⟩
            · have Q10_1 := Lib.hid q10_1; clear q10_1
              go_wp2_with fail
              refine (within_any _ da (-31) 31 _ R10_0.2.1.2.1).mono ?_; rintro e x10_1 ⟨rfl, hx⟩
              rw [Q10_1.out]
              have R10_1 := RlAt.below R10_0 hx
              have D10_1 := Lib.hid (D10_0.out.trans (hx.mono D10_0.out.size)); clear hx
              obtain ⟨⟨c0, c1, c2, c3, c4, c5, c6, c7⟩, _, _⟩ := id R10_1
              cases q10_2 : withinB (-31) 31 pk
              · have Q10_2 := Lib.hid q10_2; clear q10_2
                go_wp2_with fail
                refine (within_any _ pk (-31) 31 _ R10_1.2.1.2.2.2).mono ?_; rintro e x10_2 ⟨rfl, hx⟩
                rw [Q10_2.out]
                have R10_2 := RlAt.below R10_1 hx
                have D10_2 := Lib.hid (D10_1.out.trans (hx.mono D10_1.out.size)); clear hx
                obtain ⟨⟨c0, c1, c2, c3, c4, c5, c6, c7⟩, _, _⟩ := id R10_2
                go_wp2
                go_meet
                exact ⟨by rw [H10.out]; exact congrArg Value.bool (by simp [inB2, Q10_0.out, Q10_1.out, Q10_2.out]), R10_2, D10_2.out⟩
              · have Q10_2 := Lib.hid q10_2; clear q10_2
                go_wp2_with fail
                refine (within_any _ pk (-31) 31 _ R10_1.2.1.2.2.2).mono ?_; rintro e x10_2 ⟨rfl, hx⟩
                rw [Q10_2.out]
                have R10_2 := RlAt.below R10_1 hx
                have D10_2 := Lib.hid (D10_1.out.trans (hx.mono D10_1.out.size)); clear hx
                obtain ⟨⟨c0, c1, c2, c3, c4, c5, c6, c7⟩, _, _⟩ := id R10_2
                go_wp2
                go_meet
                exact ⟨by rw [H10.out]; exact congrArg Value.bool (by simp [inB2, Q10_0.out, Q10_1.out, Q10_2.out]), R10_2, D10_2.out⟩
        case rest =>
          obtain ⟨rfl, hRC, hbx⟩ := hcut
          have B10 := Lib.hid (B2.out.trans (hbx.mono B2.out.size)); clear hbx hR2 c0 c1 c2 c3 c4 c5 c6 c7
          obtain ⟨⟨c0, c1, c2, c3, c4, c5, c6, c7⟩, _, _⟩ := id hRC
          cases b10
          rotate_left
          · have q := H10.out
            as_aux_lemma =>
              have E := Lib.hid (show ruleF fr ev ct ti mo da we pk = 1 by rw [ruleF, if_pos Q4.out, if_neg (by rw [Q6.out]; simp), if_neg (by rw [Q8.out]; simp), if_neg (by rw [← N2.out, show inB2 mo da false pk = false by simpa using q]; simp)])
              go_wp2_with fail
              go_ret
              exact ⟨by rw [E.out]; rfl, B10.out⟩
          have Q10 := Lib.hid (show inB2 mo da (we.any nth2B) pk = true by rw [← N2.out]; have q := H10.out; simpa using q); clear H10 N2
          rename World => w3
          obtain ⟨b12, h12⟩ : ∃ b : Bool, b = (!upB mo da we pk) := ⟨_, rfl⟩
          have H12 := Lib.hid h12; clear h12
          go_upto_region 12 with fail
          go_cut [115] (fun s115 wx => s115 = .bool b12 ∧ RlAt wx w.heap.size fr ev ct ti (.slice am mo.length km) (.slice ad da.length kd) (.slice aw we.length kw) (.slice ap pk.length kp) mo da we pk ∧ Below w3.heap.size w3 wx)
          case first => as_aux_lemma =>
            have D0 := Lib.hid (Below.refl w3.heap.size w3)
            cases q12_0 : risesB mo
            · have Q12_0 := Lib.hid q12_0; clear q12_0
              go_wp2_with fail
              refine (rises_any _ mo _ hRC.2.1.1).mono ?_; rintro e x12_0 ⟨rfl, hx⟩
              rw [Q12_0.out]
              have R12_0 := RlAt.below hRC hx
              have D12_0 := Lib.hid (D0.out.trans (hx.mono D0.out.size)); clear hx
              obtain ⟨⟨c0, c1, c2, c3, c4, c5, c6, c7⟩, _, _⟩ := id R12_0
              go_wp2
              go_meet
              exact ⟨by rw [H12.out]; exact congrArg Value.bool (by simp [upB, Q12_0.out]), R12_0, D12_0.out⟩
            · have Q12_0 := Lib.hid q12_0; clear q12_0
              go_wp2_with fail
              refine (rises_any _ mo _ hRC.2.1.1).mono ?_; rintro e x12_0 ⟨rfl, hx⟩
              rw [Q12_0.out]
              have R12_0 := RlAt.below hRC hx
              have D12_0 := Lib.hid (D0.out.trans (hx.mono D0.out.size)); clear hx
              obtain ⟨⟨c0, c1, c2, c3, c4, c5, c6, c7⟩, _, _⟩ := id R12_0
              cases q12_1 : risesB da
              · have Q12_1 := Lib.hid q12_1; clear q12_1
                go_wp2_with fail
                refine (rises_any _ da _ R12_0.2.1.2.1).mono ?_; rintro e x12_1 ⟨rfl, hx⟩
                rw [Q12_1.out]
                have R12_1 := RlAt.below R12_0 hx
                have D12_1 := Lib.hid (D12_0.out.trans (hx.mono D12_0.out.size)); clear hx
                obtain ⟨⟨c0, c1, c2, c3, c4, c5, c6, c7⟩, _, _⟩ := id R12_1
                go_wp2
                go_meet
                exact ⟨by rw [H12.out]; exact congrArg Value.bool (by simp [upB, Q12_0.out, Q12_1.out]), R12_1, D12_1.out⟩
              · have Q12_1 := Lib.hid q12_1; clear q12_1
                go_wp2_with fail
                refine (rises_any _ da _ R12_0.2.1.2.1).mono ?_; rintro e x12_1 ⟨rfl, hx⟩
                rw [Q12_1.out]
                have R12_1 := RlAt.below R12_0 hx
                have D12_1 := Lib.hid (D12_0.out.trans (hx.mono D12_0.out.size)); clear hx
                obtain ⟨⟨c0, c1, c2, c3, c4, c5, c6, c7⟩, _, _⟩ := id R12_1
                cases q12_2 : risesNB we
                · have Q12_2 := Lib.hid q12_2; clear q12_2
                  go_wp2_with fail
                  refine (risesN_any _ we _ R12_1.2.1.2.2.1).mono ?_; rintro e x12_2 ⟨rfl, hx⟩
                  rw [Q12_2.out]
                  have R12_2 := RlAt.below R12_1 hx
                  have D12_2 := Lib.hid (D12_1.out.trans (hx.mono D12_1.out.size)); clear hx
                  obtain ⟨⟨c0, c1, c2, c3, c4, c5, c6, c7⟩, _, _⟩ := id R12_2
                  go_wp2
                  go_meet
                  exact ⟨by rw [H12.out]; exact congrArg Value.bool (by simp [upB, Q12_0.out, Q12_1.out, Q12_2.out]), R12_2, D12_2.out⟩
                · have Q12_2 := Lib.hid q12_2; clear q12_2
                  go_wp2_with fail
                  refine (risesN_any _ we _ R12_1.2.1.2.2.1).mono ?_; rintro e x12_2 ⟨rfl, hx⟩
                  rw [Q12_2.out]
                  have R12_2 := RlAt.below R12_1 hx
                  have D12_2 := Lib.hid (D12_1.out.trans (hx.mono D12_1.out.size)); clear hx
                  obtain ⟨⟨c0, c1, c2, c3, c4, c5, c6, c7⟩, _, _⟩ := id R12_2
                  cases q12_3 : risesB pk
                  · have Q12_3 := Lib.hid q12_3; clear q12_3
                    go_wp2_with fail
                    refine (rises_any _ pk _ R12_2.2.1.2.2.2).mono ?_; rintro e x12_3 ⟨rfl, hx⟩
                    rw [Q12_3.out]
                    have R12_3 := RlAt.below R12_2 hx
                    have D12_3 := Lib.hid (D12_2.out.trans (hx.mono D12_2.out.size)); clear hx
                    obtain ⟨⟨c0, c1, c2, c3, c4, c5, c6, c7⟩, _, _⟩ := id R12_3
                    go_wp2
                    go_meet
                    exact ⟨by rw [H12.out]; exact congrArg Value.bool (by simp [upB, Q12_0.out, Q12_1.out, Q12_2.out, Q12_3.out]), R12_3, D12_3.out⟩
                  · have Q12_3 := Lib.hid q12_3; clear q12_3
                    go_wp2_with fail
                    refine (rises_any _ pk _ R12_2.2.1.2.2.2).mono ?_; rintro e x12_3 ⟨rfl, hx⟩
                    rw [Q12_3.out]
                    have R12_3 := RlAt.below R12_2 hx
                    have D12_3 := Lib.hid (D12_2.out.trans (hx.mono D12_2.out.size)); clear hx
                    obtain ⟨⟨c0, c1, c2, c3, c4, c5, c6, c7⟩, _, _⟩ := id R12_3
                    go_wp2
                    go_meet
                    exact ⟨by rw [H12.out]; exact congrArg Value.bool (by simp [upB, Q12_0.out, Q12_1.out, Q12_2.out, Q12_3.out]), R12_3, D12_3.out⟩
          case rest =>
            obtain ⟨rfl, hRD, hbx⟩ := hcut
            have B12 := Lib.hid (B10.out.trans (hbx.mono B10.out.size)); clear hbx hRC c0 c1 c2 c3 c4 c5 c6 c7
            obtain ⟨⟨c0, c1, c2, c3, c4, c5, c6, c7⟩, _, _⟩ := id hRD
            cases b12
            rotate_left
            · have q := H12.out
              as_aux_lemma =>
                have E := Lib.hid (show ruleF fr ev ct ti mo da we pk = 7 by rw [ruleF, if_pos Q4.out, if_neg (by rw [Q6.out]; simp), if_neg (by rw [Q8.out]; simp), if_pos Q10.out, if_neg (by rw [show upB mo da we pk = false by simpa using q]; simp)])
                go_wp2_with fail
                go_ret
                exact ⟨by rw [E.out]; rfl, B12.out⟩
            have Q12 := Lib.hid (show upB mo da we pk = true by have q := H12.out; simpa using q); clear H12
            rename World => w4
            obtain ⟨b14, h14⟩ : ∃ b : Bool, b = (n1 && decide (fr ≤ 2)) := ⟨_, rfl⟩
            have H14 := Lib.hid h14; clear h14
            go_upto_region 14 with fail
            go_cut [139] (fun s139 wx => s139 = .bool b14 ∧ w4 = wx)
            case first => as_aux_lemma =>
              cases n1
              · go_wp2
                go_meet
                exact ⟨by rw [H14.out]; rfl, rfl⟩
              · by_cases a1 : fr ≤ 2
                · have a2 : decide (fr ≤ 2) = true := decide_eq_true a1
                  go_wp2
                  go_meet
                  exact ⟨by rw [H14.out, a2]; rfl, rfl⟩
                · have a2 : decide (fr ≤ 2) = false := decide_eq_false a1
                  go_wp2
                  go_meet
                  exact ⟨by rw [H14.out, a2]; rfl, rfl⟩
            case rest =>
              obtain ⟨rfl, rfl⟩ := hcut
              cases b14
              rotate_left
              · have q := H14.out.symm
                rw [N1.out] at q
                as_aux_lemma =>
                  have E := Lib.hid (show ruleF fr ev ct ti mo da we pk = 3 by rw [ruleF, if_pos Q4.out, if_neg (by rw [Q6.out]; simp), if_neg (by rw [Q8.out]; simp), if_pos Q10.out, if_pos Q12.out, if_pos (by simp only [shapeB, q, Bool.true_or])])
                  go_wp2_with fail
                  go_ret
                  exact ⟨by rw [E.out]; rfl, B12.out⟩
              have Q14 := Lib.hid (show (we.any nth1B && decide (fr ≤ 2)) = false by rw [← N1.out]; exact H14.out.symm); clear H14
              obtain ⟨b15, h15⟩ : ∃ b : Bool, b = (decide (0 < da.length) && fr == 2) := ⟨_, rfl⟩
              have H15 := Lib.hid h15; clear h15
              go_upto_region 15 with fail
              go_cut [139] (fun s139 wx => s139 = .bool b15 ∧ w4 = wx)
              case first => as_aux_lemma =>
                by_cases a1 : 0 < da.length
                · cases a2 : (fr == 2)
                  · go_wp2
                    go_meet
                    exact ⟨by rw [H15.out, a2]; simp, rfl⟩
                  · go_wp2
                    go_meet
                    exact ⟨by rw [H15.out, a2]; simp; omega, rfl⟩
                · go_wp2
                  go_meet
                  exact ⟨by rw [H15.out]; simp [a1], rfl⟩
              case rest =>
                obtain ⟨rfl, rfl⟩ := hcut
                cases b15
                rotate_left
                · have q := H15.out.symm
                  as_aux_lemma =>
                    have E := Lib.hid (show ruleF fr ev ct ti mo da we pk = 3 by rw [ruleF, if_pos Q4.out, if_neg (by rw [Q6.out]; simp), if_neg (by rw [Q8.out]; simp), if_pos Q10.out, if_pos Q12.out, if_pos (by simp only [shapeB, q, Bool.or_true, Bool.true_or])])
                    go_wp2_with fail
                    go_ret
                    exact ⟨by rw [E.out]; rfl, B12.out⟩
                have Q15 := Lib.hid H15.out.symm; clear H15
                obtain ⟨b16, h16⟩ : ∃ b : Bool, b = (fr == 4 && mo.length == 0 && decide (0 < nn)) := ⟨_, rfl⟩
                have H16 := Lib.hid h16; clear h16
                go_upto_region 16 with fail
                go_cut [139] (fun s139 wx => s139 = .bool b16 ∧ w4 = wx)
                case first => as_aux_lemma =>
                  cases a2 : (fr == 4)
                  · go_wp2
                    go_meet
                    exact ⟨by rw [H16.out, a2]; rfl, rfl⟩
                  · by_cases a1 : mo.length = 0
                    · have a3 : ((mo.length : Int) == 0) = true := by rw [beq_iff_eq]; omega
                      have A1 := Lib.hid a1; clear a1
                      by_cases a4 : 0 < nn
                      · go_wp2
                        go_meet
                        exact ⟨by rw [H16.out, a2, A1.out]; simp; omega, rfl⟩
                      · go_wp2
                        go_meet
                        exact ⟨by rw [H16.out, a2, A1.out]; simp; omega, rfl⟩
                    · have a3 : ((mo.length : Int) == 0) = false := by rw [beq_eq_false_iff_ne]; omega
                      have A1 := Lib.hid (show (mo.length == 0) = false by rw [beq_eq_false_iff_ne]; exact a1); clear a1
                      go_wp2
                      go_meet
                      exact ⟨by rw [H16.out, a2, A1.out]; rfl, rfl⟩
                case rest =>
                  obtain ⟨rfl, rfl⟩ := hcut
                  cases b16
                  rotate_left
                  · have q := H16.out.symm
                    rw [NN.out] at q
                    as_aux_lemma =>
                      have E := Lib.hid (show ruleF fr ev ct ti mo da we pk = 3 by rw [ruleF, if_pos Q4.out, if_neg (by rw [Q6.out]; simp), if_neg (by rw [Q8.out]; simp), if_pos Q10.out, if_pos Q12.out, if_pos (by simp only [shapeB, q, Bool.or_true, Bool.true_or])])
                      go_wp2_with fail
                      go_ret
                      exact ⟨by rw [E.out]; rfl, B12.out⟩
                  have Q16 := Lib.hid (show (fr == 4 && mo.length == 0 && decide (0 < mo.length + da.length + we.length)) = false by rw [← NN.out]; exact H16.out.symm); clear H16
                  obtain ⟨b17, h17⟩ : ∃ b : Bool, b = (decide (0 < pk.length) && nn == 0) := ⟨_, rfl⟩
                  have H17 := Lib.hid h17; clear h17
                  go_upto_region 17 with fail
                  go_cut [139] (fun s139 wx => s139 = .bool b17 ∧ w4 = wx)
                  case first => as_aux_lemma =>
                    by_cases a1 : 0 < pk.length
                    · by_cases a4 : nn = 0
                      · have a3 : ((nn : Int) == 0) = true := by rw [beq_iff_eq]; omega
                        have A4 := Lib.hid a4; clear a4
                        go_wp2
                        go_meet
                        exact ⟨by rw [H17.out, A4.out]; simp; omega, rfl⟩
                      · have a3 : ((nn : Int) == 0) = false := by rw [beq_eq_false_iff_ne]; omega
                        have A4 := Lib.hid (show (nn == 0) = false by rw [beq_eq_false_iff_ne]; exact a4); clear a4
                        go_wp2
                        go_meet
                        exact ⟨by rw [H17.out, A4.out]; simp, rfl⟩
                    · go_wp2
                      go_meet
                      exact ⟨by rw [H17.out]; simp [a1], rfl⟩
                  case rest =>
                    obtain ⟨rfl, rfl⟩ := hcut
                    cases b17
                    rotate_left
                    · have q := H17.out.symm
                      rw [NN.out] at q
                      as_aux_lemma =>
                        have E := Lib.hid (show ruleF fr ev ct ti mo da we pk = 3 by rw [ruleF, if_pos Q4.out, if_neg (by rw [Q6.out]; simp), if_neg (by rw [Q8.out]; simp), if_pos Q10.out, if_pos Q12.out, if_pos (by simp only [shapeB, q, Bool.or_true])])
                        go_wp2_with fail
                        go_ret
                        exact ⟨by rw [E.out]; rfl, B12.out⟩
                    have q := H17.out.symm
                    rw [NN.out] at q
                    as_aux_lemma =>
                      have E := Lib.hid (show ruleF fr ev ct ti mo da we pk = 0 by rw [ruleF, if_pos Q4.out, if_neg (by rw [Q6.out]; simp), if_neg (by rw [Q8.out]; simp), if_pos Q10.out, if_pos Q12.out, if_neg (by simp only [shapeB, Q14.out, Q15.out, Q16.out, q, Bool.or_false]; simp)])
                      go_wp2_with fail
                      go_ret
                      exact ⟨by rw [E.out]; rfl, B12.out⟩

end Go.Proofs.YtgelojhpanbnaaaGreatDoor
