/- Contracts of the references chimeref1.within, Rises and Rule: what is wrong with any rule. No condition. (printed by gen_refr.py) -/
import Derived.Test.YtgelojhpanbnaaaGreatDoorRuleC
import Derived.Test.YtgelojhpanbnaaaGreatDoorQ05
namespace Go.Proofs.YtgelojhpanbnaaaGreatDoor
open Go.RowKit
set_option linter.unusedSimpArgs false
set_option linter.unusedVariables false

set_option maxHeartbeats 1000000 in
theorem rwithin_any (v : Value) (L : List Int) (lo hi : Int) (w : World) (hL : IntsR w v L) :
    Calls Tryz.prog 187 #[v, .int .i64 lo, .int .i64 hi] w fun e w' => e = .returned (.bool (withinB lo hi L)) ∧ w = w' := by
  obtain ⟨a, cap, rfl, hc1, hc2, hcell⟩ := intsR_open hL
  unfold maxLen at hc2
  have HC := Lib.hid hcell; clear hcell hL
  go_enter Tryz.func187, Tryz.ntmps187
  go_wp2
  go_loopg [7] L.length (fun g i wr => ∃ k : Nat, k ≤ L.length ∧ i = .int .i64 k ∧ Hid ((L.take k).any (outB lo hi) = false) ∧ g = L.length - k ∧ wr = w)
  case atStart => exact ⟨0, Nat.zero_le _, rfl, Lib.hid (by simp), rfl, rfl⟩
  case round =>
    obtain ⟨k, hk, rfl, hS, hg, rfl⟩ := hrel
    have G := Lib.hid hg; clear hg
    by_cases hlt : k < L.length
    · obtain ⟨b, off, rfl, hcs⟩ := HC.out (by omega)
      have c0 := hcs k hlt
      obtain ⟨x, hx⟩ : ∃ x, x = L[k] := ⟨_, rfl⟩
      rw [← hx] at c0
      have X := Lib.hid hx; clear hx hcs
      cases h1 : (x == 0) with
      | true =>
        have E := Lib.hid (show withinB lo hi L = false by rw [withinB, any_yes hlt (by rw [← X.out, outB, h1]; rfl)]; rfl)
        go_wp2
        go_ret
        exact ⟨by rw [E.out]; rfl, rfl⟩
      | false =>
        cases h2 : decide (x < lo) with
        | true =>
          have E := Lib.hid (show withinB lo hi L = false by rw [withinB, any_yes hlt (by rw [← X.out, outB, h1, h2]; rfl)]; rfl)
          go_wp2
          go_ret
          exact ⟨by rw [E.out]; rfl, rfl⟩
        | false =>
          cases h3 : decide (hi < x) with
          | true =>
            have E := Lib.hid (show withinB lo hi L = false by rw [withinB, any_yes hlt (by rw [← X.out, outB, h1, h2, h3]; rfl)]; rfl)
            go_wp2
            go_ret
            exact ⟨by rw [E.out]; rfl, rfl⟩
          | false =>
            have E := Lib.hid (any_no hlt hS.out (by rw [← X.out, outB, h1, h2, h3]; rfl))
            go_wp2
            go_roundg (L.length - (k + 1))
            case measure => rw [G.out]; omega
            case rel => exact ⟨k + 1, by omega, by go_num, E, rfl, rfl⟩
    · obtain rfl : k = L.length := by omega
      have E := Lib.hid (show withinB lo hi L = true by have := hS.out; rw [List.take_length] at this; rw [withinB, this]; rfl)
      clear hS
      go_wp2
      go_ret
      exact ⟨by rw [E.out]; rfl, rfl⟩

theorem nums_or (fr ev ct ti : Int) : (!numsB fr ev ct ti) = (decide (fr < 1) || decide (4 < fr) || decide (ev < 1) || decide (50 < ev) || decide (ct < 0) || decide (200 < ct) || decide (ti < 0) || decide (109573 < ti)) := by
  unfold numsB freqB dayOk
  rw [Bool.eq_iff_iff]
  simp
  omega

theorem full_or (mo da : List Int) (we : List (Int × Int)) (pk : List Int) : fullB mo da we pk = (decide ((12 : Int) < (mo.length : Int)) || decide ((31 : Int) < (da.length : Int)) || decide ((20 : Int) < (we.length : Int)) || decide ((20 : Int) < (pk.length : Int))) := by
  unfold fullB
  rw [Bool.eq_iff_iff]
  simp
  omega

theorem shape_or (fr : Int) (mo da : List Int) (we : List (Int × Int)) (pk : List Int) (n1 : Bool) (h : n1 = we.any nth1B) :
    shapeB fr mo da we pk = ((((n1 && decide (fr ≤ 2)) || (decide (0 < da.length) && fr == 2)) || (fr == 4 && decide (mo.length = 0) && decide (0 < da.length + we.length))) || (decide (0 < pk.length) && decide (mo.length + da.length + we.length = 0))) := by
  have e3 : (fr == 4 && mo.length == 0 && decide (0 < mo.length + da.length + we.length)) = (fr == 4 && decide (mo.length = 0) && decide (0 < da.length + we.length)) := by
    by_cases hm : mo.length = 0
    · rw [hm, Nat.zero_add]; rfl
    · have e : (mo.length == 0) = false := by rw [beq_eq_false_iff_ne]; exact hm
      rw [e, decide_eq_false hm]; simp
  unfold shapeB
  rw [← h, e3]; rfl

theorem any1_snoc {L : List (Int × Int)} {k : Nat} (h : k < L.length) {x y : Int} (hx : L[k] = (x, y)) : (L.take (k + 1)).any nth1B = ((L.take k).any nth1B || (x != 0)) := by
  rw [List.take_succ_eq_append_getElem h, List.any_append, hx]; simp [nth1B]

theorem nth2_or (x y : Int) : nth2B (x, y) = (decide (y < 1) || decide (7 < y) || decide (x < -5) || decide (5 < x)) := by
  unfold nth2B; first | rfl | (rw [Bool.eq_iff_iff]; simp)

theorem nthLt_b (p q x y : Int) : decide (nthLt (p, q) (x, y)) = (decide (q < y) || ((q == y) && decide (p < x))) := by
  rw [Bool.eq_iff_iff, decide_eq_true_iff]; simp [nthLt]

theorem upN_snoc {L : List (Int × Int)} {k : Nat} (h : k < L.length) (h0 : 0 < k) {p q x y : Int} (hx : L[k] = (x, y)) (hp : L[k - 1] = (p, q)) :
    decide ((L.take (k + 1)).Pairwise nthLt) = (decide ((L.take k).Pairwise nthLt) && (decide (q < y) || ((q == y) && decide (p < x)))) := by
  rw [← nthLt_b, ← hx, ← hp, ← Bool.decide_and, decide_eq_decide]
  constructor
  · intro hh
    refine ⟨hh.sublist (List.take_sublist_take_left (by omega)), ?_⟩
    have := List.pairwise_iff_getElem.1 hh (k - 1) k (by simp; omega) (by simp; omega) (by omega)
    simpa using this
  · rintro ⟨h1, h2⟩
    exact pwN_snoc h h0 h1 h2

set_option maxRecDepth 100000 in
set_option maxHeartbeats 16000000 in
theorem rrule_any (fr ev ct ti : Int) (vm vd vw vp : Value) (mo da : List Int) (we : List (Int × Int)) (pk : List Int) (w : World) (h1 : IntsR w vm mo) (h2 : IntsR w vd da) (h3 : PairsR w vw we) (h4 : IntsR w vp pk) :
    Calls Tryz.prog 113 #[.agg #[.int .i64 fr, .int .i64 ev, .int .i64 ct, .int .i64 ti, vm, vd, vw, vp]] w fun e w' => e = .returned (.int .i64 (ruleF fr ev ct ti mo da we pk)) ∧ Below w.heap.size w w' := by
  obtain ⟨am, km, rfl, m1, m2, _⟩ := intsR_open h1
  obtain ⟨ad, kd, rfl, d1, d2, _⟩ := intsR_open h2
  obtain ⟨aw, kw, rfl, v1, v2, hwc⟩ := pairsR_open h3
  obtain ⟨ap, kp, rfl, p1, p2, _⟩ := intsR_open h4
  unfold maxLen at m2 d2 v2 p2
  obtain ⟨w0, hw0⟩ : ∃ x, x = w.alloc (.cells #[.int .i64 fr, .int .i64 ev, .int .i64 ct, .int .i64 ti, .slice am mo.length km, .slice ad da.length kd, .slice aw we.length kw, .slice ap pk.length kp] 25) := ⟨_, rfl⟩
  have hR := rlAt_new w 25 fr ev ct ti _ _ _ _ mo da we pk h1 h2 h3 h4
  have hb0 : Below w.heap.size w w0 := by rw [hw0]; exact (Below.refl _ _).alloc (Nat.le_refl _) _
  rw [← hw0] at hR
  have B0 := Lib.hid hb0; have RR := Lib.hid hR; have WC := Lib.hid hwc
  go_enter Tryz.func113, Tryz.ntmps113
  go_upto_region 1 with fail
  rw [← hw0]
  clear h1 h2 h3 h4 hb0 hR hwc hw0
  obtain ⟨⟨c0, c1, c2, c3, c4, c5, c6, c7⟩, _, hl0⟩ := id RR.out
  obtain ⟨b1, h1⟩ : ∃ b : Bool, b = (!numsB fr ev ct ti) := ⟨_, rfl⟩
  have H1 := Lib.hid (h1.trans (nums_or fr ev ct ti)); have N1 := Lib.hid h1; clear h1
  go_cut [49] (fun s wx => s = .bool b1 ∧ w0 = wx)
  case first => as_aux_lemma =>
    cases f0 : decide (fr < 1)
    rotate_left
    · go_wp2
      go_meet
      exact ⟨congrArg Value.bool (by rw [H1.out]; simp [f0]), rfl⟩
    · cases f1 : decide (4 < fr)
      rotate_left
      · go_wp2
        go_meet
        exact ⟨congrArg Value.bool (by rw [H1.out]; simp [f0, f1]), rfl⟩
      · cases f2 : decide (ev < 1)
        rotate_left
        · go_wp2
          go_meet
          exact ⟨congrArg Value.bool (by rw [H1.out]; simp [f0, f1, f2]), rfl⟩
        · cases f3 : decide (50 < ev)
          rotate_left
          · go_wp2
            go_meet
            exact ⟨congrArg Value.bool (by rw [H1.out]; simp [f0, f1, f2, f3]), rfl⟩
          · cases f4 : decide (ct < 0)
            rotate_left
            · go_wp2
              go_meet
              exact ⟨congrArg Value.bool (by rw [H1.out]; simp [f0, f1, f2, f3, f4]), rfl⟩
            · cases f5 : decide (200 < ct)
              rotate_left
              · go_wp2
                go_meet
                exact ⟨congrArg Value.bool (by rw [H1.out]; simp [f0, f1, f2, f3, f4, f5]), rfl⟩
              · cases f6 : decide (ti < 0)
                rotate_left
                · go_wp2
                  go_meet
                  exact ⟨congrArg Value.bool (by rw [H1.out]; simp [f0, f1, f2, f3, f4, f5, f6]), rfl⟩
                · cases f7 : decide (109573 < ti)
                  rotate_left
                  · go_wp2
                    go_meet
                    exact ⟨congrArg Value.bool (by rw [H1.out]; simp [f0, f1, f2, f3, f4, f5, f6, f7]), rfl⟩
                  · go_wp2
                    go_meet
                    exact ⟨congrArg Value.bool (by rw [H1.out]; simp [f0, f1, f2, f3, f4, f5, f6, f7]), rfl⟩
  case rest =>
  obtain ⟨rfl, rfl⟩ := hcut
  cases b1
  rotate_left
  · have q := N1.out
    have E := Lib.hid (show ruleF fr ev ct ti mo da we pk = 1 by rw [ruleF, if_neg (by rw [show numsB fr ev ct ti = false by simpa using q]; simp)])
    go_wp2_with fail
    go_ret
    exact ⟨by rw [E.out]; rfl, B0.out⟩
  have Q1 := Lib.hid (show numsB fr ev ct ti = true by have q := N1.out; simpa using q); clear H1 N1
  go_upto_region 3 with fail
  obtain ⟨b3, h3⟩ : ∃ b : Bool, b = (ct != 0 && ti != 0) := ⟨_, rfl⟩
  have H3 := Lib.hid h3; clear h3
  go_cut [57] (fun s wx => s = .bool b3 ∧ w0 = wx)
  case first => as_aux_lemma =>
    cases f0 : (ct != 0)
    · go_wp2
      go_meet
      exact ⟨congrArg Value.bool (by rw [H3.out, f0]; rfl), rfl⟩
    · cases f1 : (ti != 0)
      all_goals
        go_wp2
        go_meet
        exact ⟨congrArg Value.bool (by rw [H3.out, f0, f1]; rfl), rfl⟩
  case rest =>
  obtain ⟨rfl, rfl⟩ := hcut
  cases b3
  rotate_left
  · have q := H3.out.symm
    have E := Lib.hid (show ruleF fr ev ct ti mo da we pk = 3 by rw [ruleF, if_pos Q1.out, if_pos q])
    go_wp2_with fail
    go_ret
    exact ⟨by rw [E.out]; rfl, B0.out⟩
  have Q3 := Lib.hid H3.out.symm; clear H3
  go_upto_region 5 with fail
  obtain ⟨b5, h5⟩ : ∃ b : Bool, b = fullB mo da we pk := ⟨_, rfl⟩
  have H5 := Lib.hid (h5.trans (full_or mo da we pk)); have N5 := Lib.hid h5; clear h5
  go_cut [79] (fun s wx => s = .bool b5 ∧ w0 = wx)
  case first => as_aux_lemma =>
    cases f0 : decide ((12 : Int) < (mo.length : Int))
    rotate_left
    · go_wp2
      go_meet
      exact ⟨congrArg Value.bool (by rw [H5.out]; simp [f0]), rfl⟩
    · cases f1 : decide ((31 : Int) < (da.length : Int))
      rotate_left
      · go_wp2
        go_meet
        exact ⟨congrArg Value.bool (by rw [H5.out]; simp [f0, f1]), rfl⟩
      · cases f2 : decide ((20 : Int) < (we.length : Int))
        rotate_left
        · go_wp2
          go_meet
          exact ⟨congrArg Value.bool (by rw [H5.out]; simp [f0, f1, f2]), rfl⟩
        · cases f3 : decide ((20 : Int) < (pk.length : Int))
          rotate_left
          · go_wp2
            go_meet
            exact ⟨congrArg Value.bool (by rw [H5.out]; simp [f0, f1, f2, f3]), rfl⟩
          · go_wp2
            go_meet
            exact ⟨congrArg Value.bool (by rw [H5.out]; simp [f0, f1, f2, f3]), rfl⟩
  case rest =>
  obtain ⟨rfl, rfl⟩ := hcut
  cases b5
  rotate_left
  · have q := N5.out.symm
    have E := Lib.hid (show ruleF fr ev ct ti mo da we pk = 4 by rw [ruleF, if_pos Q1.out, if_neg (by rw [Q3.out]; simp), if_pos q])
    go_wp2_with fail
    go_ret
    exact ⟨by rw [E.out]; rfl, B0.out⟩
  have Q5 := Lib.hid N5.out.symm; clear H5 N5
  have hln : mo.length ≤ 12 ∧ da.length ≤ 31 ∧ we.length ≤ 20 ∧ pk.length ≤ 20 := by have q := Q5.out; simp [fullB] at q; omega
  obtain ⟨g1, g2, g3, g4⟩ := hln
  obtain ⟨i1, hi1⟩ : ∃ b : Bool, b = withinB 1 12 mo := ⟨_, rfl⟩
  obtain ⟨i2, hi2⟩ : ∃ b : Bool, b = withinB (-31) 31 da := ⟨_, rfl⟩
  obtain ⟨i3, hi3⟩ : ∃ b : Bool, b = withinB (-31) 31 pk := ⟨_, rfl⟩
  have I1 := Lib.hid hi1; have I2 := Lib.hid hi2; have I3 := Lib.hid hi3
  clear hi1 hi2 hi3
  go_wp2_with fail
  refine (rwithin_any _ mo 1 12 _ RR.out.2.1.1).mono ?_; rintro e w' ⟨rfl, rfl⟩
  rw [← I1.out]
  go_wp2_with fail
  refine (rwithin_any _ da (-31) 31 _ RR.out.2.1.2.1).mono ?_; rintro e w' ⟨rfl, rfl⟩
  rw [← I2.out]
  go_wp2_with fail
  refine (rwithin_any _ pk (-31) 31 _ RR.out.2.1.2.2.2).mono ?_; rintro e w' ⟨rfl, rfl⟩
  rw [← I3.out]
  go_upto_region 10 with fail
  obtain ⟨b10, h10⟩ : ∃ b : Bool, b = (!i1 || !i2 || !i3) := ⟨_, rfl⟩
  have H10 := Lib.hid h10; clear h10
  go_cut [98] (fun s wx => s = .bool b10 ∧ w0 = wx)
  case first => as_aux_lemma =>
    cases i1
    · go_wp2
      go_meet
      exact ⟨congrArg Value.bool (by rw [H10.out]; rfl), rfl⟩
    · cases i2
      · go_wp2
        go_meet
        exact ⟨congrArg Value.bool (by rw [H10.out]; rfl), rfl⟩
      · cases i3
        all_goals
          go_wp2
          go_meet
          exact ⟨congrArg Value.bool (by rw [H10.out]; rfl), rfl⟩
  case rest =>
  obtain ⟨rfl, rfl⟩ := hcut
  cases b10
  rotate_left
  · have q : inB2 mo da (we.any nth2B) pk = false := by
      have q := H10.out.symm
      rw [inB2, ← I1.out, ← I2.out, ← I3.out]
      revert q; cases i1 <;> cases i2 <;> cases i3 <;> simp
    have E := Lib.hid (show ruleF fr ev ct ti mo da we pk = 1 by rw [ruleF, if_pos Q1.out, if_neg (by rw [Q3.out]; simp), if_neg (by rw [Q5.out]; simp), if_neg (by rw [q]; simp)])
    go_wp2_with fail
    go_ret
    exact ⟨by rw [E.out]; rfl, B0.out⟩
  have QI := Lib.hid (show inB2 mo da (we.any nth2B) pk = !we.any nth2B by
    have q := H10.out.symm
    rw [inB2, ← I1.out, ← I2.out, ← I3.out]
    revert q; cases i1 <;> cases i2 <;> cases i3 <;> simp)
  clear H10 I1 I2 I3
  go_wp2_with fail
  go_loopg [6, 7] we.length (fun g nv iv wr => ∃ k : Nat, iv = .int .i64 k ∧ k ≤ we.length ∧ g = we.length - k ∧ nv = .bool ((we.take k).any nth1B) ∧ Hid ((we.take k).any nth2B = false) ∧ Below w0.heap.size w0 wr)
  case atStart => exact ⟨0, rfl, Nat.zero_le _, rfl, by simp, Lib.hid (by simp), Below.refl _ _⟩
  case round =>
    obtain ⟨k, rfl, hk, hg, hnv, hS, hb⟩ := hrel
    obtain ⟨n1, hn1⟩ : ∃ b : Bool, b = (we.take k).any nth1B := ⟨_, rfl⟩
    rw [← hn1] at hnv
    subst hnv
    have N1 := Lib.hid hn1; clear hn1
    have G := Lib.hid hg; have BL := Lib.hid hb; clear hg hb
    clear c0 c1 c2 c3 c4 c5 c6 c7 hl0
    obtain ⟨⟨c0, c1, c2, c3, c4, c5, c6, c7⟩, _, hl0⟩ := RR.out.below BL.out
    by_cases hlt : k < we.length
    · obtain ⟨lb, lo, rfl, hcs⟩ := WC.out (by omega)
      have e0 := cell_below (B0.out.trans (BL.out.mono B0.out.size)) (hcs k hlt).1
      have e1 := cell_below (B0.out.trans (BL.out.mono B0.out.size)) (hcs k hlt).2
      obtain ⟨x, hx⟩ : ∃ x, x = we[k].1 := ⟨_, rfl⟩
      obtain ⟨y, hy⟩ : ∃ y, y = we[k].2 := ⟨_, rfl⟩
      rw [← hx] at e0; rw [← hy] at e1
      have hbl : lb < wr.heap.size := World.block_lt_of_cell? wr _ e0
      have X := Lib.hid (show we[k] = (x, y) by rw [hx, hy])
      clear hx hy hcs
      have i1 : (0 : Int) ≤ (k : Int) := Int.natCast_nonneg _
      have i2 : (k : Int) < (we.length : Int) := by omega
      obtain ⟨t2, ht2⟩ : ∃ b : Bool, b = nth2B (x, y) := ⟨_, rfl⟩
      have T2 := Lib.hid (ht2.trans (nth2_or x y)); have U2 := Lib.hid ht2; clear ht2
      go_upto_region 17 with fail
      go_cut [128] (fun s wx => s = .bool t2 ∧ Below wr.heap.size wr wx ∧ wx.cell? ⟨wr.heap.size, 0, none⟩ = some (.int .i64 x))
      case first => as_aux_lemma =>
        cases f0 : decide (y < 1)
        rotate_left
        · go_wp2
          go_meet
          exact ⟨congrArg Value.bool (by rw [T2.out]; simp [f0]), (Below.refl _ _).alloc (Nat.le_refl _) _, by simp⟩
        · cases f1 : decide (7 < y)
          rotate_left
          · go_wp2
            go_meet
            exact ⟨congrArg Value.bool (by rw [T2.out]; simp [f0, f1]), (Below.refl _ _).alloc (Nat.le_refl _) _, by simp⟩
          · cases f2 : decide (x < -5)
            rotate_left
            · go_wp2
              go_meet
              exact ⟨congrArg Value.bool (by rw [T2.out]; simp [f0, f1, f2]), (Below.refl _ _).alloc (Nat.le_refl _) _, by simp⟩
            · cases f3 : decide (5 < x)
              rotate_left
              · go_wp2
                go_meet
                exact ⟨congrArg Value.bool (by rw [T2.out]; simp [f0, f1, f2, f3]), (Below.refl _ _).alloc (Nat.le_refl _) _, by simp⟩
              · go_wp2
                go_meet
                exact ⟨congrArg Value.bool (by rw [T2.out]; simp [f0, f1, f2, f3]), (Below.refl _ _).alloc (Nat.le_refl _) _, by simp⟩
      case rest =>
      obtain ⟨rfl, hb17, cx⟩ := hcut
      obtain ⟨wn, rfl⟩ : ∃ x, x = wc := ⟨_, rfl⟩
      have BN := Lib.hid (BL.out.trans (hb17.mono BL.out.size)); clear hb17
      clear c0 c1 c2 c3 c4 c5 c6 c7 hl0 e0 e1
      cases t2
      rotate_left
      · have q : we.any nth2B = true := any_yes hlt (by rw [X.out]; exact U2.out.symm)
        have E := Lib.hid (show ruleF fr ev ct ti mo da we pk = 1 by rw [ruleF, if_pos Q1.out, if_neg (by rw [Q3.out]; simp), if_neg (by rw [Q5.out]; simp), if_neg (by rw [QI.out, q]; simp)])
        clear q
        go_wp2_with fail
        go_ret
        exact ⟨by rw [E.out]; rfl, (B0.out.trans (BN.out.mono B0.out.size))⟩
      · have E2 := Lib.hid (any_no hlt hS.out (by rw [X.out]; exact U2.out.symm))
        have E1 := Lib.hid (any1_snoc hlt X.out)
        rw [← N1.out] at E1
        cases n1
        · go_wp2
          go_roundg (we.length - (k + 1))
          case measure => rw [G.out]; omega
          case rel => exact ⟨k + 1, by go_num, by omega, rfl, congrArg Value.bool (by rw [E1.out]; rfl), E2, BN.out⟩
        · go_wp2
          go_roundg (we.length - (k + 1))
          case measure => rw [G.out]; omega
          case rel => exact ⟨k + 1, by go_num, by omega, rfl, congrArg Value.bool (by rw [E1.out]; rfl), E2, BN.out⟩
    · have hce : k = we.length := by omega
      have QN := Lib.hid (show we.any nth2B = false by have := hS.out; rwa [hce, List.take_length] at this)
      have QI2 := Lib.hid (show inB2 mo da (we.any nth2B) pk = true by rw [QI.out, QN.out]; rfl)
      have NN := Lib.hid (show n1 = we.any nth1B by rw [N1.out, hce, List.take_length])
      have RS := Lib.hid (RR.out.below BL.out)
      have BS := Lib.hid (B0.out.trans (BL.out.mono B0.out.size))
      clear hce hS QN QI N1 G
      obtain ⟨u1, hu1⟩ : ∃ b : Bool, b = risesB mo := ⟨_, rfl⟩
      obtain ⟨u2, hu2⟩ : ∃ b : Bool, b = risesB da := ⟨_, rfl⟩
      obtain ⟨u3, hu3⟩ : ∃ b : Bool, b = risesB pk := ⟨_, rfl⟩
      have U1 := Lib.hid hu1; have U2 := Lib.hid hu2; have U3 := Lib.hid hu3
      clear hu1 hu2 hu3
      go_wp2_with fail
      refine (rrises_any _ mo _ RS.out.2.1.1).mono ?_; rintro e w1 ⟨rfl, hb1⟩
      rw [← U1.out]
      have RS1 := Lib.hid (RS.out.below hb1); have BS1 := Lib.hid (BS.out.trans (hb1.mono BS.out.size))
      clear hb1 c0 c1 c2 c3 c4 c5 c6 c7 hl0
      obtain ⟨⟨c0, c1, c2, c3, c4, c5, c6, c7⟩, _, hl0⟩ := id RS1.out
      go_wp2_with fail
      refine (rrises_any _ da _ RS1.out.2.1.2.1).mono ?_; rintro e w2 ⟨rfl, hb2⟩
      rw [← U2.out]
      have RS2 := Lib.hid (RS1.out.below hb2); have BS2 := Lib.hid (BS1.out.trans (hb2.mono BS1.out.size))
      clear hb2 c0 c1 c2 c3 c4 c5 c6 c7 hl0
      obtain ⟨⟨c0, c1, c2, c3, c4, c5, c6, c7⟩, _, hl0⟩ := id RS2.out
      go_wp2_with fail
      refine (rrises_any _ pk _ RS2.out.2.1.2.2.2).mono ?_; rintro e w3 ⟨rfl, hb3⟩
      rw [← U3.out]
      have RS3 := Lib.hid (RS2.out.below hb3); have BS3 := Lib.hid (BS2.out.trans (hb3.mono BS2.out.size))
      clear hb3 c0 c1 c2 c3 c4 c5 c6 c7 hl0
      go_wp2_with fail
      go_loopg [3, 9] we.length (fun g mv iv wx => ∃ k : Nat, iv = .int .i64 k ∧ 1 ≤ k ∧ k ≤ we.length + 1 ∧ g = we.length + 1 - k ∧ mv = .bool (u1 && decide ((we.take k).Pairwise nthLt)) ∧ Below w3.heap.size w3 wx)
      case atStart => exact ⟨1, rfl, by omega, by omega, by omega, congrArg Value.bool (by cases we <;> simp), Below.refl _ _⟩
      case round =>
        obtain ⟨k2, rfl, hk1, hk2, hg, hmv, hb⟩ := hrel
        obtain ⟨mb, hmb⟩ : ∃ b : Bool, b = (u1 && decide ((we.take k2).Pairwise nthLt)) := ⟨_, rfl⟩
        rw [← hmb] at hmv
        subst hmv
        have MB := Lib.hid hmb; clear hmb
        have G := Lib.hid hg; have BL2 := Lib.hid hb; clear hg hb
        have RT := Lib.hid (RS3.out.below BL2.out)
        have BT := Lib.hid (BS3.out.trans (BL2.out.mono BS3.out.size))
        obtain ⟨⟨c0, c1, c2, c3, c4, c5, c6, c7⟩, _, hl0⟩ := id RT.out
        by_cases hlt2 : k2 < we.length
        · obtain ⟨lb, lo, rfl, hcs⟩ := WC.out (by omega)
          have hkm : k2 - 1 < we.length := by omega
          have e0 := cell_below BT.out (hcs k2 hlt2).1
          have e1 := cell_below BT.out (hcs k2 hlt2).2
          have d0 := cell_below BT.out (hcs (k2 - 1) hkm).1
          have d1 := cell_below BT.out (hcs (k2 - 1) hkm).2
          obtain ⟨x, hx⟩ : ∃ x, x = we[k2].1 := ⟨_, rfl⟩
          obtain ⟨y, hy⟩ : ∃ y, y = we[k2].2 := ⟨_, rfl⟩
          obtain ⟨p, hp⟩ : ∃ p, p = we[k2 - 1].1 := ⟨_, rfl⟩
          obtain ⟨q, hq⟩ : ∃ q, q = we[k2 - 1].2 := ⟨_, rfl⟩
          rw [← hx] at e0; rw [← hy] at e1; rw [← hp] at d0; rw [← hq] at d1
          have hbl : lb < wr.heap.size := World.block_lt_of_cell? wr _ e0
          have E := Lib.hid (upN_snoc hlt2 (by omega) (show we[k2] = (x, y) by rw [hx, hy]) (show we[k2 - 1] = (p, q) by rw [hp, hq]))
          clear hx hy hp hq hcs
          have BO := Lib.hid ((BL2.out.alloc BL2.out.size (.cells #[.int .i64 p, .int .i64 q] 198)).alloc (by have := BL2.out.size; simp; omega) (.cells #[.int .i64 x, .int .i64 y] 198))
          have j1 : (0 : Int) ≤ (k2 : Int) := Int.natCast_nonneg _
          have j2 : (k2 : Int) < (we.length : Int) := by omega
          have s1 : IntKind.i64.wrap ((k2 : Int) - 1) = (k2 : Int) - 1 := IntWalk.i64_in _ (by omega)
          have s2 : (0 : Int) ≤ (k2 : Int) - 1 := by omega
          have s3 : (1 : Int) ≤ (k2 : Int) := by omega
          have s4 : ((k2 : Int) - 1).toNat = k2 - 1 := by omega
          have s5 : (k2 : Int) - 1 < (we.length : Int) := by omega
          cases mb
          · go_wp2
            go_roundg (we.length + 1 - (k2 + 1))
            case measure => rw [G.out]; omega
            case rel => exact ⟨k2 + 1, by go_num, by omega, by omega, rfl, congrArg Value.bool (by rw [E.out, ← Bool.and_assoc, ← MB.out]; first | rfl | simp), BO.out⟩
          · cases f1 : decide (q < y)
            · cases f2 : (q == y)
              · go_wp2
                go_roundg (we.length + 1 - (k2 + 1))
                case measure => rw [G.out]; omega
                case rel => exact ⟨k2 + 1, by go_num, by omega, by omega, rfl, congrArg Value.bool (by rw [E.out, ← Bool.and_assoc, ← MB.out, f1, f2]; first | rfl | simp), BO.out⟩
              · go_wp2
                go_roundg (we.length + 1 - (k2 + 1))
                case measure => rw [G.out]; omega
                case rel => exact ⟨k2 + 1, by go_num, by omega, by omega, rfl, congrArg Value.bool (by rw [E.out, ← Bool.and_assoc, ← MB.out, f1, f2]; first | rfl | simp), BO.out⟩
            · go_wp2
              go_roundg (we.length + 1 - (k2 + 1))
              case measure => rw [G.out]; omega
              case rel => exact ⟨k2 + 1, by go_num, by omega, by omega, rfl, congrArg Value.bool (by rw [E.out, ← Bool.and_assoc, ← MB.out, f1]; first | rfl | simp), BO.out⟩
        · have hce : we.length ≤ k2 := by omega
          have MM := Lib.hid (show mb = (u1 && risesNB we) by rw [MB.out, List.take_of_length_le hce]; rfl)
          have hge : ¬ (k2 : Int) < (we.length : Int) := by omega
          clear hce MB
          go_upto_region 29 with fail
          obtain ⟨b29, h29⟩ : ∃ b : Bool, b = (!mb || !u2 || !u3) := ⟨_, rfl⟩
          have H29 := Lib.hid h29; clear h29
          obtain ⟨wz, hwz⟩ : ∃ x, x = wr := ⟨_, rfl⟩
          rw [← hwz] at c0 c1 c2 c3 c4 c5 c6 c7 hl0 RT BT
          rw [← hwz]
          clear hwz
          go_cut [193] (fun s wx => s = .bool b29 ∧ wz = wx)
          case first => as_aux_lemma =>
            cases mb
            · go_wp2
              go_meet
              exact ⟨congrArg Value.bool (by rw [H29.out]; rfl), rfl⟩
            · cases u2
              · go_wp2
                go_meet
                exact ⟨congrArg Value.bool (by rw [H29.out]; rfl), rfl⟩
              · cases u3
                all_goals
                  go_wp2
                  go_meet
                  exact ⟨congrArg Value.bool (by rw [H29.out]; rfl), rfl⟩
          case rest =>
          obtain ⟨rfl, rfl⟩ := hcut
          have UP := Lib.hid (show upB mo da we pk = !b29 by
            rw [H29.out, MM.out, upB, ← U1.out, ← U2.out, ← U3.out]
            cases u1 <;> cases u2 <;> cases u3 <;> cases risesNB we <;> rfl)
          cases b29
          rotate_left
          · have E := Lib.hid (show ruleF fr ev ct ti mo da we pk = 7 by rw [ruleF, if_pos Q1.out, if_neg (by rw [Q3.out]; simp), if_neg (by rw [Q5.out]; simp), if_pos QI2.out, if_neg (by rw [UP.out]; simp)])
            go_wp2_with fail
            go_ret
            exact ⟨by rw [E.out]; rfl, BT.out⟩
          go_upto_region 31 with fail
          obtain ⟨qA, hqA⟩ : ∃ b : Bool, b = (n1 && decide (fr ≤ 2)) := ⟨_, rfl⟩
          obtain ⟨qB, hqB⟩ : ∃ b : Bool, b = (qA || (decide (0 < da.length) && fr == 2)) := ⟨_, rfl⟩
          obtain ⟨qC, hqC⟩ : ∃ b : Bool, b = (qB || (fr == 4 && decide (mo.length = 0) && decide (0 < da.length + we.length))) := ⟨_, rfl⟩
          obtain ⟨b31, h31⟩ : ∃ b : Bool, b = (qC || (decide (0 < pk.length) && decide (mo.length + da.length + we.length = 0))) := ⟨_, rfl⟩
          have SH := Lib.hid (show shapeB fr mo da we pk = b31 by rw [h31, hqC, hqB, hqA]; exact shape_or fr mo da we pk n1 NN.out)
          have HA := Lib.hid hqA; have HB := Lib.hid hqB; have HC := Lib.hid hqC; have HD := Lib.hid h31
          clear hqA hqB hqC h31
          go_cut [251] (fun s wx => s = .bool b31 ∧ wz = wx)
          case first => as_aux_lemma =>
            refine wp_region_lit ?_
            try simp only [List.append_eq, List.take_succ_cons, List.take_zero, List.drop_succ_cons, List.drop_zero, List.cons_append, List.nil_append]
            refine wpList_cutF 7 194 7 (fun f wx => f 6 = .bool qA ∧ wz = wx) ?_ ?_ (Nat.le_of_ble_eq_true rfl)
            · intro J hJ
              simp only [List.append_eq, List.take_succ_cons, List.take_zero, List.drop_succ_cons, List.drop_zero, List.cons_append, List.nil_append]
              cases n1
              all_goals
                go_wp2
                refine AtEnd.intro (hJ _ _ rfl rfl rfl ⟨congrArg Value.bool (by rw [HA.out]; first | rfl | simp), rfl⟩)
            · rintro f wx ⟨hq, rfl⟩
              simp only [List.append_eq, List.take_succ_cons, List.take_zero, List.drop_succ_cons, List.drop_zero, List.cons_append, List.nil_append, map_7, hq]
              clear hq
              refine wpList_cutF 11 201 11 (fun f wx => f 10 = .bool qB ∧ wz = wx) ?_ ?_ (Nat.le_of_ble_eq_true rfl)
              · intro J hJ
                simp only [List.append_eq, List.take_succ_cons, List.take_zero, List.drop_succ_cons, List.drop_zero, List.cons_append, List.nil_append]
                cases qA
                · by_cases hda : 0 < da.length
                  · have e1 : decide ((0 : Int) < (da.length : Int)) = true := decide_eq_true (by omega)
                    have e2 : decide (0 < da.length) = true := decide_eq_true hda
                    go_wp2
                    refine AtEnd.intro (hJ _ _ rfl rfl rfl ⟨congrArg Value.bool (by rw [HB.out, e2]; first | rfl | simp), rfl⟩)
                  · have e1 : decide ((0 : Int) < (da.length : Int)) = false := decide_eq_false (by omega)
                    have e2 : decide (0 < da.length) = false := decide_eq_false hda
                    go_wp2
                    refine AtEnd.intro (hJ _ _ rfl rfl rfl ⟨congrArg Value.bool (by rw [HB.out, e2]; first | rfl | simp), rfl⟩)
                · go_wp2
                  refine AtEnd.intro (hJ _ _ rfl rfl rfl ⟨congrArg Value.bool (by rw [HB.out]; first | rfl | simp), rfl⟩)
              · rintro f2 wx ⟨hq, rfl⟩
                simp only [List.append_eq, List.take_succ_cons, List.take_zero, List.drop_succ_cons, List.drop_zero, List.cons_append, List.nil_append, map_11, hq]
                clear hq
                refine wpList_cutF 21 212 21 (fun f wx => f 20 = .bool qC ∧ wz = wx) ?_ ?_ (Nat.le_of_ble_eq_true rfl)
                · intro J hJ
                  simp only [List.append_eq, List.take_succ_cons, List.take_zero, List.drop_succ_cons, List.drop_zero, List.cons_append, List.nil_append]
                  cases qB
                  · cases e3 : (fr == 4)
                    · go_wp2
                      refine AtEnd.intro (hJ _ _ rfl rfl rfl ⟨congrArg Value.bool (by rw [HC.out, e3]; first | rfl | simp), rfl⟩)
                    · by_cases hmo : mo.length = 0
                      · have e1 : ((mo.length : Int) == 0) = true := by rw [beq_iff_eq]; omega
                        have MO := Lib.hid hmo; clear hmo
                        go_wp2
                        refine AtEnd.intro (hJ _ _ rfl rfl rfl ⟨congrArg Value.bool (by rw [HC.out, e3, decide_eq_true MO.out, Bool.eq_iff_iff]; simp only [Bool.or_eq_true, Bool.and_eq_true, decide_eq_true_eq, beq_iff_eq, true_and, false_or, Bool.false_eq_true]; omega), rfl⟩)
                      · have e1 : ((mo.length : Int) == 0) = false := by rw [beq_eq_false_iff_ne]; omega
                        have e2 : decide (mo.length = 0) = false := decide_eq_false hmo
                        go_wp2
                        refine AtEnd.intro (hJ _ _ rfl rfl rfl ⟨congrArg Value.bool (by rw [HC.out, e3, e2]; first | rfl | simp), rfl⟩)
                  · go_wp2
                    refine AtEnd.intro (hJ _ _ rfl rfl rfl ⟨congrArg Value.bool (by rw [HC.out]; first | rfl | simp), rfl⟩)
                · rintro f3 wx ⟨hq, rfl⟩
                  simp only [List.append_eq, List.take_succ_cons, List.take_zero, List.drop_succ_cons, List.drop_zero, List.cons_append, List.nil_append, map_21, hq]
                  clear hq
                  cases qC
                  · by_cases hpk : 0 < pk.length
                    · have e1 : decide ((0 : Int) < (pk.length : Int)) = true := decide_eq_true (by omega)
                      have e2 : decide (0 < pk.length) = true := decide_eq_true hpk
                      go_wp2
                      go_meet
                      exact ⟨congrArg Value.bool (by rw [HD.out, e2, Bool.eq_iff_iff]; simp only [Bool.or_eq_true, Bool.and_eq_true, decide_eq_true_eq, beq_iff_eq, true_and, false_or, Bool.false_eq_true]; omega), rfl⟩
                    · have e1 : decide ((0 : Int) < (pk.length : Int)) = false := decide_eq_false (by omega)
                      have e2 : decide (0 < pk.length) = false := decide_eq_false hpk
                      go_wp2
                      go_meet
                      exact ⟨congrArg Value.bool (by rw [HD.out, e2]; first | rfl | simp), rfl⟩
                  · go_wp2
                    go_meet
                    exact ⟨congrArg Value.bool (by rw [HD.out]; first | rfl | simp), rfl⟩
          case rest =>
          obtain ⟨rfl, rfl⟩ := hcut
          cases b31
          · have E := Lib.hid (show ruleF fr ev ct ti mo da we pk = 0 by rw [ruleF, if_pos Q1.out, if_neg (by rw [Q3.out]; simp), if_neg (by rw [Q5.out]; simp), if_pos QI2.out, if_pos (by rw [UP.out]; rfl), if_neg (by rw [SH.out]; simp)])
            go_wp2_with fail
            go_ret
            exact ⟨by rw [E.out]; rfl, BT.out⟩
          · have E := Lib.hid (show ruleF fr ev ct ti mo da we pk = 3 by rw [ruleF, if_pos Q1.out, if_neg (by rw [Q3.out]; simp), if_neg (by rw [Q5.out]; simp), if_pos QI2.out, if_pos (by rw [UP.out]; rfl), if_pos SH.out])
            go_wp2_with fail
            go_ret
            exact ⟨by rw [E.out]; rfl, BT.out⟩

end Go.Proofs.YtgelojhpanbnaaaGreatDoor
