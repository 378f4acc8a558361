/- The contract of the reference chimeref1.wanted: does a rule ask for a day? Conditions: the rule's kind is right, both are days, the lists are no longer than may be. (printed by gen_refq.py) -/
import Derived.Test.YtdpngbjlljgoaaaDoorPerF
import Derived.Test.YtdpngbjlljgoaaaDoorRefP
import Derived.Test.YtdpngbjlljgoaaaDoorRefX
namespace Go.Proofs.YtdpngbjlljgoaaaDoor
open Go.RowKit
set_option linter.unusedSimpArgs false
set_option linter.unusedVariables false

theorem anyP_snoc {L : List (Int × Int)} {k : Nat} (p : Int × Int → Bool) (h : k < L.length) {x y : Int} (hx : L[k] = (x, y)) : (L.take (k + 1)).any p = ((L.take k).any p || p (x, y)) := by
  rw [List.take_succ_eq_append_getElem h, List.any_append, hx]; simp

theorem nthP_and (a1 b1 wd x y : Int) : nthP a1 wd b1 wd (x, y) = ((y == wd) && ((x == 0) || (x == a1) || (x == b1))) := by
  unfold nthP
  cases (y == wd) <;> cases (x == 0) <;> cases (x == a1) <;> cases (x == b1) <;> rfl

theorem zB_and (da : List Int) (we : List (Int × Int)) : zB da we = (((da.length : Int) == 0) && ((we.length : Int) == 0)) := by
  unfold zB
  rw [Bool.eq_iff_iff, Bool.and_eq_true, beq_iff_eq, beq_iff_eq, beq_iff_eq]
  omega

theorem week_eq (n n0 : Int) (h1 : 1 ≤ n) (h2 : 1 ≤ n0) : ((n - 1) % 7 + 1 == (n0 - 1) % 7 + 1) = ((n - n0).tmod 7 == 0) := by
  rw [Bool.eq_iff_iff, beq_iff_eq, beq_iff_eq]
  constructor
  · intro h; exact Int.tmod_eq_zero_of_dvd (by omega)
  · intro h; have := Int.dvd_of_tmod_eq_zero h; omega

theorem rends_at (n y m d sz : Int) (w : World) (hd : Cal.dateB y m d = true) (hn : Cal.num y m d = n) (hs : Cal.dim y m = sz) :
    Calls Tryd.prog 152 #[.int .i64 n] w fun e w' => e = .returned (.tuple #[.int .i64 ((d - 1) / 7 + 1), .int .i64 (-((sz - d) / 7 + 1))]) ∧ Below w.heap.size w w' := by
  subst hn; subst hs; exact rends_any y m d w hd

theorem rdays_at (y m sz : Int) (w : World) (h : Cal.monthB y m = true) (hs : Cal.dim y m = sz) :
    Calls Tryd.prog 70 #[.int .i64 y, .int .i64 m] w fun e w' => e = .returned (.int .i64 sz) ∧ w = w' := by
  subst hs; exact rdays_yes y m w h

set_option maxRecDepth 100000 in
set_option maxHeartbeats 16000000 in
theorem rwanted_any (fr ev ct ti n0 n y0 m0 d0 y m d : Int) (vm vd vw vp : Value) (mo da : List Int) (we : List (Int × Int)) (pk : List Int) (w : World)
    (h1 : IntsR w vm mo) (h2 : IntsR w vd da) (h3 : PairsR w vw we) (h4 : IntsR w vp pk) (hd0 : Cal.dateB y0 m0 d0 = true) (hn0 : Cal.num y0 m0 d0 = n0) (hd : Cal.dateB y m d = true) (hn : Cal.num y m d = n)
    (hf : 1 ≤ fr ∧ fr ≤ 4) (hl : mo.length ≤ 12 ∧ da.length ≤ 31 ∧ we.length ≤ 20) :
    Calls Tryd.prog 114 #[.agg #[.int .i64 fr, .int .i64 ev, .int .i64 ct, .int .i64 ti, vm, vd, vw, vp], .int .i64 n0, .int .i64 n] w fun e w' => e = .returned (.bool (askB fr mo da we n0 n)) ∧ Below w.heap.size w w' := by
  obtain ⟨am, km, rfl, _, mm, _⟩ := intsR_open h1
  obtain ⟨ad, kd, rfl, _, dd, _⟩ := intsR_open h2
  obtain ⟨aw, kw, rfl, wl, ww, hwc⟩ := pairsR_open h3
  obtain ⟨ap, kp, rfl, _, pp, _⟩ := intsR_open h4
  unfold maxLen at mm dd ww pp
  obtain ⟨l1, l2, l3⟩ := hl
  obtain ⟨_, _, b1, b2⟩ := Cal.num_bd hd
  obtain ⟨_, _, b3, b4⟩ := Cal.num_bd hd0
  obtain ⟨hm, q1, q2⟩ := Cal.date_yes hd
  rw [hn] at b1 b2
  rw [hn0] at b3 b4
  have hdb := Cal.dim_bd y m
  obtain ⟨sz, hsz⟩ : ∃ sz, Cal.dim y m = sz := ⟨_, rfl⟩
  rw [hsz] at q2 hdb
  obtain ⟨z1, z2⟩ := hdb
  obtain ⟨w0, hw0⟩ : ∃ x, x = w.alloc (.cells #[.int .i64 fr, .int .i64 ev, .int .i64 ct, .int .i64 ti, .slice am mo.length km, .slice ad da.length kd, .slice aw we.length kw, .slice ap pk.length kp] 25) := ⟨_, rfl⟩
  have hR := rlAt_new w 25 fr ev ct ti _ _ _ _ mo da we pk h1 h2 h3 h4
  have hb0 : Below w.heap.size w w0 := by rw [hw0]; exact (Below.refl _ _).alloc (Nat.le_refl _) _
  rw [← hw0] at hR
  obtain ⟨t1, ht1⟩ : ∃ x, x = ((mo.length : Int) == 0) := ⟨_, rfl⟩
  obtain ⟨t2, ht2⟩ : ∃ x, x = ((da.length : Int) == 0) := ⟨_, rfl⟩
  obtain ⟨t3, ht3⟩ : ∃ x, x = ((we.length : Int) == 0) := ⟨_, rfl⟩
  obtain ⟨r1, hr1⟩ : ∃ x, x = inB mo m := ⟨_, rfl⟩
  obtain ⟨r2, hr2⟩ : ∃ x, x = inB da d := ⟨_, rfl⟩
  obtain ⟨r3, hr3⟩ : ∃ x, x = inB da (d - sz - 1) := ⟨_, rfl⟩
  obtain ⟨r4, hr4⟩ : ∃ x, x = we.any (nthP ((d - 1) / 7 + 1) ((n - 1) % 7 + 1) (-((sz - d) / 7 + 1)) ((n - 1) % 7 + 1)) := ⟨_, rfl⟩
  obtain ⟨r5, hr5⟩ : ∃ x, x = ((n - n0).tmod 7 == 0) := ⟨_, rfl⟩
  obtain ⟨r6, hr6⟩ : ∃ x, x = (d == d0) := ⟨_, rfl⟩
  obtain ⟨r7, hr7⟩ : ∃ x, x = (m == m0) := ⟨_, rfl⟩
  have OK := Lib.hid (show askB fr mo da we n0 n = ((t1 || r1) && (t2 || r2 || r3) && (t3 || r4) && (!((t2 && t3) && fr == 2) || r5) && (!((t2 && t3) && decide (3 ≤ fr)) || r6) && (!(((t2 && t3) && decide (3 ≤ fr)) && t1 && fr == 4) || r7)) by
    rw [← hn0, ← hn, askB_num _ _ _ _ hd0 hd, hsz, okB, zB_and, hn, hn0, ← ht1, ← ht2, ← ht3, ← hr1, ← hr2, ← hr3, ← hr4, ← hr5, ← hr6, ← hr7])
  have T1 := Lib.hid ht1; have T2 := Lib.hid ht2; have T3 := Lib.hid ht3
  have R1 := Lib.hid hr1; have R2 := Lib.hid hr2; have R3 := Lib.hid hr3; have R4 := Lib.hid hr4; have R5 := Lib.hid (hr5.trans (week_eq n n0 b1 b3).symm); have R6 := Lib.hid hr6; have R7 := Lib.hid hr7
  have D := Lib.hid hd; have N := Lib.hid hn; have D0 := Lib.hid hd0; have N0 := Lib.hid hn0; have MB := Lib.hid hm; have SZ := Lib.hid hsz; have WC := Lib.hid hwc
  have RR := Lib.hid hR; have B0 := Lib.hid hb0; have W0 := Lib.hid hw0; have HF := Lib.hid hf
  clear ht1 ht2 ht3 hr1 hr2 hr3 hr4 hr5 hr6 hr7 hd hn hd0 hn0 hm hsz hwc hR hb0 hw0 h1 h2 h3 h4 hf
  go_enter Tryd.func114, Tryd.ntmps114
  go_wp2_with fail
  rw [← W0.out]
  refine (rdate_at n y m d _ D.out N.out).mono ?_; rintro e w1 ⟨rfl, hb1⟩
  obtain ⟨x1, hx1⟩ : ∃ x, x = w1.alloc (.cells #[.int .i64 y, .int .i64 m, .int .i64 d] 42) := ⟨_, rfl⟩
  obtain ⟨db, hdb⟩ : ∃ x, x = w1.heap.size := ⟨_, rfl⟩
  have hbx : Below w1.heap.size w1 x1 := by rw [hx1]; exact (Below.refl _ _).alloc (Nat.le_refl _) _
  have f0 : x1.cell? ⟨db, 0, none⟩ = some (.int .i64 y) := by rw [hx1, hdb]; simp
  have f1 : x1.cell? ⟨db, 1, none⟩ = some (.int .i64 m) := by rw [hx1, hdb]; simp
  have f2 : x1.cell? ⟨db, 2, none⟩ = some (.int .i64 d) := by rw [hx1, hdb]; simp
  have RR1 := Lib.hid ((RR.out.below hb1).below hbx); have B1 := Lib.hid ((B0.out.trans (hb1.mono B0.out.size)).trans (hbx.mono (B0.out.trans (hb1.mono B0.out.size)).size))
  have X1 := Lib.hid hx1; have DB := Lib.hid hdb; have F := Lib.hid (And.intro f0 (And.intro f1 f2))
  clear hb1 hbx hx1 hdb f0 f1 f2
  go_wp2_with fail
  rw [← X1.out, ← DB.out]
  refine (rdate_at n0 y0 m0 d0 _ D0.out N0.out).mono ?_; rintro e w2 ⟨rfl, hb2⟩
  obtain ⟨x2, hx2⟩ : ∃ x, x = w2.alloc (.cells #[.int .i64 y0, .int .i64 m0, .int .i64 d0] 42) := ⟨_, rfl⟩
  obtain ⟨sb, hsb⟩ : ∃ x, x = w2.heap.size := ⟨_, rfl⟩
  have hbx : Below w2.heap.size w2 x2 := by rw [hx2]; exact (Below.refl _ _).alloc (Nat.le_refl _) _
  have g1 : x2.cell? ⟨sb, 1, none⟩ = some (.int .i64 m0) := by rw [hx2, hsb]; simp
  have g2 : x2.cell? ⟨sb, 2, none⟩ = some (.int .i64 d0) := by rw [hx2, hsb]; simp
  have RR2 := Lib.hid ((RR1.out.below hb2).below hbx); have B2 := Lib.hid ((B1.out.trans (hb2.mono B1.out.size)).trans (hbx.mono (B1.out.trans (hb2.mono B1.out.size)).size))
  have F2 := Lib.hid (And.intro (cell_below hbx (cell_below hb2 F.out.1)) (And.intro (cell_below hbx (cell_below hb2 F.out.2.1)) (And.intro (cell_below hbx (cell_below hb2 F.out.2.2)) (And.intro g1 g2))))
  have X2 := Lib.hid hx2; have SB := Lib.hid hsb
  clear hb2 hbx hx2 hsb g1 g2
  obtain ⟨f0, f1, f2, g1, g2⟩ := F2.out
  obtain ⟨⟨c0, c1, c2, c3, c4, c5, c6, c7⟩, _, hl0⟩ := id RR2.out
  go_upto_region 3 with fail
  rw [← X2.out, ← SB.out]
  go_wp2_with fail
  refine (rdays_at y m sz _ MB.out SZ.out).mono ?_; rintro e w' ⟨rfl, rfl⟩
  go_wp2_with fail
  refine (rin_any _ mo m _ RR2.out.2.1.1).mono ?_; rintro e w' ⟨rfl, rfl⟩
  rw [← R1.out]
  go_upto_region 5 with fail
  obtain ⟨a5, h5⟩ : ∃ x, x = (!t1 && !r1) := ⟨_, rfl⟩
  have H5 := Lib.hid h5; clear h5
  go_cut [47] (fun s wx => s = .bool a5 ∧ x2 = wx)
  case first => as_aux_lemma =>
    cases t1
    · have e1 : decide ((0 : Int) < (mo.length : Int)) = true := by have := T1.out.symm; rw [beq_eq_false_iff_ne] at this; exact decide_eq_true (by omega)
      have e1n : decide (0 < mo.length) = true := by have := T1.out.symm; rw [beq_eq_false_iff_ne] at this; exact decide_eq_true (by omega)
      go_wp2
      go_meet
      exact ⟨congrArg Value.bool (by rw [H5.out]; cases r1 <;> rfl), rfl⟩
    · have e1 : decide ((0 : Int) < (mo.length : Int)) = false := by have := T1.out.symm; rw [beq_iff_eq] at this; exact decide_eq_false (by omega)
      have e1n : decide (0 < mo.length) = false := by have := T1.out.symm; rw [beq_iff_eq] at this; exact decide_eq_false (by omega)
      go_wp2
      go_meet
      exact ⟨congrArg Value.bool (by rw [H5.out]; rfl), rfl⟩
  case rest =>
  obtain ⟨rfl, rfl⟩ := hcut
  cases a5
  rotate_left
  · have E := Lib.hid (show askB fr mo da we n0 n = false by rw [OK.out]; have h := H5.out; revert h; cases t1 <;> cases r1 <;> simp)
    go_wp2_with fail
    go_ret
    exact ⟨by rw [E.out]; rfl, B2.out⟩
  have O1 := Lib.hid (show (t1 || r1) = true by have h := H5.out; revert h; cases t1 <;> cases r1 <;> simp)
  have i1 : -40 ≤ d - sz - 1 := by omega
  have i2 : d - sz - 1 ≤ 40 := by omega
  go_wp2_with fail
  refine (rin_any _ da d _ RR2.out.2.1.2.1).mono ?_; rintro e w' ⟨rfl, rfl⟩
  rw [← R2.out]
  go_wp2_with fail
  refine (rin_any _ da (d - sz - 1) _ RR2.out.2.1.2.1).mono ?_; rintro e w' ⟨rfl, rfl⟩
  rw [← R3.out]
  go_upto_region 9 with fail
  obtain ⟨a9, h9⟩ : ∃ x, x = (!t2 && !r2 && !r3) := ⟨_, rfl⟩
  have H9 := Lib.hid h9; clear h9
  go_cut [72] (fun s wx => s = .bool a9 ∧ x2 = wx)
  case first => as_aux_lemma =>
    cases t2
    · have e1 : decide ((0 : Int) < (da.length : Int)) = true := by have := T2.out.symm; rw [beq_eq_false_iff_ne] at this; exact decide_eq_true (by omega)
      have e1n : decide (0 < da.length) = true := by have := T2.out.symm; rw [beq_eq_false_iff_ne] at this; exact decide_eq_true (by omega)
      cases r2
      all_goals
        go_wp2
        go_meet
        exact ⟨congrArg Value.bool (by rw [H9.out]; cases r3 <;> rfl), rfl⟩
    · have e1 : decide ((0 : Int) < (da.length : Int)) = false := by have := T2.out.symm; rw [beq_iff_eq] at this; exact decide_eq_false (by omega)
      have e1n : decide (0 < da.length) = false := by have := T2.out.symm; rw [beq_iff_eq] at this; exact decide_eq_false (by omega)
      go_wp2
      go_meet
      exact ⟨congrArg Value.bool (by rw [H9.out]; rfl), rfl⟩
  case rest =>
  obtain ⟨rfl, rfl⟩ := hcut
  cases a9
  rotate_left
  · have E := Lib.hid (show askB fr mo da we n0 n = false by rw [OK.out]; have h := H9.out; revert h; cases t2 <;> cases r2 <;> cases r3 <;> simp)
    go_wp2_with fail
    go_ret
    exact ⟨by rw [E.out]; rfl, B2.out⟩
  have O2 := Lib.hid (show (t2 || r2 || r3) = true by have h := H9.out; revert h; cases t2 <;> cases r2 <;> cases r3 <;> simp)
  go_wp2_with fail
  refine (rends_at n y m d sz _ D.out N.out SZ.out).mono ?_; rintro e w3 ⟨rfl, hb3⟩
  have RR3 := Lib.hid (RR2.out.below hb3); have B3 := Lib.hid (B2.out.trans (hb3.mono B2.out.size))
  have F3 := Lib.hid (And.intro (cell_below hb3 f0) (And.intro (cell_below hb3 f1) (And.intro (cell_below hb3 f2) (And.intro (cell_below hb3 g1) (cell_below hb3 g2)))))
  clear hb3 f0 f1 f2 g1 g2 c0 c1 c2 c3 c4 c5 c6 c7 hl0
  obtain ⟨a1, ha1⟩ : ∃ x, x = (d - 1) / 7 + 1 := ⟨_, rfl⟩
  obtain ⟨a2, ha2⟩ : ∃ x, x = -((sz - d) / 7 + 1) := ⟨_, rfl⟩
  obtain ⟨wd, hwd⟩ : ∃ x, x = (n - 1) % 7 + 1 := ⟨_, rfl⟩
  have A1 := Lib.hid ha1; have A2 := Lib.hid ha2; have WD := Lib.hid hwd
  rw [← ha1, ← ha2]
  clear ha1 ha2 hwd
  obtain ⟨⟨c0, c1, c2, c3, c4, c5, c6, c7⟩, _, hl0⟩ := id RR3.out
  go_upto_region 13 with fail
  rw [← T3.out]
  have PZ := Lib.hid (show r4 = we.any (nthP a1 wd a2 wd) by rw [R4.out, A1.out, A2.out, WD.out])
  go_wp2_with fail
  clear c0 c1 c2 c3 c4 c5 c6 c7 hl0
  go_loopg [17, 18] we.length (fun g fv iv wr => ∃ k : Nat, iv = .int .i64 k ∧ k ≤ we.length ∧ g = we.length - k ∧ fv = .bool (t3 || (we.take k).any (nthP a1 wd a2 wd)) ∧ Below w3.heap.size w3 wr)
  case atStart => exact ⟨0, rfl, Nat.zero_le _, rfl, congrArg Value.bool (by simp), Below.refl _ _⟩
  case round =>
    obtain ⟨k, rfl, hk, hg, hfv, hb⟩ := hrel
    obtain ⟨fb, hfb⟩ : ∃ x, x = (t3 || (we.take k).any (nthP a1 wd a2 wd)) := ⟨_, rfl⟩
    rw [← hfb] at hfv
    subst hfv
    have FB := Lib.hid hfb; have G := Lib.hid hg; have BL := Lib.hid hb
    clear hfb hg hb
    have RL := Lib.hid (RR3.out.below BL.out); have BW := Lib.hid (B3.out.trans (BL.out.mono B3.out.size))
    obtain ⟨⟨c0, c1, c2, c3, c4, c5, c6, c7⟩, _, hl0⟩ := id RL.out
    by_cases hlt : k < we.length
    · obtain ⟨lb, lo, rfl, hcs⟩ := WC.out (by omega)
      have e0 := cell_below BW.out (hcs k hlt).1
      have e1 := cell_below BW.out (hcs k hlt).2
      obtain ⟨x, hx⟩ : ∃ x, x = we[k].1 := ⟨_, rfl⟩
      obtain ⟨u, hu⟩ : ∃ u, u = we[k].2 := ⟨_, rfl⟩
      rw [← hx] at e0; rw [← hu] at e1
      have hbl : lb < wr.heap.size := World.block_lt_of_cell? wr _ e0
      have X := Lib.hid (show we[k] = (x, u) by rw [hx, hu])
      clear hx hu hcs
      have i3 : (0 : Int) ≤ (k : Int) := Int.natCast_nonneg _
      have i4 : (k : Int) < (we.length : Int) := by omega
      obtain ⟨p1, hp1⟩ : ∃ b, b = (u == wd) := ⟨_, rfl⟩
      obtain ⟨p2, hp2⟩ : ∃ b, b = (x == 0) := ⟨_, rfl⟩
      obtain ⟨p3, hp3⟩ : ∃ b, b = (x == a1) := ⟨_, rfl⟩
      obtain ⟨p4, hp4⟩ : ∃ b, b = (x == a2) := ⟨_, rfl⟩
      have E := Lib.hid (show (t3 || (we.take (k + 1)).any (nthP a1 wd a2 wd)) = (fb || (p1 && (p2 || p3 || p4))) by rw [anyP_snoc _ hlt X.out, nthP_and, ← Bool.or_assoc, ← FB.out, hp1, hp2, hp3, hp4])
      have P1 := Lib.hid hp1; have P2 := Lib.hid hp2; have P3 := Lib.hid hp3; have P4 := Lib.hid hp4
      clear hp1 hp2 hp3 hp4
      go_upto_region 17 with fail
      have hA : Below wr.heap.size wr (wr.alloc (.cells #[.int .i64 x, .int .i64 u] 31)) := (Below.refl _ _).alloc (Nat.le_refl _) _
      have k0 : (wr.alloc (.cells #[.int .i64 x, .int .i64 u] 31)).cell? ⟨wr.heap.size, 0, none⟩ = some (.int .i64 x) := by simp
      have k1 : (wr.alloc (.cells #[.int .i64 x, .int .i64 u] 31)).cell? ⟨wr.heap.size, 1, none⟩ = some (.int .i64 u) := by simp
      obtain ⟨wn, hwn⟩ : ∃ v, v = wr.alloc (.cells #[.int .i64 x, .int .i64 u] 31) := ⟨_, rfl⟩
      rw [← hwn] at hA k0 k1
      rw [← hwn]
      have HA := Lib.hid hA; clear hwn hA c0 c1 c2 c3 c4 c5 c6 c7 hl0 e0 e1
      cases fb
      · cases p1
        · have y1 : (u == (n - 1) % 7 + 1) = false := by rw [← WD.out]; exact P1.out.symm
          refine wp_region_quiet_lit (by kernel_rfl) (by kernel_rfl) ?_
          try simp only [List.append_eq, List.cons_append, List.nil_append]
          repeat (go_big_quiet_step ((go_at_call 153; exact quiet_l (rweekday_any _ _ (by omega) (by omega)))))
          refine wpQuiet_nil ?_
          intro _ hw'
          obtain ⟨nq, hw''⟩ := hw'
          subst hw''
          go_wp2
          go_roundg (we.length - (k + 1))
          case measure => rw [G.out]; omega
          case rel => exact ⟨k + 1, by go_num, by omega, rfl, congrArg Value.bool (by rw [E.out]; rfl), BL.out.trans ((below_drewN HA.out _).mono BL.out.size)⟩
        · have y1 : (u == (n - 1) % 7 + 1) = true := by rw [← WD.out]; exact P1.out.symm
          cases p2
          · have y2 : (x == 0) = false := P2.out.symm
            cases p3
            · have y3 : (x == a1) = false := P3.out.symm
              have y4 : (x == a2) = p4 := P4.out.symm
              refine wp_region_quiet_lit (by kernel_rfl) (by kernel_rfl) ?_
              try simp only [List.append_eq, List.cons_append, List.nil_append]
              repeat (go_big_quiet_step ((go_at_call 153; exact quiet_l (rweekday_any _ _ (by omega) (by omega)))))
              refine wpQuiet_nil ?_
              intro _ hw'
              obtain ⟨nq, hw''⟩ := hw'
              subst hw''
              go_wp2
              go_roundg (we.length - (k + 1))
              case measure => rw [G.out]; omega
              case rel => exact ⟨k + 1, by go_num, by omega, rfl, congrArg Value.bool (by rw [E.out]; cases p4 <;> rfl), BL.out.trans ((below_drewN HA.out _).mono BL.out.size)⟩
            · have y3 : (x == a1) = true := P3.out.symm
              refine wp_region_quiet_lit (by kernel_rfl) (by kernel_rfl) ?_
              try simp only [List.append_eq, List.cons_append, List.nil_append]
              repeat (go_big_quiet_step ((go_at_call 153; exact quiet_l (rweekday_any _ _ (by omega) (by omega)))))
              refine wpQuiet_nil ?_
              intro _ hw'
              obtain ⟨nq, hw''⟩ := hw'
              subst hw''
              go_wp2
              go_roundg (we.length - (k + 1))
              case measure => rw [G.out]; omega
              case rel => exact ⟨k + 1, by go_num, by omega, rfl, congrArg Value.bool (by rw [E.out]; rfl), BL.out.trans ((below_drewN HA.out _).mono BL.out.size)⟩
          · have y2 : (x == 0) = true := P2.out.symm
            refine wp_region_quiet_lit (by kernel_rfl) (by kernel_rfl) ?_
            try simp only [List.append_eq, List.cons_append, List.nil_append]
            repeat (go_big_quiet_step ((go_at_call 153; exact quiet_l (rweekday_any _ _ (by omega) (by omega)))))
            refine wpQuiet_nil ?_
            intro _ hw'
            obtain ⟨nq, hw''⟩ := hw'
            subst hw''
            go_wp2
            go_roundg (we.length - (k + 1))
            case measure => rw [G.out]; omega
            case rel => exact ⟨k + 1, by go_num, by omega, rfl, congrArg Value.bool (by rw [E.out]; rfl), BL.out.trans ((below_drewN HA.out _).mono BL.out.size)⟩
      · refine wp_region_quiet_lit (by kernel_rfl) (by kernel_rfl) ?_
        try simp only [List.append_eq, List.cons_append, List.nil_append]
        repeat (go_big_quiet_step ((go_at_call 153; exact quiet_l (rweekday_any _ _ (by omega) (by omega)))))
        refine wpQuiet_nil ?_
        intro _ hw'
        obtain ⟨nq, hw''⟩ := hw'
        subst hw''
        go_wp2
        go_roundg (we.length - (k + 1))
        case measure => rw [G.out]; omega
        case rel => exact ⟨k + 1, by go_num, by omega, rfl, congrArg Value.bool (by rw [E.out]; rfl), BL.out.trans ((below_drewN HA.out _).mono BL.out.size)⟩
    · have hce : k = we.length := by omega
      have FF := Lib.hid (show fb = (t3 || r4) by rw [FB.out, PZ.out, hce, List.take_length])
      have hge : ¬ (k : Int) < (we.length : Int) := by omega
      clear hce FB
      cases fb
      · have E := Lib.hid (show askB fr mo da we n0 n = false by rw [OK.out, ← FF.out]; simp)
        go_wp2_with fail
        go_ret
        exact ⟨by rw [E.out]; rfl, BW.out⟩
      go_upto_region 20 with fail
      obtain ⟨wz, hwz⟩ : ∃ x, x = wr := ⟨_, rfl⟩
      have F4 := Lib.hid (And.intro (cell_below BL.out F3.out.1) (And.intro (cell_below BL.out F3.out.2.1) (And.intro (cell_below BL.out F3.out.2.2.1) (And.intro (cell_below BL.out F3.out.2.2.2.1) (cell_below BL.out F3.out.2.2.2.2)))))
      rw [← hwz] at c0 c1 c2 c3 c4 c5 c6 c7 hl0 RL BW F4
      rw [← hwz]
      clear hwz BL
      obtain ⟨f0, f1, f2, g1, g2⟩ := F4.out
      obtain ⟨a20, h20⟩ : ∃ x, x = (!t2 || !t3 || fr == 1) := ⟨_, rfl⟩
      have H20 := Lib.hid h20; clear h20
      go_cut [135] (fun s wx => s = .bool a20 ∧ wz = wx)
      case first => as_aux_lemma =>
        cases t2
        · have e1 : decide ((0 : Int) < (da.length : Int)) = true := by have := T2.out.symm; rw [beq_eq_false_iff_ne] at this; exact decide_eq_true (by omega)
          have e1n : decide (0 < da.length) = true := by have := T2.out.symm; rw [beq_eq_false_iff_ne] at this; exact decide_eq_true (by omega)
          go_wp2
          go_meet
          exact ⟨congrArg Value.bool (by rw [H20.out]; rfl), rfl⟩
        · have e1 : decide ((0 : Int) < (da.length : Int)) = false := by have := T2.out.symm; rw [beq_iff_eq] at this; exact decide_eq_false (by omega)
          have e1n : decide (0 < da.length) = false := by have := T2.out.symm; rw [beq_iff_eq] at this; exact decide_eq_false (by omega)
          cases t3
          · have e2 : decide ((0 : Int) < (we.length : Int)) = true := by have := T3.out.symm; rw [beq_eq_false_iff_ne] at this; exact decide_eq_true (by omega)
            have e2n : decide (0 < we.length) = true := by have := T3.out.symm; rw [beq_eq_false_iff_ne] at this; exact decide_eq_true (by omega)
            go_wp2
            go_meet
            exact ⟨congrArg Value.bool (by rw [H20.out]; rfl), rfl⟩
          · have e2 : decide ((0 : Int) < (we.length : Int)) = false := by have := T3.out.symm; rw [beq_iff_eq] at this; exact decide_eq_false (by omega)
            have e2n : decide (0 < we.length) = false := by have := T3.out.symm; rw [beq_iff_eq] at this; exact decide_eq_false (by omega)
            go_wp2
            go_meet
            exact ⟨congrArg Value.bool (by rw [H20.out]; rfl), rfl⟩
      case rest =>
      obtain ⟨rfl, rfl⟩ := hcut
      obtain ⟨hf1, hf2⟩ := HF.out
      cases a20
      rotate_left
      · have E := Lib.hid (show askB fr mo da we n0 n = true by
          rw [OK.out, O1.out, O2.out, ← FF.out]
          have h := H20.out.symm
          by_cases h1 : fr = 1
          · subst h1; simp
          · have h1' : (fr == 1) = false := by rw [beq_eq_false_iff_ne]; exact h1
            rw [h1'] at h
            revert h; cases t2 <;> cases t3 <;> simp)
        go_wp2_with fail
        go_ret
        exact ⟨by rw [E.out]; rfl, BW.out⟩
      have hz : t2 = true ∧ t3 = true ∧ fr ≠ 1 := by
        have h := H20.out.symm
        by_cases h1 : fr = 1
        · subst h1; simp at h
        · have h1' : (fr == 1) = false := by rw [beq_eq_false_iff_ne]; exact h1
          rw [h1'] at h
          revert h; cases t2 <;> cases t3 <;> simp [h1]
      obtain ⟨rfl, rfl, hfr⟩ := hz
      have hfr2 : fr = 2 ∨ fr = 3 ∨ fr = 4 := by omega
      clear hf1 hf2 hfr
      rcases hfr2 with rfl | rfl | rfl
      · have E := Lib.hid (show askB 2 mo da we n0 n = ((n - 1) % 7 + 1 == (n0 - 1) % 7 + 1) by rw [OK.out, O1.out, O2.out, ← FF.out, ← R5.out]; cases r5 <;> cases t1 <;> rfl)
        go_wp2_with fail
        refine (rweekday_any n _ b1 (by omega)).mono ?_; rintro e w' ⟨rfl, rfl⟩
        go_wp2_with fail
        refine (rweekday_any n0 _ b3 (by omega)).mono ?_; rintro e w' ⟨rfl, rfl⟩
        go_wp2
        go_ret
        exact ⟨by rw [E.out]; first | rfl | simp, BW.out⟩
      · cases r6
        · have e6 : (d != d0) = true := by have := R6.out.symm; simpa using this
          have E := Lib.hid (show askB 3 mo da we n0 n = false by rw [OK.out, O1.out, O2.out, ← FF.out]; cases r5 <;> cases t1 <;> rfl)
          go_wp2
          go_ret
          exact ⟨by rw [E.out]; rfl, BW.out⟩
        · have e6 : (d != d0) = false := by have := R6.out.symm; simpa using this
          have E := Lib.hid (show askB 3 mo da we n0 n = true by rw [OK.out, O1.out, O2.out, ← FF.out]; cases r5 <;> cases t1 <;> cases r7 <;> rfl)
          go_wp2
          go_ret
          exact ⟨by rw [E.out]; rfl, BW.out⟩
      · cases r6
        · have e6 : (d != d0) = true := by have := R6.out.symm; simpa using this
          have E := Lib.hid (show askB 4 mo da we n0 n = false by rw [OK.out, O1.out, O2.out, ← FF.out]; cases r5 <;> cases t1 <;> rfl)
          go_wp2
          go_ret
          exact ⟨by rw [E.out]; rfl, BW.out⟩
        · have e6 : (d != d0) = false := by have := R6.out.symm; simpa using this
          cases t1
          · have e1 : decide ((0 : Int) < (mo.length : Int)) = true := by have := T1.out.symm; rw [beq_eq_false_iff_ne] at this; exact decide_eq_true (by omega)
            have e1n : decide (0 < mo.length) = true := by have := T1.out.symm; rw [beq_eq_false_iff_ne] at this; exact decide_eq_true (by omega)
            have E := Lib.hid (show askB 4 mo da we n0 n = true by rw [OK.out, O1.out, O2.out, ← FF.out]; cases r5 <;> cases r7 <;> rfl)
            go_wp2
            go_ret
            exact ⟨by rw [E.out]; rfl, BW.out⟩
          · have e1 : decide ((0 : Int) < (mo.length : Int)) = false := by have := T1.out.symm; rw [beq_iff_eq] at this; exact decide_eq_false (by omega)
            have e1n : decide (0 < mo.length) = false := by have := T1.out.symm; rw [beq_iff_eq] at this; exact decide_eq_false (by omega)
            have E := Lib.hid (show askB 4 mo da we n0 n = (m == m0) by rw [OK.out, O1.out, O2.out, ← FF.out, ← R7.out]; cases r5 <;> cases r7 <;> rfl)
            go_wp2
            go_ret
            exact ⟨by rw [E.out]; first | rfl | simp, BW.out⟩

end Go.Proofs.YtdpngbjlljgoaaaDoor
