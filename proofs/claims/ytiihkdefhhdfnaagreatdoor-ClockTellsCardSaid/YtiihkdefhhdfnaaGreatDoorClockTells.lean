/- The walk of the law ClockTells. Conditions: the table of months, the library's powers of ten, its ErrSyntax and the handle of the type error lie as they are laid; texts are no longer than texts may be. -/
import Derived.Test.YtiihkdefhhdfnaaGreatDoorClkQ
namespace Go.Proofs.YtiihkdefhhdfnaaGreatDoor
open Go.RowKit Go.Shelf
set_option linter.unusedSimpArgs false
set_option linter.unusedVariables false

/-- what the law makes of a date and a minute is what Time tells. -/
theorem want_yes {y m d i : Int} (h : 0 < ofZ y m d ∧ 0 ≤ i ∧ i ≤ 1439 ∧ 0 < ofZ y m d - 1 + i) : clkT y m d i = ((ofZ y m d - 1) * 1440 + i, 0) := by
  by_cases c : Cal.dateB y m d = true
  · have e : ofZ y m d = Cal.num y m d := by rw [ofZ, if_pos c]
    rw [e] at h ⊢
    rw [clkT, if_pos ⟨c, h.2.1, by omega, by omega⟩]
  · have e : ofZ y m d = 0 := by rw [ofZ, if_neg c]
    omega

theorem want_no {y m d i : Int} (h : ¬ (0 < ofZ y m d ∧ 0 ≤ i ∧ i ≤ 1439 ∧ 0 < ofZ y m d - 1 + i)) : clkT y m d i = (0, 1) := by
  rw [clkT, if_neg]
  rintro ⟨c, h1, h2, h3⟩
  have e : ofZ y m d = Cal.num y m d := by rw [ofZ, if_pos c]
  have := Cal.num_bd c
  exact h ⟨by omega, h1, by omega, by omega⟩

theorem ofZ_bd (y m d : Int) : 0 ≤ ofZ y m d ∧ ofZ y m d ≤ 109573 := by
  rw [ofZ]; split
  · rename_i c; have := Cal.num_bd c; omega
  · omega

set_option maxRecDepth 100000 in
set_option maxHeartbeats 8000000 in
theorem clockTells_any (y m d minute t : Int) (s : List UInt8) (n : Int) (u : List UInt8) (w : World) (hM : Months w) (hP : PowT w) (hS : SynT w) (hE : ErrT w) (_ : (Lit.int .i64 y).wf = true) (_ : (Lit.int .i64 m).wf = true) (_ : (Lit.int .i64 d).wf = true) (_ : (Lit.int .i64 minute).wf = true) (_ : (Lit.int .i64 t).wf = true) (hs : s.length ≤ 9223372036854775807) (_ : (Lit.int .i64 n).wf = true) (hu : u.length ≤ 9223372036854775807) :
    Calls Tryz.prog 3 #[.agg #[.int .i64 y, .int .i64 m, .int .i64 d], .int .i64 minute, .int .i64 t, .string (bs s), .int .i64 n, .string (bs u)] w fun e w' => e = .returned (.bool true) ∧ Below w.heap.size w w' := by
  have CW := Lib.hid (show ClkW w from ⟨hM, hP, hS, hE⟩)
  obtain ⟨SB, hSB⟩ : ∃ x, x = bs s := ⟨_, rfl⟩
  obtain ⟨UB, hUB⟩ : ∃ x, x = bs u := ⟨_, rfl⟩
  rw [← hSB, ← hUB]
  have HS := Lib.hid hSB; have HU := Lib.hid hUB; have LS := Lib.hid hs; have LU := Lib.hid hu
  have B0 := Lib.hid (Below.refl w.heap.size w)
  obtain ⟨at', hat⟩ : ∃ a, a = ofZ y m d := ⟨_, rfl⟩
  obtain ⟨v, hv⟩ : ∃ v, v = clkT y m d minute := ⟨_, rfl⟩
  obtain ⟨ab0, ab1⟩ : 0 ≤ at' ∧ at' ≤ 109573 := by rw [hat]; exact ofZ_bd y m d
  obtain ⟨q, hq⟩ : ∃ q, q = decide (0 < at' ∧ 0 ≤ minute ∧ minute ≤ 1439 ∧ 0 < at' - 1 + minute) := ⟨_, rfl⟩
  have VY := Lib.hid (show q = true → 0 ≤ minute ∧ minute ≤ 1439 ∧ v = ((at' - 1) * 1440 + minute, 0) by
    intro h; rw [hq] at h; have h := of_decide_eq_true h
    exact ⟨h.2.1, h.2.2.1, by rw [hv, hat]; rw [hat] at h; exact want_yes h⟩)
  have VN := Lib.hid (show q = false → v = (0, 1) by
    intro h; rw [hq] at h; have h := of_decide_eq_false h
    rw [hv]; rw [hat] at h; exact want_no h)
  have HQ := Lib.hid hq
  have RO := Lib.hid (fun w => rof_any y m d w)
  have CT := Lib.hid (fun w (hw : ClkW w) => ctime_any y m d minute w hw.1)
  rw [← hat] at RO
  rw [← hv] at CT
  clear hM hP hS hE hSB hUB hs hu hq hat hv
  go_enter Tryz.func3, Tryz.ntmps3
  go_wp2_with fail
  obtain ⟨w0, hw0⟩ : ∃ w0, w0 = w.alloc (.cells #[.int .i64 y, .int .i64 m, .int .i64 d] 23) := ⟨_, rfl⟩
  rw [← hw0]
  have c0 : w0.cell? ⟨w.heap.size, 0, none⟩ = some (.int .i64 y) := by rw [hw0]; simp
  have c1 : w0.cell? ⟨w.heap.size, 1, none⟩ = some (.int .i64 m) := by rw [hw0]; simp
  have c2 : w0.cell? ⟨w.heap.size, 2, none⟩ = some (.int .i64 d) := by rw [hw0]; simp
  have b0 : Below w.heap.size w w0 := by rw [hw0]; exact (Below.refl _ _).alloc (Nat.le_refl _) _
  have C0 := Lib.hid (CW.out.below b0)
  have B0 := Lib.hid b0
  clear hw0 b0
  refine (RO.out w0).mono ?_; rintro e w1 ⟨rfl, hb1⟩
  have c0 := cell_below hb1 c0
  have c1 := cell_below hb1 c1
  have c2 := cell_below hb1 c2
  have C1 := Lib.hid (C0.out.below hb1)
  have B1 := Lib.hid (B0.out.trans (hb1.mono B0.out.size)); clear hb1
  go_upto_region 4 with fail
  go_cut [60] (fun s60 wx => s60 = .bool q ∧ w1 = wx)
  case first => as_aux_lemma =>
    by_cases h1 : 0 < at'
    · have t1 : decide (0 < at') = true := decide_eq_true h1
      by_cases h2 : 0 ≤ minute
      · have t2 : decide (0 ≤ minute) = true := decide_eq_true h2
        by_cases h3 : minute ≤ 1439
        · have t3 : decide (minute ≤ 1439) = true := decide_eq_true h3
          have EQ := Lib.hid (show decide (0 < at' - 1 + minute) = q by rw [HQ.out]; simp [h1, h2, h3])
          go_wp2
          go_meet
          exact ⟨by rw [EQ.out], rfl⟩
        · have t3 : decide (minute ≤ 1439) = false := decide_eq_false h3
          have EQ := Lib.hid (show q = false by rw [HQ.out]; exact decide_eq_false (fun x => h3 x.2.2.1))
          go_wp2
          go_meet
          exact ⟨by rw [EQ.out], rfl⟩
      · have t2 : decide (0 ≤ minute) = false := decide_eq_false h2
        have EQ := Lib.hid (show q = false by rw [HQ.out]; exact decide_eq_false (fun x => h2 x.2.1))
        go_wp2
        go_meet
        exact ⟨by rw [EQ.out], rfl⟩
    · have t1 : decide (0 < at') = false := decide_eq_false h1
      have EQ := Lib.hid (show q = false by rw [HQ.out]; exact decide_eq_false (fun x => h1 x.1))
      go_wp2
      go_meet
      exact ⟨by rw [EQ.out], rfl⟩
  case rest =>
  obtain ⟨rfl, rfl⟩ := hcut
  go_upto_if 60 with fail
  go_cut [14, 15] (fun a b wx => a = .int .i64 v.1 ∧ b = .int .i64 v.2 ∧ w1 = wx)
  case first => as_aux_lemma =>
    cases q
    · have EV := Lib.hid (VN.out rfl)
      go_wp2
      go_meet
      exact ⟨by rw [EV.out], by rw [EV.out], rfl⟩
    · obtain ⟨g1, g2, g3⟩ := VY.out rfl
      have EV := Lib.hid g3
      clear g3
      go_wp2
      go_meet
      exact ⟨by rw [EV.out], by rw [EV.out], rfl⟩
  case rest =>
  obtain ⟨rfl, rfl, rfl⟩ := hcut
  clear VY VN HQ
  obtain ⟨v1, v2⟩ := v
  dsimp only at CT ⊢
  go_wp2_with fail
  refine (CT.out _ C1.out).mono ?_; rintro e w2 ⟨rfl, hb2⟩
  have C2 := Lib.hid (C1.out.below hb2)
  have B2 := Lib.hid (B1.out.trans (hb2.mono B1.out.size)); clear hb2 c0 c1 c2 CT RO
  go_wp2_with fail
  refine (error_any v2 v2 w2 C2.out.2.2.2).mono ?_; rintro e w3 ⟨rfl, hb3⟩
  have C3 := Lib.hid (C2.out.below hb3)
  have B3 := Lib.hid (B2.out.trans (hb3.mono B2.out.size)); clear hb3
  go_wp2_with fail
  obtain ⟨ok, hok⟩ : ∃ b, b = timeB t := ⟨_, rfl⟩
  have RT0 := rtime_any t w3
  rw [← hok] at RT0
  have OK := Lib.hid hok
  clear hok
  refine RT0.mono ?_; rintro e w4 ⟨rfl, rfl⟩
  clear RT0
  obtain ⟨a1, b1, e1, X1, PY, PN, xz, SP, PR⟩ := parts_q t
  have HPY := Lib.hid PY; have HPN := Lib.hid PN; have HSP := Lib.hid SP; have HPR := Lib.hid PR
  clear PY PN SP PR
  go_upto_if 78 with fail
  go_cut [15, 20, 21, 22] (fun e a b x wx => e = .int .i64 e1 ∧ a = .int .i64 a1 ∧ b = .int .i64 b1 ∧ x = .string X1 ∧ Below w3.heap.size w3 wx)
  case first => as_aux_lemma =>
    cases ok
    rotate_left
    · obtain ⟨g1, g2, g3, g4⟩ := HPY.out OK.out.symm
      obtain ⟨t1, t2⟩ := timeB_yes OK.out.symm
      have G1 := Lib.hid g1; have G2 := Lib.hid g2; have G3 := Lib.hid g3; have G4 := Lib.hid g4
      clear g1 g2 g3 g4
      go_wp2_with fail
      refine (G4.out _).mono ?_; rintro e w5 ⟨rfl, hb5⟩
      go_wp2
      go_meet
      exact ⟨by rw [G3.out], by rw [G1.out], by rw [G2.out], rfl, hb5⟩
    · obtain ⟨g1, g2, g3, g4⟩ := HPN.out OK.out.symm
      have G1 := Lib.hid g1; have G2 := Lib.hid g2; have G3 := Lib.hid g3; have G4 := Lib.hid g4
      clear g1 g2 g3 g4
      go_wp2
      go_meet
      exact ⟨by rw [G3.out], by rw [G1.out], by rw [G2.out], by rw [G4.out], Below.refl _ _⟩
  case rest =>
  obtain ⟨rfl, rfl, rfl, rfl, hb4⟩ := hcut
  obtain ⟨w4, rfl⟩ : ∃ x, x = wc := ⟨_, rfl⟩
  have C4 := Lib.hid (C3.out.below hb4)
  have B4 := Lib.hid (B3.out.trans (hb4.mono B3.out.size)); clear hb4
  go_wp2_with fail
  refine (HSP.out w4).mono ?_; rintro e w5 ⟨rfl, rfl⟩
  go_wp2_with fail
  refine (error_any e1 e1 w4 C4.out.2.2.2).mono ?_; rintro e w5 ⟨rfl, hb5⟩
  have C5 := Lib.hid (C4.out.below hb5)
  have B5 := Lib.hid (B4.out.trans (hb5.mono B4.out.size)); clear hb5
  go_wp2_with fail
  refine (HPR.out w5 C5.out).mono ?_; rintro e w6 ⟨rfl, hb6⟩
  have C6 := Lib.hid (C5.out.below hb6)
  have B6 := Lib.hid (B5.out.trans (hb6.mono B5.out.size)); clear hb6
  go_wp2_with fail
  refine (error_any e1 e1 w6 C6.out.2.2.2).mono ?_; rintro e w7 ⟨rfl, hb7⟩
  have C7 := Lib.hid (C6.out.below hb7)
  have B7 := Lib.hid (B6.out.trans (hb7.mono B6.out.size)); clear hb7
  obtain ⟨⟨p1, f1⟩, RR, PP⟩ := parse_read s LS.out
  rw [← HS.out] at RR PP
  have HRR := Lib.hid RR; have HPP := Lib.hid PP
  clear RR PP
  go_wp2_with fail
  refine (HRR.out w7).mono ?_; rintro e w8 ⟨rfl, hb8⟩
  have C8 := Lib.hid (C7.out.below hb8)
  have B8 := Lib.hid (B7.out.trans (hb8.mono B7.out.size)); clear hb8
  go_wp2_with fail
  refine (HPP.out w8 C8.out).mono ?_; rintro e w9 ⟨rfl, hb9⟩
  have C9 := Lib.hid (C8.out.below hb9)
  have B9 := Lib.hid (B8.out.trans (hb9.mono B8.out.size)); clear hb9
  go_wp2_with fail
  refine (error_any f1 f1 w9 C9.out.2.2.2).mono ?_; rintro e w10 ⟨rfl, hb10⟩
  have C10 := Lib.hid (C9.out.below hb10)
  have B10 := Lib.hid (B9.out.trans (hb10.mono B9.out.size)); clear hb10
  obtain ⟨e2, l2, AY, AN, AC⟩ := add_q t n
  have HAY := Lib.hid AY; have HAN := Lib.hid AN; have HAC := Lib.hid AC
  clear AY AN AC
  obtain ⟨z, hz⟩ : ∃ b, (e1 == 0) = b := ⟨_, rfl⟩
  go_upto_if 117 with fail
  go_cut [15, 32] (fun e l wx => e = .int .i64 e2 ∧ l = .int .i64 l2 ∧ w10 = wx)
  case first => as_aux_lemma =>
    by_cases ht : timeB t = true
    · have Z := Lib.hid (HPY.out ht).2.2.1
      obtain rfl : z = true := by rw [← hz, beq_iff_eq]; exact Z.out
      obtain ⟨t1, t2⟩ := timeB_yes ht
      clear hz
      by_cases h1 : -200000000 ≤ n
      · have k1 : decide (-200000000 ≤ n) = true := decide_eq_true h1
        by_cases h2 : n ≤ 200000000
        · have k2 : decide (n ≤ 200000000) = true := decide_eq_true h2
          have RT := Lib.hid (fun w => rtime_any (t + n) w)
          by_cases h3 : timeB (t + n) = true
          · obtain ⟨g1, g2⟩ := HAY.out ht h1 h2 h3
            have G1 := Lib.hid g1; have G2 := Lib.hid g2
            clear g1 g2 ht
            go_wp2_with fail
            refine (RT.out _).mono ?_; rintro e w5 ⟨rfl, rfl⟩
            go_wp2
            go_meet
            exact ⟨by rw [G1.out], by rw [G2.out], rfl⟩
          · have h3f : timeB (t + n) = false := by simpa using h3
            obtain ⟨g1, g2⟩ := HAN.out (fun x => h3 x.2.2.2)
            have G1 := Lib.hid g1; have G2 := Lib.hid g2
            clear g1 g2 h3 ht
            go_wp2_with fail
            refine (RT.out _).mono ?_; rintro e w5 ⟨rfl, rfl⟩
            go_wp2
            go_meet
            exact ⟨by rw [G1.out], by rw [G2.out], rfl⟩
        · have k2 : decide (n ≤ 200000000) = false := decide_eq_false h2
          obtain ⟨g1, g2⟩ := HAN.out (fun x => h2 x.2.2.1)
          have G1 := Lib.hid g1; have G2 := Lib.hid g2
          clear g1 g2 ht
          go_wp2
          go_meet
          exact ⟨by rw [G1.out], by rw [G2.out], rfl⟩
      · have k1 : decide (-200000000 ≤ n) = false := decide_eq_false h1
        obtain ⟨g1, g2⟩ := HAN.out (fun x => h1 x.2.1)
        have G1 := Lib.hid g1; have G2 := Lib.hid g2
        clear g1 g2 ht
        go_wp2
        go_meet
        exact ⟨by rw [G1.out], by rw [G2.out], rfl⟩
    · have htf : timeB t = false := by simpa using ht
      have Z := Lib.hid (HPN.out htf).2.2.1
      obtain rfl : z = false := by rw [← hz, beq_eq_false_iff_ne, Z.out]; decide
      obtain ⟨g1, g2⟩ := HAN.out (fun x => ht x.1)
      have G1 := Lib.hid g1; have G2 := Lib.hid g2
      clear g1 g2 ht hz htf
      go_wp2
      go_meet
      exact ⟨by rw [G1.out, Z.out], by rw [G2.out], rfl⟩
  case rest =>
  obtain ⟨rfl, rfl, rfl⟩ := hcut
  go_wp2_with fail
  refine (HAC.out w10).mono ?_; rintro e w11 ⟨rfl, rfl⟩
  go_wp2_with fail
  refine (error_any e2 e2 w10 C10.out.2.2.2).mono ?_; rintro e w11 ⟨rfl, hb11⟩
  have C11 := Lib.hid (C10.out.below hb11)
  have B11 := Lib.hid (B10.out.trans (hb11.mono B10.out.size)); clear hb11
  obtain ⟨e3, X3, NY, NN, NC⟩ := pspan_q n
  have HNY := Lib.hid NY; have HNN := Lib.hid NN; have HNC := Lib.hid NC
  clear NY NN NC
  obtain ⟨q3, hq3⟩ : ∃ b, b = decide (n < -1000000 ∨ 1000000 < n) := ⟨_, rfl⟩
  have Q3 := Lib.hid hq3
  clear hq3
  go_upto_region 38 with fail
  go_cut [146] (fun s wx => s = .bool q3 ∧ w11 = wx)
  case first => as_aux_lemma =>
    by_cases h1 : n < -1000000
    · have k1 : decide (n < -1000000) = true := decide_eq_true h1
      have E := Lib.hid (show q3 = true by rw [Q3.out]; exact decide_eq_true (.inl h1))
      go_wp2
      go_meet
      exact ⟨by rw [E.out], rfl⟩
    · have k1 : decide (n < -1000000) = false := decide_eq_false h1
      have E := Lib.hid (show decide (1000000 < n) = q3 by rw [Q3.out]; simp [h1])
      go_wp2
      go_meet
      exact ⟨by rw [E.out], rfl⟩
  case rest =>
  obtain ⟨rfl, rfl⟩ := hcut
  go_upto_if 146 with fail
  go_cut [15, 36] (fun e x wx => e = .int .i64 e3 ∧ x = .string X3 ∧ w11 = wx)
  case first => as_aux_lemma =>
    cases q3
    · obtain ⟨g1, g2⟩ := HNN.out (of_decide_eq_false Q3.out.symm)
      have G1 := Lib.hid g1; have G2 := Lib.hid g2
      clear g1 g2
      go_wp2_with fail
      refine (G2.out _).mono ?_; rintro e w12 ⟨rfl, rfl⟩
      go_wp2
      go_meet
      exact ⟨by rw [G1.out], rfl, rfl⟩
    · obtain ⟨g1, g2⟩ := HNY.out (of_decide_eq_true Q3.out.symm)
      have G1 := Lib.hid g1; have G2 := Lib.hid g2
      clear g1 g2
      go_wp2
      go_meet
      exact ⟨by rw [G1.out], by rw [G2.out], rfl⟩
  case rest =>
  obtain ⟨rfl, rfl, rfl⟩ := hcut
  go_wp2_with fail
  refine (HNC.out w11 C11.out).mono ?_; rintro e w12 ⟨rfl, hb12⟩
  have C12 := Lib.hid (C11.out.below hb12)
  have B12 := Lib.hid (B11.out.trans (hb12.mono B11.out.size)); clear hb12
  go_wp2_with fail
  refine (error_any e3 e3 w12 C12.out.2.2.2).mono ?_; rintro e w13 ⟨rfl, hb13⟩
  have C13 := Lib.hid (C12.out.below hb13)
  have B13 := Lib.hid (B12.out.trans (hb13.mono B12.out.size)); clear hb13
  have RS := Lib.hid (fun w => rspan_any u w LU.out)
  rw [← HU.out] at RS
  go_wp2_with fail
  refine (RS.out w13).mono ?_; intro e w14 h14
  obtain ⟨⟨k4, f4⟩, rfl, rfl, SPN⟩ := span_read u w13 w13 LU.out C13.out e w14 h14
  rw [← HU.out] at SPN
  have HSPN := Lib.hid SPN
  clear SPN h14 RS
  go_wp2_with fail
  refine HSPN.out.mono ?_; rintro e w14 ⟨rfl, hb14⟩
  have C14 := Lib.hid (C13.out.below hb14)
  have B14 := Lib.hid (B13.out.trans (hb14.mono B13.out.size)); clear hb14
  go_wp2_with fail
  refine (error_any f4 f4 w14 C14.out.2.2.2).mono ?_; rintro e w15 ⟨rfl, hb15⟩
  have B15 := Lib.hid (B14.out.trans (hb15.mono B14.out.size)); clear hb15
  go_wp2
  go_ret
  exact ⟨rfl, B15.out⟩

end Go.Proofs.YtiihkdefhhdfnaaGreatDoor
