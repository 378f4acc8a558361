/- The reference's readings of times: ReadDate, Read, and the text of a span: Span: their contracts. Condition: the text is no longer than a text may be. -/
import Derived.Test.YtiihkdefhhdfnaaGreatDoorRefCa
import Derived.Test.YtiihkdefhhdfnaaGreatDoorClkE
namespace Go.Proofs.YtiihkdefhhdfnaaGreatDoor
open Go.RowKit Go.Shelf
set_option linter.unusedSimpArgs false
set_option linter.unusedVariables false

/-- the day of a date, 0 if there is none. -/
def ofZ (y m d : Int) : Int := if Cal.dateB y m d = true then Cal.num y m d else 0

theorem rof_any (y m d : Int) (w : World) :
    Calls Tryz.prog 4 #[.agg #[.int .i64 y, .int .i64 m, .int .i64 d]] w fun e w' => e = .returned (.int .i64 (ofZ y m d)) ∧ Below w.heap.size w w' := by
  cases h : Cal.dateB y m d
  · refine (rof_no y m d w h).mono fun e w' hh => ?_
    rw [ofZ, h]; exact hh
  · refine (rof_yes y m d w h).mono fun e w' hh => ?_
    rw [ofZ, h]; exact hh

theorem dg3 (l : List UInt8) (a b : Nat) (w : World) (hab : a ≤ b) (hb : b ≤ l.length) (h18 : b - a ≤ 18) (hl : l.length ≤ 140737488351232) (av bv : Int) (ha : av = (a : Int)) (hbv : bv = (b : Int)) :
    Calls Tryz.prog 30 #[.string (bs l), .int .i64 av, .int .i64 bv] w fun e w' => e = .returned (.tuple #[.int .i64 (digN (segL l a b)), .bool (digO (segL l a b))]) ∧ Below w.heap.size w w' := by
  rw [ha, hbv]; exact rdig_any l a b w hab hb h18 hl

set_option maxRecDepth 100000 in
set_option maxHeartbeats 2000000 in
/-- a date's text that has its two strokes. -/
theorem rreadd_any (l : List UInt8) (w : World) (hl : l.length = 10) (b : Bool) (hb : b = (decide (l[4] = 45) && decide (l[7] = 45))) :
    Calls Tryz.prog 29 #[.string (bs l)] w fun e w' => e = .returned (.tuple #[.int .i64 (if b = true then ofZ (digN (segL l 0 4)) (digN (segL l 5 7)) (digN (segL l 8 10)) else 0), .bool (b && (digO (segL l 0 4) && digO (segL l 5 7) && digO (segL l 8 10)))]) ∧ Below w.heap.size w w' := by
  obtain ⟨s, hs⟩ : ∃ s, s = bs l := ⟨_, rfl⟩
  have sz : s.size = 10 := by rw [hs, bs_size, hl]
  obtain ⟨n4, h4⟩ : ∃ n : Int, n = (l[4].toNat : Int) := ⟨_, rfl⟩
  obtain ⟨n7, h7⟩ : ∃ n : Int, n = (l[7].toNat : Int) := ⟨_, rfl⟩
  have c4 : ((s[4]'(by omega)).toNat : Int) = n4 := by rw [h4]; subst hs; rw [bs_get l 4 (by omega)]; rfl
  have c7 : ((s[7]'(by omega)).toNat : Int) = n7 := by rw [h7]; subst hs; rw [bs_get l 7 (by omega)]; rfl
  have e4 : (n4 == 45) = decide (l[4] = 45) := byte_num (d := 45) h4 rfl
  have e7 : (n7 == 45) = decide (l[7] = 45) := byte_num (d := 45) h7 rfl
  have G1 := Lib.hid (fun w => dg3 l 0 4 w (by omega) (by omega) (by omega) (by omega) 0 4 rfl rfl)
  have G2 := Lib.hid (fun w => dg3 l 5 7 w (by omega) (by omega) (by omega) (by omega) 5 7 rfl rfl)
  have G3 := Lib.hid (fun w => dg3 l 8 10 w (by omega) (by omega) (by omega) (by omega) 8 10 rfl rfl)
  rw [← hs] at G1 G2 G3 ⊢
  obtain ⟨v1, hv1⟩ : ∃ v, v = digN (segL l 0 4) := ⟨_, rfl⟩
  obtain ⟨v2, hv2⟩ : ∃ v, v = digN (segL l 5 7) := ⟨_, rfl⟩
  obtain ⟨v3, hv3⟩ : ∃ v, v = digN (segL l 8 10) := ⟨_, rfl⟩
  obtain ⟨o1, ho1⟩ : ∃ v, v = digO (segL l 0 4) := ⟨_, rfl⟩
  obtain ⟨o2, ho2⟩ : ∃ v, v = digO (segL l 5 7) := ⟨_, rfl⟩
  obtain ⟨o3, ho3⟩ : ∃ v, v = digO (segL l 8 10) := ⟨_, rfl⟩
  rw [← hv1, ← ho1] at G1
  rw [← hv2, ← ho2] at G2
  rw [← hv3, ← ho3] at G3
  rw [← hv1, ← hv2, ← hv3, ← ho1, ← ho2, ← ho3]
  clear hv1 hv2 hv3 ho1 ho2 ho3 h4 h7 hs
  obtain ⟨x4, hx4⟩ : ∃ x, x = decide (l[4] = 45) := ⟨_, rfl⟩
  obtain ⟨x7, hx7⟩ : ∃ x, x = decide (l[7] = 45) := ⟨_, rfl⟩
  rw [← hx4] at e4 hb
  rw [← hx7] at e7 hb
  clear hx4 hx7
  subst hb
  have f4 : (n4 != 45) = !x4 := by rw [bne, e4]
  have f7 : (n7 != 45) = !x7 := by rw [bne, e7]
  cases x4
  · go_enter Tryz.func29, Tryz.ntmps29
    go_wp2
    go_ret2
    exact ⟨rfl, Below.refl _ _⟩
  cases x7
  · go_enter Tryz.func29, Tryz.ntmps29
    go_wp2
    go_ret2
    exact ⟨rfl, Below.refl _ _⟩
  go_enter Tryz.func29, Tryz.ntmps29
  go_wp2_with fail
  refine (G1.out _).mono ?_; rintro e w1 ⟨rfl, hb1⟩
  have B1 := Lib.hid hb1; clear hb1
  go_wp2_with fail
  refine (G2.out _).mono ?_; rintro e w2 ⟨rfl, hb2⟩
  have B2 := Lib.hid (B1.out.trans (hb2.mono B1.out.size)); clear hb2
  go_wp2_with fail
  refine (G3.out _).mono ?_; rintro e w3 ⟨rfl, hb3⟩
  have B3 := Lib.hid (B2.out.trans (hb3.mono B2.out.size)); clear hb3
  cases o1
  · go_wp2_with fail
    refine (rof_any v1 v2 v3 _).mono ?_; rintro e w4 ⟨rfl, hb4⟩
    have B4 := Lib.hid (B3.out.trans (hb4.mono B3.out.size)); clear hb4
    go_wp2
    go_ret2
    exact ⟨rfl, B4.out⟩
  cases o2
  · go_wp2_with fail
    refine (rof_any v1 v2 v3 _).mono ?_; rintro e w4 ⟨rfl, hb4⟩
    have B4 := Lib.hid (B3.out.trans (hb4.mono B3.out.size)); clear hb4
    go_wp2
    go_ret2
    exact ⟨rfl, B4.out⟩
  go_wp2_with fail
  refine (rof_any v1 v2 v3 _).mono ?_; rintro e w4 ⟨rfl, hb4⟩
  have B4 := Lib.hid (B3.out.trans (hb4.mono B3.out.size)); clear hb4
  go_wp2
  go_ret2
  exact ⟨rfl, B4.out⟩

theorem segs_take {l : List UInt8} (hl : l.length = 16) : (l.take 10).length = 10 ∧ segL (l.take 10) 0 4 = segL l 0 4 ∧ segL (l.take 10) 5 7 = segL l 5 7 ∧ segL (l.take 10) 8 10 = segL l 8 10 ∧ (∀ h : 4 < (l.take 10).length, (l.take 10)[4] = l[4]) ∧ (∀ h : 7 < (l.take 10).length, (l.take 10)[7] = l[7]) := by
  match l, hl with
  | [c0, c1, c2, c3, c4, c5, c6, c7, c8, c9, c10, c11, c12, c13, c14, c15], _ => exact ⟨rfl, rfl, rfl, rfl, fun _ => rfl, fun _ => rfl⟩

/-- ReadDate of the first ten of sixteen. -/
def rdd (l : List UInt8) (b o : Bool) : Prop := o = (b && (digO (segL l 0 4) && digO (segL l 5 7) && digO (segL l 8 10)))

theorem rreadd_ten (l : List UInt8) (w : World) (hl : l.length = 16) :
    Calls Tryz.prog 29 #[.string (bs (l.take 10))] w fun e w' => ∃ n : Int, e = .returned (.tuple #[.int .i64 n, .bool ((decide (l[4] = 45) && decide (l[7] = 45)) && (digO (segL l 0 4) && digO (segL l 5 7) && digO (segL l 8 10)))]) ∧ Below w.heap.size w w' ∧
      ((decide (l[4] = 45) && decide (l[7] = 45)) = true → n = ofZ (digN (segL l 0 4)) (digN (segL l 5 7)) (digN (segL l 8 10))) := by
  obtain ⟨h1, h2, h3, h4, h5, h6⟩ := segs_take hl
  refine (rreadd_any (l.take 10) w h1 _ rfl).mono fun e w' hh => ?_
  rw [h2, h3, h4, h5, h6] at hh
  exact ⟨_, hh.1, hh.2, fun h => by rw [if_pos h]⟩

set_option maxRecDepth 100000 in
set_option maxHeartbeats 2000000 in
theorem rread_no (l : List UInt8) (w : World) (hl : l.length ≤ 9223372036854775807) (h : shB l form16 = false) :
    Calls Tryz.prog 11 #[.string (bs l)] w fun e w' => e = .returned (.tuple #[.int .i64 0, .int .i64 2]) ∧ Below w.heap.size w w' := by
  obtain ⟨s, hs⟩ : ∃ s, s = bs l := ⟨_, rfl⟩
  have sz : s.size = l.length := by rw [hs, bs_size]
  rw [← hs]
  by_cases h16 : l.length = 16
  · rw [sh16_parts h16] at h
    obtain ⟨na, ha⟩ : ∃ n : Int, n = (l[10].toNat : Int) := ⟨_, rfl⟩
    obtain ⟨nd, hd⟩ : ∃ n : Int, n = (l[13].toNat : Int) := ⟨_, rfl⟩
    have s16 : s.size = 16 := by omega
    have ca : ((s[10]'(Nat.lt_of_lt_of_eq (by decide) s16.symm)).toNat : Int) = na := by rw [ha]; subst hs; rw [bs_get l 10 (by omega)]; rfl
    have cd : ((s[13]'(Nat.lt_of_lt_of_eq (by decide) s16.symm)).toNat : Int) = nd := by rw [hd]; subst hs; rw [bs_get l 13 (by omega)]; rfl
    have ea : (na == 32) = decide (l[10] = 32) := byte_num (d := 32) ha rfl
    have ed : (nd == 58) = decide (l[13] = 58) := byte_num (d := 58) hd rfl
    have X10 := Lib.hid (show s.extract 0 10 = bs (l.take 10) by rw [hs, bs_extract]; rfl)
    have RD := Lib.hid (fun w => rreadd_ten l w h16)
    have G1 := Lib.hid (fun w => dg3 l 11 13 w (by omega) (by omega) (by omega) (by omega) 11 13 rfl rfl)
    have G2 := Lib.hid (fun w => dg3 l 14 16 w (by omega) (by omega) (by omega) (by omega) 14 16 rfl rfl)
    rw [← hs] at G1 G2
    clear ha hd hs
    obtain ⟨xa, hxa⟩ : ∃ x, x = decide (l[10] = 32) := ⟨_, rfl⟩
    obtain ⟨xd, hxd⟩ : ∃ x, x = decide (l[13] = 58) := ⟨_, rfl⟩
    obtain ⟨ok, hok⟩ : ∃ x, x = ((decide (l[4] = 45) && decide (l[7] = 45)) && (digO (segL l 0 4) && digO (segL l 5 7) && digO (segL l 8 10))) := ⟨_, rfl⟩
    obtain ⟨o4, ho4⟩ : ∃ x, x = digO (segL l 11 13) := ⟨_, rfl⟩
    obtain ⟨o5, ho5⟩ : ∃ x, x = digO (segL l 14 16) := ⟨_, rfl⟩
    have hall : (xa && (xd && (ok && (o4 && o5)))) = false := by
      rw [hxa, hxd, hok, ho4, ho5]
      rw [← h]
      cases decide (l[10] = 32) <;> cases decide (l[13] = 58) <;> cases decide (l[4] = 45) <;> cases decide (l[7] = 45) <;> cases digO (segL l 0 4) <;> cases digO (segL l 5 7) <;> cases digO (segL l 8 10) <;> cases digO (segL l 11 13) <;> cases digO (segL l 14 16) <;> rfl
    rw [← hxa] at ea
    rw [← hxd] at ed
    rw [← hok] at RD
    rw [← ho4] at G1
    rw [← ho5] at G2
    clear h hxa hxd hok ho4 ho5 sz hl
    have fa : (na != 32) = !xa := by rw [bne, ea]
    have fd : (nd != 58) = !xd := by rw [bne, ed]
    cases xa
    · go_enter Tryz.func11, Tryz.ntmps11
      go_wp2
      go_ret2
      exact ⟨rfl, Below.refl _ _⟩
    cases xd
    · go_enter Tryz.func11, Tryz.ntmps11
      go_wp2
      go_ret2
      exact ⟨rfl, Below.refl _ _⟩
    go_enter Tryz.func11, Tryz.ntmps11
    go_wp2_with fail
    rw [X10.out]
    refine (RD.out _).mono ?_; rintro e w1 ⟨n, rfl, hb1, -⟩
    rw [← X10.out]
    have B1 := Lib.hid hb1; clear hb1
    go_wp2_with fail
    refine (G1.out _).mono ?_; rintro e w2 ⟨rfl, hb2⟩
    have B2 := Lib.hid (B1.out.trans (hb2.mono B1.out.size)); clear hb2
    go_wp2_with fail
    refine (G2.out _).mono ?_; rintro e w3 ⟨rfl, hb3⟩
    have B3 := Lib.hid (B2.out.trans (hb3.mono B2.out.size)); clear hb3
    cases ok
    · go_wp2
      go_ret2
      exact ⟨rfl, B3.out⟩
    cases o4
    · go_wp2
      go_ret2
      exact ⟨rfl, B3.out⟩
    cases o5
    · go_wp2
      go_ret2
      exact ⟨rfl, B3.out⟩
    · cases hall
  · have t1 : ((s.size : Int) != 16) = true := by rw [bne_iff_ne]; omega
    have t2 : (s.size != 16) = true := by rw [bne_iff_ne]; omega
    have t3 : ((s.size : Int) == 16) = false := by rw [beq_eq_false_iff_ne]; omega
    have tb : s.size ≤ 9223372036854775807 := by omega
    clear h h16 hs sz hl
    go_enter Tryz.func11, Tryz.ntmps11
    go_wp2
    go_ret2
    exact ⟨rfl, Below.refl _ _⟩

theorem time_len (y m d h i : Nat) : (timeT y m d h i).length = 16 := by simp [timeT, dateT, d2_len]

set_option maxRecDepth 100000 in
set_option maxHeartbeats 2000000 in
theorem rread_yes (y m d h i : Nat) (w : World) (hy : y < 10000) (hm : m < 100) (hd : d < 100) (hh : h < 100) (hi : i < 100) :
    Calls Tryz.prog 11 #[.string (bs (timeT y m d h i))] w fun e w' => e = .returned (.tuple #[.int .i64 (timeR y m d h i).1, .int .i64 (timeR y m d h i).2]) ∧ Below w.heap.size w w' := by
  obtain ⟨v, hv⟩ : ∃ v, v = timeR y m d h i := ⟨_, rfl⟩
  rw [← hv]
  obtain ⟨l, hl⟩ : ∃ l, l = timeT y m d h i := ⟨_, rfl⟩
  have h16 : l.length = 16 := by rw [hl]; exact time_len y m d h i
  have hsh := sh_time hy hm hd hh hi
  obtain ⟨g1, g2, g3, g4, g5⟩ := time_segs hy hm hd hh hi
  rw [← hl] at hsh g1 g2 g3 g4 g5 ⊢
  rw [sh16_parts h16] at hsh
  simp only [Bool.and_eq_true] at hsh
  obtain ⟨⟨⟨⟨⟨⟨⟨⟨p1, p2⟩, p3⟩, p4⟩, p5⟩, p6⟩, p7⟩, p8⟩, p9⟩ := hsh
  obtain ⟨s, hs⟩ : ∃ s, s = bs l := ⟨_, rfl⟩
  have s16 : s.size = 16 := by rw [hs, bs_size, h16]
  have ca : ((s[10]'(by omega)).toNat : Int) = 32 := by
    have e : s[10]'(by omega) = l[10] := by subst hs; exact bs_get l 10 (by omega) _
    rw [e, of_decide_eq_true p6]; rfl
  have cd : ((s[13]'(by omega)).toNat : Int) = 58 := by
    have e : s[13]'(by omega) = l[13] := by subst hs; exact bs_get l 13 (by omega) _
    rw [e, of_decide_eq_true p8]; rfl
  have X10 := Lib.hid (show s.extract 0 10 = bs (l.take 10) by rw [hs, bs_extract]; rfl)
  have RD := Lib.hid (fun w => rreadd_ten l w h16)
  have G1 := Lib.hid (fun w => dg3 l 11 13 w (by omega) (by omega) (by omega) (by omega) 11 13 rfl rfl)
  have G2 := Lib.hid (fun w => dg3 l 14 16 w (by omega) (by omega) (by omega) (by omega) 14 16 rfl rfl)
  rw [p1, p2, p3, p4, p5, g1, g2, g3] at RD
  rw [p7, g4] at G1
  rw [p9, g5] at G2
  rw [← hs] at G1 G2 ⊢
  simp only [Bool.and_self, forall_const] at RD
  have HV := Lib.hid hv
  have h0 : (0 : Int) ≤ (h : Int) := Int.natCast_nonneg _
  have i0 : (0 : Int) ≤ (i : Int) := Int.natCast_nonneg _
  have h1 : (h : Int) < 100 := by omega
  have i1 : (i : Int) < 100 := by omega
  obtain ⟨n, hn⟩ : ∃ n, n = ofZ y m d := ⟨_, rfl⟩
  rw [← hn] at RD
  have nb : 0 ≤ n ∧ n ≤ 109573 := by
    rw [hn, ofZ]
    by_cases c : Cal.dateB y m d = true
    · rw [if_pos c]; have := Cal.num_bd c; omega
    · rw [if_neg c]; omega
  obtain ⟨n0, n1⟩ := nb
  have HN := Lib.hid hn
  clear hv hl g1 g2 g3 g4 g5 p1 p2 p3 p4 p5 p6 p7 p8 p9 hs hn
  have DZ := Lib.hid (show v = if n ≠ 0 ∧ h ≤ 23 ∧ i ≤ 59 ∧ 1 ≤ (n - 1) * 1440 + (h : Int) * 60 + (i : Int) then ((n - 1) * 1440 + (h : Int) * 60 + (i : Int), 0) else (0, 1) by
    rw [HV.out, HN.out, timeR, ofZ]
    by_cases c : Cal.dateB y m d = true
    · have := Cal.num_bd c
      rw [if_pos c]
      by_cases c2 : h ≤ 23 ∧ i ≤ 59 ∧ 1 ≤ (Cal.num y m d - 1) * 1440 + ((h * 60 + i : Nat) : Int)
      · rw [if_pos ⟨c, c2⟩, if_pos ⟨by omega, c2.1, c2.2.1, by have := c2.2.2; omega⟩]
        congr 1; omega
      · rw [if_neg (fun x => c2 x.2), if_neg]
        rintro ⟨-, x1, x2, x3⟩
        exact c2 ⟨x1, x2, by omega⟩
    · rw [if_neg c, if_neg (fun x => c x.1), if_neg (fun x => x.1 rfl)])
  have VT := Lib.hid (fun w => rtime_any ((n - 1) * 1440 + (h : Int) * 60 + (i : Int)) w)
  go_enter Tryz.func11, Tryz.ntmps11
  go_wp2_with fail
  rw [X10.out]
  refine (RD.out _).mono ?_; rintro e w1 ⟨n', rfl, hb1, rfl⟩
  rw [← X10.out]
  have B1 := Lib.hid hb1; clear hb1
  go_wp2_with fail
  refine (G1.out _).mono ?_; rintro e w2 ⟨rfl, hb2⟩
  have B2 := Lib.hid (B1.out.trans (hb2.mono B1.out.size)); clear hb2
  go_wp2_with fail
  refine (G2.out _).mono ?_; rintro e w3 ⟨rfl, hb3⟩
  have B3 := Lib.hid (B2.out.trans (hb3.mono B2.out.size)); clear hb3
  go_wp2_with fail
  refine (VT.out _).mono ?_; rintro e w4 ⟨rfl, rfl⟩
  by_cases c0 : n' = 0
  · have E := Lib.hid (show v = (0, 1) by rw [DZ.out, if_neg]; rintro ⟨x, -⟩; exact x c0)
    have t0 : (n' == 0) = true := by rw [beq_iff_eq]; exact c0
    clear c0 VT
    go_wp2
    go_ret2
    exact ⟨by rw [E.out]; rfl, B3.out⟩
  have t0 : (n' == 0) = false := by rw [beq_eq_false_iff_ne]; exact c0
  by_cases c1 : 23 < h
  · have E := Lib.hid (show v = (0, 1) by rw [DZ.out, if_neg]; rintro ⟨-, x, -⟩; omega)
    have t1 : decide (23 < h) = true := decide_eq_true c1
    have t1b : decide ((23 : Int) < (h : Int)) = true := decide_eq_true (by omega)
    clear c0 c1
    go_wp2
    go_ret2
    exact ⟨by rw [E.out]; rfl, B3.out⟩
  have t1 : decide (23 < h) = false := decide_eq_false c1
  have t1b : decide ((23 : Int) < (h : Int)) = false := decide_eq_false (by omega)
  by_cases c2 : 59 < i
  · have E := Lib.hid (show v = (0, 1) by rw [DZ.out, if_neg]; rintro ⟨-, -, x, -⟩; omega)
    have t2 : decide (59 < i) = true := decide_eq_true c2
    have t2b : decide ((59 : Int) < (i : Int)) = true := decide_eq_true (by omega)
    clear c0 c1 c2
    go_wp2
    go_ret2
    exact ⟨by rw [E.out]; rfl, B3.out⟩
  have t2 : decide (59 < i) = false := decide_eq_false c2
  have t2b : decide ((59 : Int) < (i : Int)) = false := decide_eq_false (by omega)
  by_cases c3 : 1 ≤ (n' - 1) * 1440 + (h : Int) * 60 + (i : Int)
  · have E := Lib.hid (show v = ((n' - 1) * 1440 + (h : Int) * 60 + (i : Int), 0) by rw [DZ.out, if_pos ⟨c0, by omega, by omega, c3⟩])
    have t3 : timeB ((n' - 1) * 1440 + (h : Int) * 60 + (i : Int)) = true := timeB_mk c3 (by omega)
    clear c0 c1 c2 c3
    go_wp2
    go_ret2
    exact ⟨by rw [E.out]; rfl, B3.out⟩
  · have E := Lib.hid (show v = (0, 1) by rw [DZ.out, if_neg]; rintro ⟨-, -, -, x⟩; exact c3 x)
    have t3 : timeB ((n' - 1) * 1440 + (h : Int) * 60 + (i : Int)) = false := timeB_mk_no (by omega)
    clear c0 c1 c2 c3
    go_wp2
    go_ret2
    exact ⟨by rw [E.out]; rfl, B3.out⟩

end Go.Proofs.YtiihkdefhhdfnaaGreatDoor
