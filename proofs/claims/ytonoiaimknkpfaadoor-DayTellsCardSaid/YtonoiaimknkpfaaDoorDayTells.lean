/- The law DayTells: how long any year and month is, which day any date is, which date any day: program and reference are one, for every input. The walk: three ways of the date, two of the number. -/
import Derived.Test.YtonoiaimknkpfaaDoorRefA
import Derived.Test.YtonoiaimknkpfaaDoorErr
namespace Go.Proofs.YtonoiaimknkpfaaDoor
open Go.RowKit

set_option maxRecDepth 100000 in
set_option maxHeartbeats 4000000 in
theorem dayTells_date_yes (y m d y1 m1 d1 : Int) (w : World) (hw : Months w) (he : ErrT w) (hm : Cal.monthB y m = true) (hd : Cal.dateB y m d = true) (h1 : Cal.dateB y1 m1 d1 = true) :
    Calls Tryd.prog 7 #[.agg #[.int .i64 y, .int .i64 m, .int .i64 d], .int .i64 (Cal.num y1 m1 d1)] w fun e w' => e = .returned (.bool true) ∧ Below w.heap.size w w' := by
  have hdb := Cal.dim_bd y m
  have e1 : (Cal.dim y m == 0) = false := by simp; omega
  obtain ⟨_, _, b1, b2⟩ := Cal.num_bd hd
  have e2 : (Cal.num y m d == 0) = false := by simp; omega
  obtain ⟨_, _, q1, q2⟩ := Cal.num_bd h1
  go_enter Tryd.func7, Tryd.ntmps7
  go_wp2_with fail
  obtain ⟨w1, hq1⟩ : ∃ x, x = w.alloc (.cells #[.int .i64 y, .int .i64 m, .int .i64 d] 28) := ⟨_, rfl⟩
  rw [← hq1]
  have hb1 : Below w.heap.size w w1 := by rw [hq1]; exact (Below.refl _ _).alloc (Nat.le_refl _) _
  have d_1_0 : w1.cell? ⟨w.heap.size, 0, none⟩ = some (.int .i64 y) := by rw [hq1]; simp
  have d_1_1 : w1.cell? ⟨w.heap.size, 1, none⟩ = some (.int .i64 m) := by rw [hq1]; simp
  have d_1_2 : w1.cell? ⟨w.heap.size, 2, none⟩ = some (.int .i64 d) := by rw [hq1]; simp
  have m_1 : w.heap.size < w1.heap.size := by rw [hq1]; simp
  clear hq1
  have hw_2 := hw.below hb1
  have he_2 := he.below hb1
  have z_2 : Below w.heap.size w w1 := hb1
  clear hw he hb1
  refine (rdays_yes y m w1 hm).mono ?_; rintro e w' ⟨rfl, rfl⟩
  go_wp2_with fail
  refine (days_yes y m w1 hw_2 hm).mono ?_; rintro e w' ⟨rfl, rfl⟩
  go_wp2_with fail
  refine ((error_nil 0 w1 true (by decide))).mono ?_; rintro e w3 ⟨rfl, hb3⟩
  have hw_4 := hw_2.below hb3
  have he_4 := he_2.below hb3
  have c_4_0 := (hb3.cell (p := ⟨w.heap.size, 0, none⟩) m_1).trans d_1_0
  have c_4_1 := (hb3.cell (p := ⟨w.heap.size, 1, none⟩) m_1).trans d_1_1
  have c_4_2 := (hb3.cell (p := ⟨w.heap.size, 2, none⟩) m_1).trans d_1_2
  have l_4_0 : w.heap.size < w3.heap.size := Nat.lt_of_lt_of_le m_1 hb3.size
  have z_4 : Below w.heap.size w w3 := z_2.trans (hb3.mono z_2.size)
  clear hw_2 he_2 d_1_0 d_1_1 d_1_2 m_1 z_2 hb3
  go_wp2_with fail
  refine (rof_yes y m d w3 hd).mono ?_; rintro e w5 ⟨rfl, hb5⟩
  have hw_6 := hw_4.below hb5
  have he_6 := he_4.below hb5
  have c_6_0 := (hb5.cell (p := ⟨w.heap.size, 0, none⟩) l_4_0).trans c_4_0
  have c_6_1 := (hb5.cell (p := ⟨w.heap.size, 1, none⟩) l_4_0).trans c_4_1
  have c_6_2 := (hb5.cell (p := ⟨w.heap.size, 2, none⟩) l_4_0).trans c_4_2
  have l_6_0 : w.heap.size < w5.heap.size := Nat.lt_of_lt_of_le l_4_0 hb5.size
  have z_6 : Below w.heap.size w w5 := z_4.trans (hb5.mono z_4.size)
  clear hw_4 he_4 c_4_0 c_4_1 c_4_2 l_4_0 z_4 hb5
  go_wp2_with fail
  refine (of_yes y m d w5 hw_6 hd).mono ?_; rintro e w7 ⟨rfl, hb7⟩
  have hw_8 := hw_6.below hb7
  have he_8 := he_6.below hb7
  have c_8_0 := (hb7.cell (p := ⟨w.heap.size, 0, none⟩) l_6_0).trans c_6_0
  have c_8_1 := (hb7.cell (p := ⟨w.heap.size, 1, none⟩) l_6_0).trans c_6_1
  have c_8_2 := (hb7.cell (p := ⟨w.heap.size, 2, none⟩) l_6_0).trans c_6_2
  have l_8_0 : w.heap.size < w7.heap.size := Nat.lt_of_lt_of_le l_6_0 hb7.size
  have z_8 : Below w.heap.size w w7 := z_6.trans (hb7.mono z_6.size)
  clear hw_6 he_6 c_6_0 c_6_1 c_6_2 l_6_0 z_6 hb7
  go_wp2_with fail
  refine ((error_nil 0 w7 true (by decide))).mono ?_; rintro e w9 ⟨rfl, hb9⟩
  have hw_10 := hw_8.below hb9
  have he_10 := he_8.below hb9
  have c_10_0 := (hb9.cell (p := ⟨w.heap.size, 0, none⟩) l_8_0).trans c_8_0
  have c_10_1 := (hb9.cell (p := ⟨w.heap.size, 1, none⟩) l_8_0).trans c_8_1
  have c_10_2 := (hb9.cell (p := ⟨w.heap.size, 2, none⟩) l_8_0).trans c_8_2
  have l_10_0 : w.heap.size < w9.heap.size := Nat.lt_of_lt_of_le l_8_0 hb9.size
  have z_10 : Below w.heap.size w w9 := z_8.trans (hb9.mono z_8.size)
  clear hw_8 he_8 c_8_0 c_8_1 c_8_2 l_8_0 z_8 hb9
  go_wp2_with fail
  refine (rdate_num y1 m1 d1 w9 h1).mono ?_; rintro e w11 ⟨rfl, hb11⟩
  have hw_12 := hw_10.below hb11
  have he_12 := he_10.below hb11
  have c_12_0 := (hb11.cell (p := ⟨w.heap.size, 0, none⟩) l_10_0).trans c_10_0
  have c_12_1 := (hb11.cell (p := ⟨w.heap.size, 1, none⟩) l_10_0).trans c_10_1
  have c_12_2 := (hb11.cell (p := ⟨w.heap.size, 2, none⟩) l_10_0).trans c_10_2
  have l_12_0 : w.heap.size < w11.heap.size := Nat.lt_of_lt_of_le l_10_0 hb11.size
  have z_12 : Below w.heap.size w w11 := z_10.trans (hb11.mono z_10.size)
  clear hw_10 he_10 c_10_0 c_10_1 c_10_2 l_10_0 z_10 hb11
  go_wp2_with fail
  obtain ⟨w13, hq13⟩ : ∃ x, x = w11.alloc (.cells #[.int .i64 y1, .int .i64 m1, .int .i64 d1] 28) := ⟨_, rfl⟩
  rw [← hq13]
  have hb13 : Below w11.heap.size w11 w13 := by rw [hq13]; exact (Below.refl _ _).alloc (Nat.le_refl _) _
  have d_13_0 : w13.cell? ⟨w11.heap.size, 0, none⟩ = some (.int .i64 y1) := by rw [hq13]; simp
  have d_13_1 : w13.cell? ⟨w11.heap.size, 1, none⟩ = some (.int .i64 m1) := by rw [hq13]; simp
  have d_13_2 : w13.cell? ⟨w11.heap.size, 2, none⟩ = some (.int .i64 d1) := by rw [hq13]; simp
  have m_13 : w11.heap.size < w13.heap.size := by rw [hq13]; simp
  clear hq13
  have hw_14 := hw_12.below hb13
  have he_14 := he_12.below hb13
  have c_14_0 := (hb13.cell (p := ⟨w.heap.size, 0, none⟩) l_12_0).trans c_12_0
  have c_14_1 := (hb13.cell (p := ⟨w.heap.size, 1, none⟩) l_12_0).trans c_12_1
  have c_14_2 := (hb13.cell (p := ⟨w.heap.size, 2, none⟩) l_12_0).trans c_12_2
  have l_14_0 : w.heap.size < w13.heap.size := Nat.lt_of_lt_of_le l_12_0 hb13.size
  have z_14 : Below w.heap.size w w13 := z_12.trans (hb13.mono z_12.size)
  clear hw_12 he_12 c_12_0 c_12_1 c_12_2 l_12_0 z_12 hb13
  refine (rweekday_any _ w13 q1 (by omega)).mono ?_; rintro e w' ⟨rfl, rfl⟩
  go_wp2_with fail
  refine (date_num y1 m1 d1 w13 hw_14 h1).mono ?_; rintro e w15 ⟨rfl, hb15⟩
  have hw_16 := hw_14.below hb15
  have he_16 := he_14.below hb15
  have c_16_0 := (hb15.cell (p := ⟨w.heap.size, 0, none⟩) l_14_0).trans c_14_0
  have c_16_1 := (hb15.cell (p := ⟨w.heap.size, 1, none⟩) l_14_0).trans c_14_1
  have c_16_2 := (hb15.cell (p := ⟨w.heap.size, 2, none⟩) l_14_0).trans c_14_2
  have c_16_3 := (hb15.cell (p := ⟨w11.heap.size, 0, none⟩) m_13).trans d_13_0
  have c_16_4 := (hb15.cell (p := ⟨w11.heap.size, 1, none⟩) m_13).trans d_13_1
  have c_16_5 := (hb15.cell (p := ⟨w11.heap.size, 2, none⟩) m_13).trans d_13_2
  have l_16_0 : w.heap.size < w15.heap.size := Nat.lt_of_lt_of_le l_14_0 hb15.size
  have l_16_1 : w11.heap.size < w15.heap.size := Nat.lt_of_lt_of_le m_13 hb15.size
  have z_16 : Below w.heap.size w w15 := z_14.trans (hb15.mono z_14.size)
  clear hw_14 he_14 c_14_0 c_14_1 c_14_2 d_13_0 d_13_1 d_13_2 l_14_0 m_13 z_14 hb15
  go_wp2_with fail
  obtain ⟨w17, hq17⟩ : ∃ x, x = w15.alloc (.cells #[.int .i64 y1, .int .i64 m1, .int .i64 d1] 28) := ⟨_, rfl⟩
  rw [← hq17]
  have hb17 : Below w15.heap.size w15 w17 := by rw [hq17]; exact (Below.refl _ _).alloc (Nat.le_refl _) _
  have d_17_0 : w17.cell? ⟨w15.heap.size, 0, none⟩ = some (.int .i64 y1) := by rw [hq17]; simp
  have d_17_1 : w17.cell? ⟨w15.heap.size, 1, none⟩ = some (.int .i64 m1) := by rw [hq17]; simp
  have d_17_2 : w17.cell? ⟨w15.heap.size, 2, none⟩ = some (.int .i64 d1) := by rw [hq17]; simp
  have m_17 : w15.heap.size < w17.heap.size := by rw [hq17]; simp
  clear hq17
  have hw_18 := hw_16.below hb17
  have he_18 := he_16.below hb17
  have c_18_0 := (hb17.cell (p := ⟨w.heap.size, 0, none⟩) l_16_0).trans c_16_0
  have c_18_1 := (hb17.cell (p := ⟨w.heap.size, 1, none⟩) l_16_0).trans c_16_1
  have c_18_2 := (hb17.cell (p := ⟨w.heap.size, 2, none⟩) l_16_0).trans c_16_2
  have c_18_3 := (hb17.cell (p := ⟨w11.heap.size, 0, none⟩) l_16_1).trans c_16_3
  have c_18_4 := (hb17.cell (p := ⟨w11.heap.size, 1, none⟩) l_16_1).trans c_16_4
  have c_18_5 := (hb17.cell (p := ⟨w11.heap.size, 2, none⟩) l_16_1).trans c_16_5
  have l_18_0 : w.heap.size < w17.heap.size := Nat.lt_of_lt_of_le l_16_0 hb17.size
  have l_18_1 : w11.heap.size < w17.heap.size := Nat.lt_of_lt_of_le l_16_1 hb17.size
  have z_18 : Below w.heap.size w w17 := z_16.trans (hb17.mono z_16.size)
  clear hw_16 he_16 c_16_0 c_16_1 c_16_2 c_16_3 c_16_4 c_16_5 l_16_0 l_16_1 z_16 hb17
  refine ((error_nil 0 w17 true (by decide))).mono ?_; rintro e w19 ⟨rfl, hb19⟩
  have hw_20 := hw_18.below hb19
  have he_20 := he_18.below hb19
  have c_20_0 := (hb19.cell (p := ⟨w.heap.size, 0, none⟩) l_18_0).trans c_18_0
  have c_20_1 := (hb19.cell (p := ⟨w.heap.size, 1, none⟩) l_18_0).trans c_18_1
  have c_20_2 := (hb19.cell (p := ⟨w.heap.size, 2, none⟩) l_18_0).trans c_18_2
  have c_20_3 := (hb19.cell (p := ⟨w11.heap.size, 0, none⟩) l_18_1).trans c_18_3
  have c_20_4 := (hb19.cell (p := ⟨w11.heap.size, 1, none⟩) l_18_1).trans c_18_4
  have c_20_5 := (hb19.cell (p := ⟨w11.heap.size, 2, none⟩) l_18_1).trans c_18_5
  have c_20_6 := (hb19.cell (p := ⟨w15.heap.size, 0, none⟩) m_17).trans d_17_0
  have c_20_7 := (hb19.cell (p := ⟨w15.heap.size, 1, none⟩) m_17).trans d_17_1
  have c_20_8 := (hb19.cell (p := ⟨w15.heap.size, 2, none⟩) m_17).trans d_17_2
  have l_20_0 : w.heap.size < w19.heap.size := Nat.lt_of_lt_of_le l_18_0 hb19.size
  have l_20_1 : w11.heap.size < w19.heap.size := Nat.lt_of_lt_of_le l_18_1 hb19.size
  have l_20_2 : w15.heap.size < w19.heap.size := Nat.lt_of_lt_of_le m_17 hb19.size
  have z_20 : Below w.heap.size w w19 := z_18.trans (hb19.mono z_18.size)
  clear hw_18 he_18 c_18_0 c_18_1 c_18_2 c_18_3 c_18_4 c_18_5 d_17_0 d_17_1 d_17_2 l_18_0 l_18_1 m_17 z_18 hb19
  go_wp2_with fail
  refine (weekday_yes _ w19 q1 q2).mono ?_; rintro e w' ⟨rfl, rfl⟩
  go_wp2_with fail
  refine ((error_nil 0 w19 true (by decide))).mono ?_; rintro e w21 ⟨rfl, hb21⟩
  have hw_22 := hw_20.below hb21
  have he_22 := he_20.below hb21
  have c_22_0 := (hb21.cell (p := ⟨w.heap.size, 0, none⟩) l_20_0).trans c_20_0
  have c_22_1 := (hb21.cell (p := ⟨w.heap.size, 1, none⟩) l_20_0).trans c_20_1
  have c_22_2 := (hb21.cell (p := ⟨w.heap.size, 2, none⟩) l_20_0).trans c_20_2
  have c_22_3 := (hb21.cell (p := ⟨w11.heap.size, 0, none⟩) l_20_1).trans c_20_3
  have c_22_4 := (hb21.cell (p := ⟨w11.heap.size, 1, none⟩) l_20_1).trans c_20_4
  have c_22_5 := (hb21.cell (p := ⟨w11.heap.size, 2, none⟩) l_20_1).trans c_20_5
  have c_22_6 := (hb21.cell (p := ⟨w15.heap.size, 0, none⟩) l_20_2).trans c_20_6
  have c_22_7 := (hb21.cell (p := ⟨w15.heap.size, 1, none⟩) l_20_2).trans c_20_7
  have c_22_8 := (hb21.cell (p := ⟨w15.heap.size, 2, none⟩) l_20_2).trans c_20_8
  have l_22_0 : w.heap.size < w21.heap.size := Nat.lt_of_lt_of_le l_20_0 hb21.size
  have l_22_1 : w11.heap.size < w21.heap.size := Nat.lt_of_lt_of_le l_20_1 hb21.size
  have l_22_2 : w15.heap.size < w21.heap.size := Nat.lt_of_lt_of_le l_20_2 hb21.size
  have z_22 : Below w.heap.size w w21 := z_20.trans (hb21.mono z_20.size)
  clear hw_20 he_20 c_20_0 c_20_1 c_20_2 c_20_3 c_20_4 c_20_5 c_20_6 c_20_7 c_20_8 l_20_0 l_20_1 l_20_2 z_20 hb21
  go_wp2_with fail
  go_quiet ((first | (go_at_call 10; exact quiet_l (leap_any _ _)) | (go_at_call 26; exact quiet_l (rleap_any _ _)) | (go_at_call 15; exact quiet_l (last_any _))))
  go_wp2
  go_ret
  exact ⟨rfl, below_drewN z_22 _⟩

set_option maxRecDepth 100000 in
set_option maxHeartbeats 4000000 in
theorem dayTells_date_no (y m d n : Int) (w : World) (hw : Months w) (he : ErrT w) (hm : Cal.monthB y m = true) (hd : Cal.dateB y m d = true) (hn : n < 1 ∨ 109573 < n) :
    Calls Tryd.prog 7 #[.agg #[.int .i64 y, .int .i64 m, .int .i64 d], .int .i64 n] w fun e w' => e = .returned (.bool true) ∧ Below w.heap.size w w' := by
  have hdb := Cal.dim_bd y m
  have e1 : (Cal.dim y m == 0) = false := by simp; omega
  obtain ⟨_, _, b1, b2⟩ := Cal.num_bd hd
  have e2 : (Cal.num y m d == 0) = false := by simp; omega
  go_enter Tryd.func7, Tryd.ntmps7
  go_wp2_with fail
  obtain ⟨w1, hq1⟩ : ∃ x, x = w.alloc (.cells #[.int .i64 y, .int .i64 m, .int .i64 d] 28) := ⟨_, rfl⟩
  rw [← hq1]
  have hb1 : Below w.heap.size w w1 := by rw [hq1]; exact (Below.refl _ _).alloc (Nat.le_refl _) _
  have d_1_0 : w1.cell? ⟨w.heap.size, 0, none⟩ = some (.int .i64 y) := by rw [hq1]; simp
  have d_1_1 : w1.cell? ⟨w.heap.size, 1, none⟩ = some (.int .i64 m) := by rw [hq1]; simp
  have d_1_2 : w1.cell? ⟨w.heap.size, 2, none⟩ = some (.int .i64 d) := by rw [hq1]; simp
  have m_1 : w.heap.size < w1.heap.size := by rw [hq1]; simp
  clear hq1
  have hw_2 := hw.below hb1
  have he_2 := he.below hb1
  have z_2 : Below w.heap.size w w1 := hb1
  clear hw he hb1
  refine (rdays_yes y m w1 hm).mono ?_; rintro e w' ⟨rfl, rfl⟩
  go_wp2_with fail
  refine (days_yes y m w1 hw_2 hm).mono ?_; rintro e w' ⟨rfl, rfl⟩
  go_wp2_with fail
  refine ((error_nil 0 w1 true (by decide))).mono ?_; rintro e w3 ⟨rfl, hb3⟩
  have hw_4 := hw_2.below hb3
  have he_4 := he_2.below hb3
  have c_4_0 := (hb3.cell (p := ⟨w.heap.size, 0, none⟩) m_1).trans d_1_0
  have c_4_1 := (hb3.cell (p := ⟨w.heap.size, 1, none⟩) m_1).trans d_1_1
  have c_4_2 := (hb3.cell (p := ⟨w.heap.size, 2, none⟩) m_1).trans d_1_2
  have l_4_0 : w.heap.size < w3.heap.size := Nat.lt_of_lt_of_le m_1 hb3.size
  have z_4 : Below w.heap.size w w3 := z_2.trans (hb3.mono z_2.size)
  clear hw_2 he_2 d_1_0 d_1_1 d_1_2 m_1 z_2 hb3
  go_wp2_with fail
  refine (rof_yes y m d w3 hd).mono ?_; rintro e w5 ⟨rfl, hb5⟩
  have hw_6 := hw_4.below hb5
  have he_6 := he_4.below hb5
  have c_6_0 := (hb5.cell (p := ⟨w.heap.size, 0, none⟩) l_4_0).trans c_4_0
  have c_6_1 := (hb5.cell (p := ⟨w.heap.size, 1, none⟩) l_4_0).trans c_4_1
  have c_6_2 := (hb5.cell (p := ⟨w.heap.size, 2, none⟩) l_4_0).trans c_4_2
  have l_6_0 : w.heap.size < w5.heap.size := Nat.lt_of_lt_of_le l_4_0 hb5.size
  have z_6 : Below w.heap.size w w5 := z_4.trans (hb5.mono z_4.size)
  clear hw_4 he_4 c_4_0 c_4_1 c_4_2 l_4_0 z_4 hb5
  go_wp2_with fail
  refine (of_yes y m d w5 hw_6 hd).mono ?_; rintro e w7 ⟨rfl, hb7⟩
  have hw_8 := hw_6.below hb7
  have he_8 := he_6.below hb7
  have c_8_0 := (hb7.cell (p := ⟨w.heap.size, 0, none⟩) l_6_0).trans c_6_0
  have c_8_1 := (hb7.cell (p := ⟨w.heap.size, 1, none⟩) l_6_0).trans c_6_1
  have c_8_2 := (hb7.cell (p := ⟨w.heap.size, 2, none⟩) l_6_0).trans c_6_2
  have l_8_0 : w.heap.size < w7.heap.size := Nat.lt_of_lt_of_le l_6_0 hb7.size
  have z_8 : Below w.heap.size w w7 := z_6.trans (hb7.mono z_6.size)
  clear hw_6 he_6 c_6_0 c_6_1 c_6_2 l_6_0 z_6 hb7
  go_wp2_with fail
  refine ((error_nil 0 w7 true (by decide))).mono ?_; rintro e w9 ⟨rfl, hb9⟩
  have hw_10 := hw_8.below hb9
  have he_10 := he_8.below hb9
  have c_10_0 := (hb9.cell (p := ⟨w.heap.size, 0, none⟩) l_8_0).trans c_8_0
  have c_10_1 := (hb9.cell (p := ⟨w.heap.size, 1, none⟩) l_8_0).trans c_8_1
  have c_10_2 := (hb9.cell (p := ⟨w.heap.size, 2, none⟩) l_8_0).trans c_8_2
  have l_10_0 : w.heap.size < w9.heap.size := Nat.lt_of_lt_of_le l_8_0 hb9.size
  have z_10 : Below w.heap.size w w9 := z_8.trans (hb9.mono z_8.size)
  clear hw_8 he_8 c_8_0 c_8_1 c_8_2 l_8_0 z_8 hb9
  go_wp2_with fail
  refine (rdate_no n w9 hn).mono ?_; rintro e w11 ⟨rfl, hb11⟩
  have hw_12 := hw_10.below hb11
  have he_12 := he_10.below hb11
  have c_12_0 := (hb11.cell (p := ⟨w.heap.size, 0, none⟩) l_10_0).trans c_10_0
  have c_12_1 := (hb11.cell (p := ⟨w.heap.size, 1, none⟩) l_10_0).trans c_10_1
  have c_12_2 := (hb11.cell (p := ⟨w.heap.size, 2, none⟩) l_10_0).trans c_10_2
  have l_12_0 : w.heap.size < w11.heap.size := Nat.lt_of_lt_of_le l_10_0 hb11.size
  have z_12 : Below w.heap.size w w11 := z_10.trans (hb11.mono z_10.size)
  clear hw_10 he_10 c_10_0 c_10_1 c_10_2 l_10_0 z_10 hb11
  go_wp2_with fail
  obtain ⟨w13, hq13⟩ : ∃ x, x = w11.alloc (.cells #[.int .i64 0, .int .i64 0, .int .i64 0] 28) := ⟨_, rfl⟩
  rw [← hq13]
  have hb13 : Below w11.heap.size w11 w13 := by rw [hq13]; exact (Below.refl _ _).alloc (Nat.le_refl _) _
  have d_13_0 : w13.cell? ⟨w11.heap.size, 0, none⟩ = some (.int .i64 0) := by rw [hq13]; simp
  have d_13_1 : w13.cell? ⟨w11.heap.size, 1, none⟩ = some (.int .i64 0) := by rw [hq13]; simp
  have d_13_2 : w13.cell? ⟨w11.heap.size, 2, none⟩ = some (.int .i64 0) := by rw [hq13]; simp
  have m_13 : w11.heap.size < w13.heap.size := by rw [hq13]; simp
  clear hq13
  have hw_14 := hw_12.below hb13
  have he_14 := he_12.below hb13
  have c_14_0 := (hb13.cell (p := ⟨w.heap.size, 0, none⟩) l_12_0).trans c_12_0
  have c_14_1 := (hb13.cell (p := ⟨w.heap.size, 1, none⟩) l_12_0).trans c_12_1
  have c_14_2 := (hb13.cell (p := ⟨w.heap.size, 2, none⟩) l_12_0).trans c_12_2
  have l_14_0 : w.heap.size < w13.heap.size := Nat.lt_of_lt_of_le l_12_0 hb13.size
  have z_14 : Below w.heap.size w w13 := z_12.trans (hb13.mono z_12.size)
  clear hw_12 he_12 c_12_0 c_12_1 c_12_2 l_12_0 z_12 hb13
  refine (date_no n w13 hn).mono ?_; rintro e w15 ⟨rfl, hb15⟩
  have hw_16 := hw_14.below hb15
  have he_16 := he_14.below hb15
  have c_16_0 := (hb15.cell (p := ⟨w.heap.size, 0, none⟩) l_14_0).trans c_14_0
  have c_16_1 := (hb15.cell (p := ⟨w.heap.size, 1, none⟩) l_14_0).trans c_14_1
  have c_16_2 := (hb15.cell (p := ⟨w.heap.size, 2, none⟩) l_14_0).trans c_14_2
  have c_16_3 := (hb15.cell (p := ⟨w11.heap.size, 0, none⟩) m_13).trans d_13_0
  have c_16_4 := (hb15.cell (p := ⟨w11.heap.size, 1, none⟩) m_13).trans d_13_1
  have c_16_5 := (hb15.cell (p := ⟨w11.heap.size, 2, none⟩) m_13).trans d_13_2
  have l_16_0 : w.heap.size < w15.heap.size := Nat.lt_of_lt_of_le l_14_0 hb15.size
  have l_16_1 : w11.heap.size < w15.heap.size := Nat.lt_of_lt_of_le m_13 hb15.size
  have z_16 : Below w.heap.size w w15 := z_14.trans (hb15.mono z_14.size)
  clear hw_14 he_14 c_14_0 c_14_1 c_14_2 d_13_0 d_13_1 d_13_2 l_14_0 m_13 z_14 hb15
  go_wp2_with fail
  obtain ⟨w17, hq17⟩ : ∃ x, x = w15.alloc (.cells #[.int .i64 0, .int .i64 0, .int .i64 0] 28) := ⟨_, rfl⟩
  rw [← hq17]
  have hb17 : Below w15.heap.size w15 w17 := by rw [hq17]; exact (Below.refl _ _).alloc (Nat.le_refl _) _
  have d_17_0 : w17.cell? ⟨w15.heap.size, 0, none⟩ = some (.int .i64 0) := by rw [hq17]; simp
  have d_17_1 : w17.cell? ⟨w15.heap.size, 1, none⟩ = some (.int .i64 0) := by rw [hq17]; simp
  have d_17_2 : w17.cell? ⟨w15.heap.size, 2, none⟩ = some (.int .i64 0) := by rw [hq17]; simp
  have m_17 : w15.heap.size < w17.heap.size := by rw [hq17]; simp
  clear hq17
  have hw_18 := hw_16.below hb17
  have he_18 := he_16.below hb17
  have c_18_0 := (hb17.cell (p := ⟨w.heap.size, 0, none⟩) l_16_0).trans c_16_0
  have c_18_1 := (hb17.cell (p := ⟨w.heap.size, 1, none⟩) l_16_0).trans c_16_1
  have c_18_2 := (hb17.cell (p := ⟨w.heap.size, 2, none⟩) l_16_0).trans c_16_2
  have c_18_3 := (hb17.cell (p := ⟨w11.heap.size, 0, none⟩) l_16_1).trans c_16_3
  have c_18_4 := (hb17.cell (p := ⟨w11.heap.size, 1, none⟩) l_16_1).trans c_16_4
  have c_18_5 := (hb17.cell (p := ⟨w11.heap.size, 2, none⟩) l_16_1).trans c_16_5
  have l_18_0 : w.heap.size < w17.heap.size := Nat.lt_of_lt_of_le l_16_0 hb17.size
  have l_18_1 : w11.heap.size < w17.heap.size := Nat.lt_of_lt_of_le l_16_1 hb17.size
  have z_18 : Below w.heap.size w w17 := z_16.trans (hb17.mono z_16.size)
  clear hw_16 he_16 c_16_0 c_16_1 c_16_2 c_16_3 c_16_4 c_16_5 l_16_0 l_16_1 z_16 hb17
  refine ((error_no 1 1 w17 true he_18 (by decide) (by omega) (by omega))).mono ?_; rintro e w19 ⟨rfl, hb19⟩
  have hw_20 := hw_18.below hb19
  have he_20 := he_18.below hb19
  have c_20_0 := (hb19.cell (p := ⟨w.heap.size, 0, none⟩) l_18_0).trans c_18_0
  have c_20_1 := (hb19.cell (p := ⟨w.heap.size, 1, none⟩) l_18_0).trans c_18_1
  have c_20_2 := (hb19.cell (p := ⟨w.heap.size, 2, none⟩) l_18_0).trans c_18_2
  have c_20_3 := (hb19.cell (p := ⟨w11.heap.size, 0, none⟩) l_18_1).trans c_18_3
  have c_20_4 := (hb19.cell (p := ⟨w11.heap.size, 1, none⟩) l_18_1).trans c_18_4
  have c_20_5 := (hb19.cell (p := ⟨w11.heap.size, 2, none⟩) l_18_1).trans c_18_5
  have c_20_6 := (hb19.cell (p := ⟨w15.heap.size, 0, none⟩) m_17).trans d_17_0
  have c_20_7 := (hb19.cell (p := ⟨w15.heap.size, 1, none⟩) m_17).trans d_17_1
  have c_20_8 := (hb19.cell (p := ⟨w15.heap.size, 2, none⟩) m_17).trans d_17_2
  have l_20_0 : w.heap.size < w19.heap.size := Nat.lt_of_lt_of_le l_18_0 hb19.size
  have l_20_1 : w11.heap.size < w19.heap.size := Nat.lt_of_lt_of_le l_18_1 hb19.size
  have l_20_2 : w15.heap.size < w19.heap.size := Nat.lt_of_lt_of_le m_17 hb19.size
  have z_20 : Below w.heap.size w w19 := z_18.trans (hb19.mono z_18.size)
  clear hw_18 he_18 c_18_0 c_18_1 c_18_2 c_18_3 c_18_4 c_18_5 d_17_0 d_17_1 d_17_2 l_18_0 l_18_1 m_17 z_18 hb19
  go_wp2_with fail
  refine (weekday_no n w19 hn).mono ?_; rintro e w' ⟨rfl, rfl⟩
  go_wp2_with fail
  refine ((error_no 1 1 w19 true he_20 (by decide) (by omega) (by omega))).mono ?_; rintro e w21 ⟨rfl, hb21⟩
  have hw_22 := hw_20.below hb21
  have he_22 := he_20.below hb21
  have c_22_0 := (hb21.cell (p := ⟨w.heap.size, 0, none⟩) l_20_0).trans c_20_0
  have c_22_1 := (hb21.cell (p := ⟨w.heap.size, 1, none⟩) l_20_0).trans c_20_1
  have c_22_2 := (hb21.cell (p := ⟨w.heap.size, 2, none⟩) l_20_0).trans c_20_2
  have c_22_3 := (hb21.cell (p := ⟨w11.heap.size, 0, none⟩) l_20_1).trans c_20_3
  have c_22_4 := (hb21.cell (p := ⟨w11.heap.size, 1, none⟩) l_20_1).trans c_20_4
  have c_22_5 := (hb21.cell (p := ⟨w11.heap.size, 2, none⟩) l_20_1).trans c_20_5
  have c_22_6 := (hb21.cell (p := ⟨w15.heap.size, 0, none⟩) l_20_2).trans c_20_6
  have c_22_7 := (hb21.cell (p := ⟨w15.heap.size, 1, none⟩) l_20_2).trans c_20_7
  have c_22_8 := (hb21.cell (p := ⟨w15.heap.size, 2, none⟩) l_20_2).trans c_20_8
  have l_22_0 : w.heap.size < w21.heap.size := Nat.lt_of_lt_of_le l_20_0 hb21.size
  have l_22_1 : w11.heap.size < w21.heap.size := Nat.lt_of_lt_of_le l_20_1 hb21.size
  have l_22_2 : w15.heap.size < w21.heap.size := Nat.lt_of_lt_of_le l_20_2 hb21.size
  have z_22 : Below w.heap.size w w21 := z_20.trans (hb21.mono z_20.size)
  clear hw_20 he_20 c_20_0 c_20_1 c_20_2 c_20_3 c_20_4 c_20_5 c_20_6 c_20_7 c_20_8 l_20_0 l_20_1 l_20_2 z_20 hb21
  go_wp2_with fail
  go_quiet ((first | (go_at_call 10; exact quiet_l (leap_any _ _)) | (go_at_call 26; exact quiet_l (rleap_any _ _)) | (go_at_call 15; exact quiet_l (last_any _))))
  go_wp2
  go_ret
  exact ⟨rfl, below_drewN z_22 _⟩

set_option maxRecDepth 100000 in
set_option maxHeartbeats 4000000 in
theorem dayTells_month_yes (y m d y1 m1 d1 : Int) (w : World) (hw : Months w) (he : ErrT w) (hm : Cal.monthB y m = true) (hd : Cal.dateB y m d = false) (h1 : Cal.dateB y1 m1 d1 = true) :
    Calls Tryd.prog 7 #[.agg #[.int .i64 y, .int .i64 m, .int .i64 d], .int .i64 (Cal.num y1 m1 d1)] w fun e w' => e = .returned (.bool true) ∧ Below w.heap.size w w' := by
  have hdb := Cal.dim_bd y m
  have e1 : (Cal.dim y m == 0) = false := by simp; omega
  obtain ⟨_, _, q1, q2⟩ := Cal.num_bd h1
  go_enter Tryd.func7, Tryd.ntmps7
  go_wp2_with fail
  obtain ⟨w1, hq1⟩ : ∃ x, x = w.alloc (.cells #[.int .i64 y, .int .i64 m, .int .i64 d] 28) := ⟨_, rfl⟩
  rw [← hq1]
  have hb1 : Below w.heap.size w w1 := by rw [hq1]; exact (Below.refl _ _).alloc (Nat.le_refl _) _
  have d_1_0 : w1.cell? ⟨w.heap.size, 0, none⟩ = some (.int .i64 y) := by rw [hq1]; simp
  have d_1_1 : w1.cell? ⟨w.heap.size, 1, none⟩ = some (.int .i64 m) := by rw [hq1]; simp
  have d_1_2 : w1.cell? ⟨w.heap.size, 2, none⟩ = some (.int .i64 d) := by rw [hq1]; simp
  have m_1 : w.heap.size < w1.heap.size := by rw [hq1]; simp
  clear hq1
  have hw_2 := hw.below hb1
  have he_2 := he.below hb1
  have z_2 : Below w.heap.size w w1 := hb1
  clear hw he hb1
  refine (rdays_yes y m w1 hm).mono ?_; rintro e w' ⟨rfl, rfl⟩
  go_wp2_with fail
  refine (days_yes y m w1 hw_2 hm).mono ?_; rintro e w' ⟨rfl, rfl⟩
  go_wp2_with fail
  refine ((error_nil 0 w1 true (by decide))).mono ?_; rintro e w3 ⟨rfl, hb3⟩
  have hw_4 := hw_2.below hb3
  have he_4 := he_2.below hb3
  have c_4_0 := (hb3.cell (p := ⟨w.heap.size, 0, none⟩) m_1).trans d_1_0
  have c_4_1 := (hb3.cell (p := ⟨w.heap.size, 1, none⟩) m_1).trans d_1_1
  have c_4_2 := (hb3.cell (p := ⟨w.heap.size, 2, none⟩) m_1).trans d_1_2
  have l_4_0 : w.heap.size < w3.heap.size := Nat.lt_of_lt_of_le m_1 hb3.size
  have z_4 : Below w.heap.size w w3 := z_2.trans (hb3.mono z_2.size)
  clear hw_2 he_2 d_1_0 d_1_1 d_1_2 m_1 z_2 hb3
  go_wp2_with fail
  refine (rof_no y m d w3 hd).mono ?_; rintro e w5 ⟨rfl, hb5⟩
  have hw_6 := hw_4.below hb5
  have he_6 := he_4.below hb5
  have c_6_0 := (hb5.cell (p := ⟨w.heap.size, 0, none⟩) l_4_0).trans c_4_0
  have c_6_1 := (hb5.cell (p := ⟨w.heap.size, 1, none⟩) l_4_0).trans c_4_1
  have c_6_2 := (hb5.cell (p := ⟨w.heap.size, 2, none⟩) l_4_0).trans c_4_2
  have l_6_0 : w.heap.size < w5.heap.size := Nat.lt_of_lt_of_le l_4_0 hb5.size
  have z_6 : Below w.heap.size w w5 := z_4.trans (hb5.mono z_4.size)
  clear hw_4 he_4 c_4_0 c_4_1 c_4_2 l_4_0 z_4 hb5
  go_wp2_with fail
  refine (of_no y m d w5 hw_6 hd).mono ?_; rintro e w7 ⟨rfl, hb7⟩
  have hw_8 := hw_6.below hb7
  have he_8 := he_6.below hb7
  have c_8_0 := (hb7.cell (p := ⟨w.heap.size, 0, none⟩) l_6_0).trans c_6_0
  have c_8_1 := (hb7.cell (p := ⟨w.heap.size, 1, none⟩) l_6_0).trans c_6_1
  have c_8_2 := (hb7.cell (p := ⟨w.heap.size, 2, none⟩) l_6_0).trans c_6_2
  have l_8_0 : w.heap.size < w7.heap.size := Nat.lt_of_lt_of_le l_6_0 hb7.size
  have z_8 : Below w.heap.size w w7 := z_6.trans (hb7.mono z_6.size)
  clear hw_6 he_6 c_6_0 c_6_1 c_6_2 l_6_0 z_6 hb7
  go_wp2_with fail
  refine ((error_no 1 1 w7 true he_8 (by decide) (by omega) (by omega))).mono ?_; rintro e w9 ⟨rfl, hb9⟩
  have hw_10 := hw_8.below hb9
  have he_10 := he_8.below hb9
  have c_10_0 := (hb9.cell (p := ⟨w.heap.size, 0, none⟩) l_8_0).trans c_8_0
  have c_10_1 := (hb9.cell (p := ⟨w.heap.size, 1, none⟩) l_8_0).trans c_8_1
  have c_10_2 := (hb9.cell (p := ⟨w.heap.size, 2, none⟩) l_8_0).trans c_8_2
  have l_10_0 : w.heap.size < w9.heap.size := Nat.lt_of_lt_of_le l_8_0 hb9.size
  have z_10 : Below w.heap.size w w9 := z_8.trans (hb9.mono z_8.size)
  clear hw_8 he_8 c_8_0 c_8_1 c_8_2 l_8_0 z_8 hb9
  go_wp2_with fail
  refine (rdate_num y1 m1 d1 w9 h1).mono ?_; rintro e w11 ⟨rfl, hb11⟩
  have hw_12 := hw_10.below hb11
  have he_12 := he_10.below hb11
  have c_12_0 := (hb11.cell (p := ⟨w.heap.size, 0, none⟩) l_10_0).trans c_10_0
  have c_12_1 := (hb11.cell (p := ⟨w.heap.size, 1, none⟩) l_10_0).trans c_10_1
  have c_12_2 := (hb11.cell (p := ⟨w.heap.size, 2, none⟩) l_10_0).trans c_10_2
  have l_12_0 : w.heap.size < w11.heap.size := Nat.lt_of_lt_of_le l_10_0 hb11.size
  have z_12 : Below w.heap.size w w11 := z_10.trans (hb11.mono z_10.size)
  clear hw_10 he_10 c_10_0 c_10_1 c_10_2 l_10_0 z_10 hb11
  go_wp2_with fail
  obtain ⟨w13, hq13⟩ : ∃ x, x = w11.alloc (.cells #[.int .i64 y1, .int .i64 m1, .int .i64 d1] 28) := ⟨_, rfl⟩
  rw [← hq13]
  have hb13 : Below w11.heap.size w11 w13 := by rw [hq13]; exact (Below.refl _ _).alloc (Nat.le_refl _) _
  have d_13_0 : w13.cell? ⟨w11.heap.size, 0, none⟩ = some (.int .i64 y1) := by rw [hq13]; simp
  have d_13_1 : w13.cell? ⟨w11.heap.size, 1, none⟩ = some (.int .i64 m1) := by rw [hq13]; simp
  have d_13_2 : w13.cell? ⟨w11.heap.size, 2, none⟩ = some (.int .i64 d1) := by rw [hq13]; simp
  have m_13 : w11.heap.size < w13.heap.size := by rw [hq13]; simp
  clear hq13
  have hw_14 := hw_12.below hb13
  have he_14 := he_12.below hb13
  have c_14_0 := (hb13.cell (p := ⟨w.heap.size, 0, none⟩) l_12_0).trans c_12_0
  have c_14_1 := (hb13.cell (p := ⟨w.heap.size, 1, none⟩) l_12_0).trans c_12_1
  have c_14_2 := (hb13.cell (p := ⟨w.heap.size, 2, none⟩) l_12_0).trans c_12_2
  have l_14_0 : w.heap.size < w13.heap.size := Nat.lt_of_lt_of_le l_12_0 hb13.size
  have z_14 : Below w.heap.size w w13 := z_12.trans (hb13.mono z_12.size)
  clear hw_12 he_12 c_12_0 c_12_1 c_12_2 l_12_0 z_12 hb13
  refine (rweekday_any _ w13 q1 (by omega)).mono ?_; rintro e w' ⟨rfl, rfl⟩
  go_wp2_with fail
  refine (date_num y1 m1 d1 w13 hw_14 h1).mono ?_; rintro e w15 ⟨rfl, hb15⟩
  have hw_16 := hw_14.below hb15
  have he_16 := he_14.below hb15
  have c_16_0 := (hb15.cell (p := ⟨w.heap.size, 0, none⟩) l_14_0).trans c_14_0
  have c_16_1 := (hb15.cell (p := ⟨w.heap.size, 1, none⟩) l_14_0).trans c_14_1
  have c_16_2 := (hb15.cell (p := ⟨w.heap.size, 2, none⟩) l_14_0).trans c_14_2
  have c_16_3 := (hb15.cell (p := ⟨w11.heap.size, 0, none⟩) m_13).trans d_13_0
  have c_16_4 := (hb15.cell (p := ⟨w11.heap.size, 1, none⟩) m_13).trans d_13_1
  have c_16_5 := (hb15.cell (p := ⟨w11.heap.size, 2, none⟩) m_13).trans d_13_2
  have l_16_0 : w.heap.size < w15.heap.size := Nat.lt_of_lt_of_le l_14_0 hb15.size
  have l_16_1 : w11.heap.size < w15.heap.size := Nat.lt_of_lt_of_le m_13 hb15.size
  have z_16 : Below w.heap.size w w15 := z_14.trans (hb15.mono z_14.size)
  clear hw_14 he_14 c_14_0 c_14_1 c_14_2 d_13_0 d_13_1 d_13_2 l_14_0 m_13 z_14 hb15
  go_wp2_with fail
  obtain ⟨w17, hq17⟩ : ∃ x, x = w15.alloc (.cells #[.int .i64 y1, .int .i64 m1, .int .i64 d1] 28) := ⟨_, rfl⟩
  rw [← hq17]
  have hb17 : Below w15.heap.size w15 w17 := by rw [hq17]; exact (Below.refl _ _).alloc (Nat.le_refl _) _
  have d_17_0 : w17.cell? ⟨w15.heap.size, 0, none⟩ = some (.int .i64 y1) := by rw [hq17]; simp
  have d_17_1 : w17.cell? ⟨w15.heap.size, 1, none⟩ = some (.int .i64 m1) := by rw [hq17]; simp
  have d_17_2 : w17.cell? ⟨w15.heap.size, 2, none⟩ = some (.int .i64 d1) := by rw [hq17]; simp
  have m_17 : w15.heap.size < w17.heap.size := by rw [hq17]; simp
  clear hq17
  have hw_18 := hw_16.below hb17
  have he_18 := he_16.below hb17
  have c_18_0 := (hb17.cell (p := ⟨w.heap.size, 0, none⟩) l_16_0).trans c_16_0
  have c_18_1 := (hb17.cell (p := ⟨w.heap.size, 1, none⟩) l_16_0).trans c_16_1
  have c_18_2 := (hb17.cell (p := ⟨w.heap.size, 2, none⟩) l_16_0).trans c_16_2
  have c_18_3 := (hb17.cell (p := ⟨w11.heap.size, 0, none⟩) l_16_1).trans c_16_3
  have c_18_4 := (hb17.cell (p := ⟨w11.heap.size, 1, none⟩) l_16_1).trans c_16_4
  have c_18_5 := (hb17.cell (p := ⟨w11.heap.size, 2, none⟩) l_16_1).trans c_16_5
  have l_18_0 : w.heap.size < w17.heap.size := Nat.lt_of_lt_of_le l_16_0 hb17.size
  have l_18_1 : w11.heap.size < w17.heap.size := Nat.lt_of_lt_of_le l_16_1 hb17.size
  have z_18 : Below w.heap.size w w17 := z_16.trans (hb17.mono z_16.size)
  clear hw_16 he_16 c_16_0 c_16_1 c_16_2 c_16_3 c_16_4 c_16_5 l_16_0 l_16_1 z_16 hb17
  refine ((error_nil 0 w17 true (by decide))).mono ?_; rintro e w19 ⟨rfl, hb19⟩
  have hw_20 := hw_18.below hb19
  have he_20 := he_18.below hb19
  have c_20_0 := (hb19.cell (p := ⟨w.heap.size, 0, none⟩) l_18_0).trans c_18_0
  have c_20_1 := (hb19.cell (p := ⟨w.heap.size, 1, none⟩) l_18_0).trans c_18_1
  have c_20_2 := (hb19.cell (p := ⟨w.heap.size, 2, none⟩) l_18_0).trans c_18_2
  have c_20_3 := (hb19.cell (p := ⟨w11.heap.size, 0, none⟩) l_18_1).trans c_18_3
  have c_20_4 := (hb19.cell (p := ⟨w11.heap.size, 1, none⟩) l_18_1).trans c_18_4
  have c_20_5 := (hb19.cell (p := ⟨w11.heap.size, 2, none⟩) l_18_1).trans c_18_5
  have c_20_6 := (hb19.cell (p := ⟨w15.heap.size, 0, none⟩) m_17).trans d_17_0
  have c_20_7 := (hb19.cell (p := ⟨w15.heap.size, 1, none⟩) m_17).trans d_17_1
  have c_20_8 := (hb19.cell (p := ⟨w15.heap.size, 2, none⟩) m_17).trans d_17_2
  have l_20_0 : w.heap.size < w19.heap.size := Nat.lt_of_lt_of_le l_18_0 hb19.size
  have l_20_1 : w11.heap.size < w19.heap.size := Nat.lt_of_lt_of_le l_18_1 hb19.size
  have l_20_2 : w15.heap.size < w19.heap.size := Nat.lt_of_lt_of_le m_17 hb19.size
  have z_20 : Below w.heap.size w w19 := z_18.trans (hb19.mono z_18.size)
  clear hw_18 he_18 c_18_0 c_18_1 c_18_2 c_18_3 c_18_4 c_18_5 d_17_0 d_17_1 d_17_2 l_18_0 l_18_1 m_17 z_18 hb19
  go_wp2_with fail
  refine (weekday_yes _ w19 q1 q2).mono ?_; rintro e w' ⟨rfl, rfl⟩
  go_wp2_with fail
  refine ((error_nil 0 w19 true (by decide))).mono ?_; rintro e w21 ⟨rfl, hb21⟩
  have hw_22 := hw_20.below hb21
  have he_22 := he_20.below hb21
  have c_22_0 := (hb21.cell (p := ⟨w.heap.size, 0, none⟩) l_20_0).trans c_20_0
  have c_22_1 := (hb21.cell (p := ⟨w.heap.size, 1, none⟩) l_20_0).trans c_20_1
  have c_22_2 := (hb21.cell (p := ⟨w.heap.size, 2, none⟩) l_20_0).trans c_20_2
  have c_22_3 := (hb21.cell (p := ⟨w11.heap.size, 0, none⟩) l_20_1).trans c_20_3
  have c_22_4 := (hb21.cell (p := ⟨w11.heap.size, 1, none⟩) l_20_1).trans c_20_4
  have c_22_5 := (hb21.cell (p := ⟨w11.heap.size, 2, none⟩) l_20_1).trans c_20_5
  have c_22_6 := (hb21.cell (p := ⟨w15.heap.size, 0, none⟩) l_20_2).trans c_20_6
  have c_22_7 := (hb21.cell (p := ⟨w15.heap.size, 1, none⟩) l_20_2).trans c_20_7
  have c_22_8 := (hb21.cell (p := ⟨w15.heap.size, 2, none⟩) l_20_2).trans c_20_8
  have l_22_0 : w.heap.size < w21.heap.size := Nat.lt_of_lt_of_le l_20_0 hb21.size
  have l_22_1 : w11.heap.size < w21.heap.size := Nat.lt_of_lt_of_le l_20_1 hb21.size
  have l_22_2 : w15.heap.size < w21.heap.size := Nat.lt_of_lt_of_le l_20_2 hb21.size
  have z_22 : Below w.heap.size w w21 := z_20.trans (hb21.mono z_20.size)
  clear hw_20 he_20 c_20_0 c_20_1 c_20_2 c_20_3 c_20_4 c_20_5 c_20_6 c_20_7 c_20_8 l_20_0 l_20_1 l_20_2 z_20 hb21
  go_wp2_with fail
  go_quiet ((first | (go_at_call 10; exact quiet_l (leap_any _ _)) | (go_at_call 26; exact quiet_l (rleap_any _ _)) | (go_at_call 15; exact quiet_l (last_any _))))
  go_wp2
  go_ret
  exact ⟨rfl, below_drewN z_22 _⟩

set_option maxRecDepth 100000 in
set_option maxHeartbeats 4000000 in
theorem dayTells_month_no (y m d n : Int) (w : World) (hw : Months w) (he : ErrT w) (hm : Cal.monthB y m = true) (hd : Cal.dateB y m d = false) (hn : n < 1 ∨ 109573 < n) :
    Calls Tryd.prog 7 #[.agg #[.int .i64 y, .int .i64 m, .int .i64 d], .int .i64 n] w fun e w' => e = .returned (.bool true) ∧ Below w.heap.size w w' := by
  have hdb := Cal.dim_bd y m
  have e1 : (Cal.dim y m == 0) = false := by simp; omega
  go_enter Tryd.func7, Tryd.ntmps7
  go_wp2_with fail
  obtain ⟨w1, hq1⟩ : ∃ x, x = w.alloc (.cells #[.int .i64 y, .int .i64 m, .int .i64 d] 28) := ⟨_, rfl⟩
  rw [← hq1]
  have hb1 : Below w.heap.size w w1 := by rw [hq1]; exact (Below.refl _ _).alloc (Nat.le_refl _) _
  have d_1_0 : w1.cell? ⟨w.heap.size, 0, none⟩ = some (.int .i64 y) := by rw [hq1]; simp
  have d_1_1 : w1.cell? ⟨w.heap.size, 1, none⟩ = some (.int .i64 m) := by rw [hq1]; simp
  have d_1_2 : w1.cell? ⟨w.heap.size, 2, none⟩ = some (.int .i64 d) := by rw [hq1]; simp
  have m_1 : w.heap.size < w1.heap.size := by rw [hq1]; simp
  clear hq1
  have hw_2 := hw.below hb1
  have he_2 := he.below hb1
  have z_2 : Below w.heap.size w w1 := hb1
  clear hw he hb1
  refine (rdays_yes y m w1 hm).mono ?_; rintro e w' ⟨rfl, rfl⟩
  go_wp2_with fail
  refine (days_yes y m w1 hw_2 hm).mono ?_; rintro e w' ⟨rfl, rfl⟩
  go_wp2_with fail
  refine ((error_nil 0 w1 true (by decide))).mono ?_; rintro e w3 ⟨rfl, hb3⟩
  have hw_4 := hw_2.below hb3
  have he_4 := he_2.below hb3
  have c_4_0 := (hb3.cell (p := ⟨w.heap.size, 0, none⟩) m_1).trans d_1_0
  have c_4_1 := (hb3.cell (p := ⟨w.heap.size, 1, none⟩) m_1).trans d_1_1
  have c_4_2 := (hb3.cell (p := ⟨w.heap.size, 2, none⟩) m_1).trans d_1_2
  have l_4_0 : w.heap.size < w3.heap.size := Nat.lt_of_lt_of_le m_1 hb3.size
  have z_4 : Below w.heap.size w w3 := z_2.trans (hb3.mono z_2.size)
  clear hw_2 he_2 d_1_0 d_1_1 d_1_2 m_1 z_2 hb3
  go_wp2_with fail
  refine (rof_no y m d w3 hd).mono ?_; rintro e w5 ⟨rfl, hb5⟩
  have hw_6 := hw_4.below hb5
  have he_6 := he_4.below hb5
  have c_6_0 := (hb5.cell (p := ⟨w.heap.size, 0, none⟩) l_4_0).trans c_4_0
  have c_6_1 := (hb5.cell (p := ⟨w.heap.size, 1, none⟩) l_4_0).trans c_4_1
  have c_6_2 := (hb5.cell (p := ⟨w.heap.size, 2, none⟩) l_4_0).trans c_4_2
  have l_6_0 : w.heap.size < w5.heap.size := Nat.lt_of_lt_of_le l_4_0 hb5.size
  have z_6 : Below w.heap.size w w5 := z_4.trans (hb5.mono z_4.size)
  clear hw_4 he_4 c_4_0 c_4_1 c_4_2 l_4_0 z_4 hb5
  go_wp2_with fail
  refine (of_no y m d w5 hw_6 hd).mono ?_; rintro e w7 ⟨rfl, hb7⟩
  have hw_8 := hw_6.below hb7
  have he_8 := he_6.below hb7
  have c_8_0 := (hb7.cell (p := ⟨w.heap.size, 0, none⟩) l_6_0).trans c_6_0
  have c_8_1 := (hb7.cell (p := ⟨w.heap.size, 1, none⟩) l_6_0).trans c_6_1
  have c_8_2 := (hb7.cell (p := ⟨w.heap.size, 2, none⟩) l_6_0).trans c_6_2
  have l_8_0 : w.heap.size < w7.heap.size := Nat.lt_of_lt_of_le l_6_0 hb7.size
  have z_8 : Below w.heap.size w w7 := z_6.trans (hb7.mono z_6.size)
  clear hw_6 he_6 c_6_0 c_6_1 c_6_2 l_6_0 z_6 hb7
  go_wp2_with fail
  refine ((error_no 1 1 w7 true he_8 (by decide) (by omega) (by omega))).mono ?_; rintro e w9 ⟨rfl, hb9⟩
  have hw_10 := hw_8.below hb9
  have he_10 := he_8.below hb9
  have c_10_0 := (hb9.cell (p := ⟨w.heap.size, 0, none⟩) l_8_0).trans c_8_0
  have c_10_1 := (hb9.cell (p := ⟨w.heap.size, 1, none⟩) l_8_0).trans c_8_1
  have c_10_2 := (hb9.cell (p := ⟨w.heap.size, 2, none⟩) l_8_0).trans c_8_2
  have l_10_0 : w.heap.size < w9.heap.size := Nat.lt_of_lt_of_le l_8_0 hb9.size
  have z_10 : Below w.heap.size w w9 := z_8.trans (hb9.mono z_8.size)
  clear hw_8 he_8 c_8_0 c_8_1 c_8_2 l_8_0 z_8 hb9
  go_wp2_with fail
  refine (rdate_no n w9 hn).mono ?_; rintro e w11 ⟨rfl, hb11⟩
  have hw_12 := hw_10.below hb11
  have he_12 := he_10.below hb11
  have c_12_0 := (hb11.cell (p := ⟨w.heap.size, 0, none⟩) l_10_0).trans c_10_0
  have c_12_1 := (hb11.cell (p := ⟨w.heap.size, 1, none⟩) l_10_0).trans c_10_1
  have c_12_2 := (hb11.cell (p := ⟨w.heap.size, 2, none⟩) l_10_0).trans c_10_2
  have l_12_0 : w.heap.size < w11.heap.size := Nat.lt_of_lt_of_le l_10_0 hb11.size
  have z_12 : Below w.heap.size w w11 := z_10.trans (hb11.mono z_10.size)
  clear hw_10 he_10 c_10_0 c_10_1 c_10_2 l_10_0 z_10 hb11
  go_wp2_with fail
  obtain ⟨w13, hq13⟩ : ∃ x, x = w11.alloc (.cells #[.int .i64 0, .int .i64 0, .int .i64 0] 28) := ⟨_, rfl⟩
  rw [← hq13]
  have hb13 : Below w11.heap.size w11 w13 := by rw [hq13]; exact (Below.refl _ _).alloc (Nat.le_refl _) _
  have d_13_0 : w13.cell? ⟨w11.heap.size, 0, none⟩ = some (.int .i64 0) := by rw [hq13]; simp
  have d_13_1 : w13.cell? ⟨w11.heap.size, 1, none⟩ = some (.int .i64 0) := by rw [hq13]; simp
  have d_13_2 : w13.cell? ⟨w11.heap.size, 2, none⟩ = some (.int .i64 0) := by rw [hq13]; simp
  have m_13 : w11.heap.size < w13.heap.size := by rw [hq13]; simp
  clear hq13
  have hw_14 := hw_12.below hb13
  have he_14 := he_12.below hb13
  have c_14_0 := (hb13.cell (p := ⟨w.heap.size, 0, none⟩) l_12_0).trans c_12_0
  have c_14_1 := (hb13.cell (p := ⟨w.heap.size, 1, none⟩) l_12_0).trans c_12_1
  have c_14_2 := (hb13.cell (p := ⟨w.heap.size, 2, none⟩) l_12_0).trans c_12_2
  have l_14_0 : w.heap.size < w13.heap.size := Nat.lt_of_lt_of_le l_12_0 hb13.size
  have z_14 : Below w.heap.size w w13 := z_12.trans (hb13.mono z_12.size)
  clear hw_12 he_12 c_12_0 c_12_1 c_12_2 l_12_0 z_12 hb13
  refine (date_no n w13 hn).mono ?_; rintro e w15 ⟨rfl, hb15⟩
  have hw_16 := hw_14.below hb15
  have he_16 := he_14.below hb15
  have c_16_0 := (hb15.cell (p := ⟨w.heap.size, 0, none⟩) l_14_0).trans c_14_0
  have c_16_1 := (hb15.cell (p := ⟨w.heap.size, 1, none⟩) l_14_0).trans c_14_1
  have c_16_2 := (hb15.cell (p := ⟨w.heap.size, 2, none⟩) l_14_0).trans c_14_2
  have c_16_3 := (hb15.cell (p := ⟨w11.heap.size, 0, none⟩) m_13).trans d_13_0
  have c_16_4 := (hb15.cell (p := ⟨w11.heap.size, 1, none⟩) m_13).trans d_13_1
  have c_16_5 := (hb15.cell (p := ⟨w11.heap.size, 2, none⟩) m_13).trans d_13_2
  have l_16_0 : w.heap.size < w15.heap.size := Nat.lt_of_lt_of_le l_14_0 hb15.size
  have l_16_1 : w11.heap.size < w15.heap.size := Nat.lt_of_lt_of_le m_13 hb15.size
  have z_16 : Below w.heap.size w w15 := z_14.trans (hb15.mono z_14.size)
  clear hw_14 he_14 c_14_0 c_14_1 c_14_2 d_13_0 d_13_1 d_13_2 l_14_0 m_13 z_14 hb15
  go_wp2_with fail
  obtain ⟨w17, hq17⟩ : ∃ x, x = w15.alloc (.cells #[.int .i64 0, .int .i64 0, .int .i64 0] 28) := ⟨_, rfl⟩
  rw [← hq17]
  have hb17 : Below w15.heap.size w15 w17 := by rw [hq17]; exact (Below.refl _ _).alloc (Nat.le_refl _) _
  have d_17_0 : w17.cell? ⟨w15.heap.size, 0, none⟩ = some (.int .i64 0) := by rw [hq17]; simp
  have d_17_1 : w17.cell? ⟨w15.heap.size, 1, none⟩ = some (.int .i64 0) := by rw [hq17]; simp
  have d_17_2 : w17.cell? ⟨w15.heap.size, 2, none⟩ = some (.int .i64 0) := by rw [hq17]; simp
  have m_17 : w15.heap.size < w17.heap.size := by rw [hq17]; simp
  clear hq17
  have hw_18 := hw_16.below hb17
  have he_18 := he_16.below hb17
  have c_18_0 := (hb17.cell (p := ⟨w.heap.size, 0, none⟩) l_16_0).trans c_16_0
  have c_18_1 := (hb17.cell (p := ⟨w.heap.size, 1, none⟩) l_16_0).trans c_16_1
  have c_18_2 := (hb17.cell (p := ⟨w.heap.size, 2, none⟩) l_16_0).trans c_16_2
  have c_18_3 := (hb17.cell (p := ⟨w11.heap.size, 0, none⟩) l_16_1).trans c_16_3
  have c_18_4 := (hb17.cell (p := ⟨w11.heap.size, 1, none⟩) l_16_1).trans c_16_4
  have c_18_5 := (hb17.cell (p := ⟨w11.heap.size, 2, none⟩) l_16_1).trans c_16_5
  have l_18_0 : w.heap.size < w17.heap.size := Nat.lt_of_lt_of_le l_16_0 hb17.size
  have l_18_1 : w11.heap.size < w17.heap.size := Nat.lt_of_lt_of_le l_16_1 hb17.size
  have z_18 : Below w.heap.size w w17 := z_16.trans (hb17.mono z_16.size)
  clear hw_16 he_16 c_16_0 c_16_1 c_16_2 c_16_3 c_16_4 c_16_5 l_16_0 l_16_1 z_16 hb17
  refine ((error_no 1 1 w17 true he_18 (by decide) (by omega) (by omega))).mono ?_; rintro e w19 ⟨rfl, hb19⟩
  have hw_20 := hw_18.below hb19
  have he_20 := he_18.below hb19
  have c_20_0 := (hb19.cell (p := ⟨w.heap.size, 0, none⟩) l_18_0).trans c_18_0
  have c_20_1 := (hb19.cell (p := ⟨w.heap.size, 1, none⟩) l_18_0).trans c_18_1
  have c_20_2 := (hb19.cell (p := ⟨w.heap.size, 2, none⟩) l_18_0).trans c_18_2
  have c_20_3 := (hb19.cell (p := ⟨w11.heap.size, 0, none⟩) l_18_1).trans c_18_3
  have c_20_4 := (hb19.cell (p := ⟨w11.heap.size, 1, none⟩) l_18_1).trans c_18_4
  have c_20_5 := (hb19.cell (p := ⟨w11.heap.size, 2, none⟩) l_18_1).trans c_18_5
  have c_20_6 := (hb19.cell (p := ⟨w15.heap.size, 0, none⟩) m_17).trans d_17_0
  have c_20_7 := (hb19.cell (p := ⟨w15.heap.size, 1, none⟩) m_17).trans d_17_1
  have c_20_8 := (hb19.cell (p := ⟨w15.heap.size, 2, none⟩) m_17).trans d_17_2
  have l_20_0 : w.heap.size < w19.heap.size := Nat.lt_of_lt_of_le l_18_0 hb19.size
  have l_20_1 : w11.heap.size < w19.heap.size := Nat.lt_of_lt_of_le l_18_1 hb19.size
  have l_20_2 : w15.heap.size < w19.heap.size := Nat.lt_of_lt_of_le m_17 hb19.size
  have z_20 : Below w.heap.size w w19 := z_18.trans (hb19.mono z_18.size)
  clear hw_18 he_18 c_18_0 c_18_1 c_18_2 c_18_3 c_18_4 c_18_5 d_17_0 d_17_1 d_17_2 l_18_0 l_18_1 m_17 z_18 hb19
  go_wp2_with fail
  refine (weekday_no n w19 hn).mono ?_; rintro e w' ⟨rfl, rfl⟩
  go_wp2_with fail
  refine ((error_no 1 1 w19 true he_20 (by decide) (by omega) (by omega))).mono ?_; rintro e w21 ⟨rfl, hb21⟩
  have hw_22 := hw_20.below hb21
  have he_22 := he_20.below hb21
  have c_22_0 := (hb21.cell (p := ⟨w.heap.size, 0, none⟩) l_20_0).trans c_20_0
  have c_22_1 := (hb21.cell (p := ⟨w.heap.size, 1, none⟩) l_20_0).trans c_20_1
  have c_22_2 := (hb21.cell (p := ⟨w.heap.size, 2, none⟩) l_20_0).trans c_20_2
  have c_22_3 := (hb21.cell (p := ⟨w11.heap.size, 0, none⟩) l_20_1).trans c_20_3
  have c_22_4 := (hb21.cell (p := ⟨w11.heap.size, 1, none⟩) l_20_1).trans c_20_4
  have c_22_5 := (hb21.cell (p := ⟨w11.heap.size, 2, none⟩) l_20_1).trans c_20_5
  have c_22_6 := (hb21.cell (p := ⟨w15.heap.size, 0, none⟩) l_20_2).trans c_20_6
  have c_22_7 := (hb21.cell (p := ⟨w15.heap.size, 1, none⟩) l_20_2).trans c_20_7
  have c_22_8 := (hb21.cell (p := ⟨w15.heap.size, 2, none⟩) l_20_2).trans c_20_8
  have l_22_0 : w.heap.size < w21.heap.size := Nat.lt_of_lt_of_le l_20_0 hb21.size
  have l_22_1 : w11.heap.size < w21.heap.size := Nat.lt_of_lt_of_le l_20_1 hb21.size
  have l_22_2 : w15.heap.size < w21.heap.size := Nat.lt_of_lt_of_le l_20_2 hb21.size
  have z_22 : Below w.heap.size w w21 := z_20.trans (hb21.mono z_20.size)
  clear hw_20 he_20 c_20_0 c_20_1 c_20_2 c_20_3 c_20_4 c_20_5 c_20_6 c_20_7 c_20_8 l_20_0 l_20_1 l_20_2 z_20 hb21
  go_wp2_with fail
  go_quiet ((first | (go_at_call 10; exact quiet_l (leap_any _ _)) | (go_at_call 26; exact quiet_l (rleap_any _ _)) | (go_at_call 15; exact quiet_l (last_any _))))
  go_wp2
  go_ret
  exact ⟨rfl, below_drewN z_22 _⟩

set_option maxRecDepth 100000 in
set_option maxHeartbeats 4000000 in
theorem dayTells_none_yes (y m d y1 m1 d1 : Int) (w : World) (hw : Months w) (he : ErrT w) (hm : Cal.monthB y m = false) (hd : Cal.dateB y m d = false) (h1 : Cal.dateB y1 m1 d1 = true) :
    Calls Tryd.prog 7 #[.agg #[.int .i64 y, .int .i64 m, .int .i64 d], .int .i64 (Cal.num y1 m1 d1)] w fun e w' => e = .returned (.bool true) ∧ Below w.heap.size w w' := by
  have hdb := Cal.dim_bd y m
  obtain ⟨_, _, q1, q2⟩ := Cal.num_bd h1
  go_enter Tryd.func7, Tryd.ntmps7
  go_wp2_with fail
  obtain ⟨w1, hq1⟩ : ∃ x, x = w.alloc (.cells #[.int .i64 y, .int .i64 m, .int .i64 d] 28) := ⟨_, rfl⟩
  rw [← hq1]
  have hb1 : Below w.heap.size w w1 := by rw [hq1]; exact (Below.refl _ _).alloc (Nat.le_refl _) _
  have d_1_0 : w1.cell? ⟨w.heap.size, 0, none⟩ = some (.int .i64 y) := by rw [hq1]; simp
  have d_1_1 : w1.cell? ⟨w.heap.size, 1, none⟩ = some (.int .i64 m) := by rw [hq1]; simp
  have d_1_2 : w1.cell? ⟨w.heap.size, 2, none⟩ = some (.int .i64 d) := by rw [hq1]; simp
  have m_1 : w.heap.size < w1.heap.size := by rw [hq1]; simp
  clear hq1
  have hw_2 := hw.below hb1
  have he_2 := he.below hb1
  have z_2 : Below w.heap.size w w1 := hb1
  clear hw he hb1
  refine (rdays_no y m w1 hm).mono ?_; rintro e w' ⟨rfl, rfl⟩
  go_wp2_with fail
  refine (days_no y m w1 hm).mono ?_; rintro e w' ⟨rfl, rfl⟩
  go_wp2_with fail
  refine ((error_no 1 1 w1 true he_2 (by decide) (by omega) (by omega))).mono ?_; rintro e w3 ⟨rfl, hb3⟩
  have hw_4 := hw_2.below hb3
  have he_4 := he_2.below hb3
  have c_4_0 := (hb3.cell (p := ⟨w.heap.size, 0, none⟩) m_1).trans d_1_0
  have c_4_1 := (hb3.cell (p := ⟨w.heap.size, 1, none⟩) m_1).trans d_1_1
  have c_4_2 := (hb3.cell (p := ⟨w.heap.size, 2, none⟩) m_1).trans d_1_2
  have l_4_0 : w.heap.size < w3.heap.size := Nat.lt_of_lt_of_le m_1 hb3.size
  have z_4 : Below w.heap.size w w3 := z_2.trans (hb3.mono z_2.size)
  clear hw_2 he_2 d_1_0 d_1_1 d_1_2 m_1 z_2 hb3
  go_wp2_with fail
  refine (rof_no y m d w3 hd).mono ?_; rintro e w5 ⟨rfl, hb5⟩
  have hw_6 := hw_4.below hb5
  have he_6 := he_4.below hb5
  have c_6_0 := (hb5.cell (p := ⟨w.heap.size, 0, none⟩) l_4_0).trans c_4_0
  have c_6_1 := (hb5.cell (p := ⟨w.heap.size, 1, none⟩) l_4_0).trans c_4_1
  have c_6_2 := (hb5.cell (p := ⟨w.heap.size, 2, none⟩) l_4_0).trans c_4_2
  have l_6_0 : w.heap.size < w5.heap.size := Nat.lt_of_lt_of_le l_4_0 hb5.size
  have z_6 : Below w.heap.size w w5 := z_4.trans (hb5.mono z_4.size)
  clear hw_4 he_4 c_4_0 c_4_1 c_4_2 l_4_0 z_4 hb5
  go_wp2_with fail
  refine (of_no y m d w5 hw_6 hd).mono ?_; rintro e w7 ⟨rfl, hb7⟩
  have hw_8 := hw_6.below hb7
  have he_8 := he_6.below hb7
  have c_8_0 := (hb7.cell (p := ⟨w.heap.size, 0, none⟩) l_6_0).trans c_6_0
  have c_8_1 := (hb7.cell (p := ⟨w.heap.size, 1, none⟩) l_6_0).trans c_6_1
  have c_8_2 := (hb7.cell (p := ⟨w.heap.size, 2, none⟩) l_6_0).trans c_6_2
  have l_8_0 : w.heap.size < w7.heap.size := Nat.lt_of_lt_of_le l_6_0 hb7.size
  have z_8 : Below w.heap.size w w7 := z_6.trans (hb7.mono z_6.size)
  clear hw_6 he_6 c_6_0 c_6_1 c_6_2 l_6_0 z_6 hb7
  go_wp2_with fail
  refine ((error_no 1 1 w7 true he_8 (by decide) (by omega) (by omega))).mono ?_; rintro e w9 ⟨rfl, hb9⟩
  have hw_10 := hw_8.below hb9
  have he_10 := he_8.below hb9
  have c_10_0 := (hb9.cell (p := ⟨w.heap.size, 0, none⟩) l_8_0).trans c_8_0
  have c_10_1 := (hb9.cell (p := ⟨w.heap.size, 1, none⟩) l_8_0).trans c_8_1
  have c_10_2 := (hb9.cell (p := ⟨w.heap.size, 2, none⟩) l_8_0).trans c_8_2
  have l_10_0 : w.heap.size < w9.heap.size := Nat.lt_of_lt_of_le l_8_0 hb9.size
  have z_10 : Below w.heap.size w w9 := z_8.trans (hb9.mono z_8.size)
  clear hw_8 he_8 c_8_0 c_8_1 c_8_2 l_8_0 z_8 hb9
  go_wp2_with fail
  refine (rdate_num y1 m1 d1 w9 h1).mono ?_; rintro e w11 ⟨rfl, hb11⟩
  have hw_12 := hw_10.below hb11
  have he_12 := he_10.below hb11
  have c_12_0 := (hb11.cell (p := ⟨w.heap.size, 0, none⟩) l_10_0).trans c_10_0
  have c_12_1 := (hb11.cell (p := ⟨w.heap.size, 1, none⟩) l_10_0).trans c_10_1
  have c_12_2 := (hb11.cell (p := ⟨w.heap.size, 2, none⟩) l_10_0).trans c_10_2
  have l_12_0 : w.heap.size < w11.heap.size := Nat.lt_of_lt_of_le l_10_0 hb11.size
  have z_12 : Below w.heap.size w w11 := z_10.trans (hb11.mono z_10.size)
  clear hw_10 he_10 c_10_0 c_10_1 c_10_2 l_10_0 z_10 hb11
  go_wp2_with fail
  obtain ⟨w13, hq13⟩ : ∃ x, x = w11.alloc (.cells #[.int .i64 y1, .int .i64 m1, .int .i64 d1] 28) := ⟨_, rfl⟩
  rw [← hq13]
  have hb13 : Below w11.heap.size w11 w13 := by rw [hq13]; exact (Below.refl _ _).alloc (Nat.le_refl _) _
  have d_13_0 : w13.cell? ⟨w11.heap.size, 0, none⟩ = some (.int .i64 y1) := by rw [hq13]; simp
  have d_13_1 : w13.cell? ⟨w11.heap.size, 1, none⟩ = some (.int .i64 m1) := by rw [hq13]; simp
  have d_13_2 : w13.cell? ⟨w11.heap.size, 2, none⟩ = some (.int .i64 d1) := by rw [hq13]; simp
  have m_13 : w11.heap.size < w13.heap.size := by rw [hq13]; simp
  clear hq13
  have hw_14 := hw_12.below hb13
  have he_14 := he_12.below hb13
  have c_14_0 := (hb13.cell (p := ⟨w.heap.size, 0, none⟩) l_12_0).trans c_12_0
  have c_14_1 := (hb13.cell (p := ⟨w.heap.size, 1, none⟩) l_12_0).trans c_12_1
  have c_14_2 := (hb13.cell (p := ⟨w.heap.size, 2, none⟩) l_12_0).trans c_12_2
  have l_14_0 : w.heap.size < w13.heap.size := Nat.lt_of_lt_of_le l_12_0 hb13.size
  have z_14 : Below w.heap.size w w13 := z_12.trans (hb13.mono z_12.size)
  clear hw_12 he_12 c_12_0 c_12_1 c_12_2 l_12_0 z_12 hb13
  refine (rweekday_any _ w13 q1 (by omega)).mono ?_; rintro e w' ⟨rfl, rfl⟩
  go_wp2_with fail
  refine (date_num y1 m1 d1 w13 hw_14 h1).mono ?_; rintro e w15 ⟨rfl, hb15⟩
  have hw_16 := hw_14.below hb15
  have he_16 := he_14.below hb15
  have c_16_0 := (hb15.cell (p := ⟨w.heap.size, 0, none⟩) l_14_0).trans c_14_0
  have c_16_1 := (hb15.cell (p := ⟨w.heap.size, 1, none⟩) l_14_0).trans c_14_1
  have c_16_2 := (hb15.cell (p := ⟨w.heap.size, 2, none⟩) l_14_0).trans c_14_2
  have c_16_3 := (hb15.cell (p := ⟨w11.heap.size, 0, none⟩) m_13).trans d_13_0
  have c_16_4 := (hb15.cell (p := ⟨w11.heap.size, 1, none⟩) m_13).trans d_13_1
  have c_16_5 := (hb15.cell (p := ⟨w11.heap.size, 2, none⟩) m_13).trans d_13_2
  have l_16_0 : w.heap.size < w15.heap.size := Nat.lt_of_lt_of_le l_14_0 hb15.size
  have l_16_1 : w11.heap.size < w15.heap.size := Nat.lt_of_lt_of_le m_13 hb15.size
  have z_16 : Below w.heap.size w w15 := z_14.trans (hb15.mono z_14.size)
  clear hw_14 he_14 c_14_0 c_14_1 c_14_2 d_13_0 d_13_1 d_13_2 l_14_0 m_13 z_14 hb15
  go_wp2_with fail
  obtain ⟨w17, hq17⟩ : ∃ x, x = w15.alloc (.cells #[.int .i64 y1, .int .i64 m1, .int .i64 d1] 28) := ⟨_, rfl⟩
  rw [← hq17]
  have hb17 : Below w15.heap.size w15 w17 := by rw [hq17]; exact (Below.refl _ _).alloc (Nat.le_refl _) _
  have d_17_0 : w17.cell? ⟨w15.heap.size, 0, none⟩ = some (.int .i64 y1) := by rw [hq17]; simp
  have d_17_1 : w17.cell? ⟨w15.heap.size, 1, none⟩ = some (.int .i64 m1) := by rw [hq17]; simp
  have d_17_2 : w17.cell? ⟨w15.heap.size, 2, none⟩ = some (.int .i64 d1) := by rw [hq17]; simp
  have m_17 : w15.heap.size < w17.heap.size := by rw [hq17]; simp
  clear hq17
  have hw_18 := hw_16.below hb17
  have he_18 := he_16.below hb17
  have c_18_0 := (hb17.cell (p := ⟨w.heap.size, 0, none⟩) l_16_0).trans c_16_0
  have c_18_1 := (hb17.cell (p := ⟨w.heap.size, 1, none⟩) l_16_0).trans c_16_1
  have c_18_2 := (hb17.cell (p := ⟨w.heap.size, 2, none⟩) l_16_0).trans c_16_2
  have c_18_3 := (hb17.cell (p := ⟨w11.heap.size, 0, none⟩) l_16_1).trans c_16_3
  have c_18_4 := (hb17.cell (p := ⟨w11.heap.size, 1, none⟩) l_16_1).trans c_16_4
  have c_18_5 := (hb17.cell (p := ⟨w11.heap.size, 2, none⟩) l_16_1).trans c_16_5
  have l_18_0 : w.heap.size < w17.heap.size := Nat.lt_of_lt_of_le l_16_0 hb17.size
  have l_18_1 : w11.heap.size < w17.heap.size := Nat.lt_of_lt_of_le l_16_1 hb17.size
  have z_18 : Below w.heap.size w w17 := z_16.trans (hb17.mono z_16.size)
  clear hw_16 he_16 c_16_0 c_16_1 c_16_2 c_16_3 c_16_4 c_16_5 l_16_0 l_16_1 z_16 hb17
  refine ((error_nil 0 w17 true (by decide))).mono ?_; rintro e w19 ⟨rfl, hb19⟩
  have hw_20 := hw_18.below hb19
  have he_20 := he_18.below hb19
  have c_20_0 := (hb19.cell (p := ⟨w.heap.size, 0, none⟩) l_18_0).trans c_18_0
  have c_20_1 := (hb19.cell (p := ⟨w.heap.size, 1, none⟩) l_18_0).trans c_18_1
  have c_20_2 := (hb19.cell (p := ⟨w.heap.size, 2, none⟩) l_18_0).trans c_18_2
  have c_20_3 := (hb19.cell (p := ⟨w11.heap.size, 0, none⟩) l_18_1).trans c_18_3
  have c_20_4 := (hb19.cell (p := ⟨w11.heap.size, 1, none⟩) l_18_1).trans c_18_4
  have c_20_5 := (hb19.cell (p := ⟨w11.heap.size, 2, none⟩) l_18_1).trans c_18_5
  have c_20_6 := (hb19.cell (p := ⟨w15.heap.size, 0, none⟩) m_17).trans d_17_0
  have c_20_7 := (hb19.cell (p := ⟨w15.heap.size, 1, none⟩) m_17).trans d_17_1
  have c_20_8 := (hb19.cell (p := ⟨w15.heap.size, 2, none⟩) m_17).trans d_17_2
  have l_20_0 : w.heap.size < w19.heap.size := Nat.lt_of_lt_of_le l_18_0 hb19.size
  have l_20_1 : w11.heap.size < w19.heap.size := Nat.lt_of_lt_of_le l_18_1 hb19.size
  have l_20_2 : w15.heap.size < w19.heap.size := Nat.lt_of_lt_of_le m_17 hb19.size
  have z_20 : Below w.heap.size w w19 := z_18.trans (hb19.mono z_18.size)
  clear hw_18 he_18 c_18_0 c_18_1 c_18_2 c_18_3 c_18_4 c_18_5 d_17_0 d_17_1 d_17_2 l_18_0 l_18_1 m_17 z_18 hb19
  go_wp2_with fail
  refine (weekday_yes _ w19 q1 q2).mono ?_; rintro e w' ⟨rfl, rfl⟩
  go_wp2_with fail
  refine ((error_nil 0 w19 true (by decide))).mono ?_; rintro e w21 ⟨rfl, hb21⟩
  have hw_22 := hw_20.below hb21
  have he_22 := he_20.below hb21
  have c_22_0 := (hb21.cell (p := ⟨w.heap.size, 0, none⟩) l_20_0).trans c_20_0
  have c_22_1 := (hb21.cell (p := ⟨w.heap.size, 1, none⟩) l_20_0).trans c_20_1
  have c_22_2 := (hb21.cell (p := ⟨w.heap.size, 2, none⟩) l_20_0).trans c_20_2
  have c_22_3 := (hb21.cell (p := ⟨w11.heap.size, 0, none⟩) l_20_1).trans c_20_3
  have c_22_4 := (hb21.cell (p := ⟨w11.heap.size, 1, none⟩) l_20_1).trans c_20_4
  have c_22_5 := (hb21.cell (p := ⟨w11.heap.size, 2, none⟩) l_20_1).trans c_20_5
  have c_22_6 := (hb21.cell (p := ⟨w15.heap.size, 0, none⟩) l_20_2).trans c_20_6
  have c_22_7 := (hb21.cell (p := ⟨w15.heap.size, 1, none⟩) l_20_2).trans c_20_7
  have c_22_8 := (hb21.cell (p := ⟨w15.heap.size, 2, none⟩) l_20_2).trans c_20_8
  have l_22_0 : w.heap.size < w21.heap.size := Nat.lt_of_lt_of_le l_20_0 hb21.size
  have l_22_1 : w11.heap.size < w21.heap.size := Nat.lt_of_lt_of_le l_20_1 hb21.size
  have l_22_2 : w15.heap.size < w21.heap.size := Nat.lt_of_lt_of_le l_20_2 hb21.size
  have z_22 : Below w.heap.size w w21 := z_20.trans (hb21.mono z_20.size)
  clear hw_20 he_20 c_20_0 c_20_1 c_20_2 c_20_3 c_20_4 c_20_5 c_20_6 c_20_7 c_20_8 l_20_0 l_20_1 l_20_2 z_20 hb21
  go_wp2_with fail
  go_quiet ((first | (go_at_call 10; exact quiet_l (leap_any _ _)) | (go_at_call 26; exact quiet_l (rleap_any _ _)) | (go_at_call 15; exact quiet_l (last_any _))))
  go_wp2
  go_ret
  exact ⟨rfl, below_drewN z_22 _⟩

set_option maxRecDepth 100000 in
set_option maxHeartbeats 4000000 in
theorem dayTells_none_no (y m d n : Int) (w : World) (hw : Months w) (he : ErrT w) (hm : Cal.monthB y m = false) (hd : Cal.dateB y m d = false) (hn : n < 1 ∨ 109573 < n) :
    Calls Tryd.prog 7 #[.agg #[.int .i64 y, .int .i64 m, .int .i64 d], .int .i64 n] w fun e w' => e = .returned (.bool true) ∧ Below w.heap.size w w' := by
  have hdb := Cal.dim_bd y m
  go_enter Tryd.func7, Tryd.ntmps7
  go_wp2_with fail
  obtain ⟨w1, hq1⟩ : ∃ x, x = w.alloc (.cells #[.int .i64 y, .int .i64 m, .int .i64 d] 28) := ⟨_, rfl⟩
  rw [← hq1]
  have hb1 : Below w.heap.size w w1 := by rw [hq1]; exact (Below.refl _ _).alloc (Nat.le_refl _) _
  have d_1_0 : w1.cell? ⟨w.heap.size, 0, none⟩ = some (.int .i64 y) := by rw [hq1]; simp
  have d_1_1 : w1.cell? ⟨w.heap.size, 1, none⟩ = some (.int .i64 m) := by rw [hq1]; simp
  have d_1_2 : w1.cell? ⟨w.heap.size, 2, none⟩ = some (.int .i64 d) := by rw [hq1]; simp
  have m_1 : w.heap.size < w1.heap.size := by rw [hq1]; simp
  clear hq1
  have hw_2 := hw.below hb1
  have he_2 := he.below hb1
  have z_2 : Below w.heap.size w w1 := hb1
  clear hw he hb1
  refine (rdays_no y m w1 hm).mono ?_; rintro e w' ⟨rfl, rfl⟩
  go_wp2_with fail
  refine (days_no y m w1 hm).mono ?_; rintro e w' ⟨rfl, rfl⟩
  go_wp2_with fail
  refine ((error_no 1 1 w1 true he_2 (by decide) (by omega) (by omega))).mono ?_; rintro e w3 ⟨rfl, hb3⟩
  have hw_4 := hw_2.below hb3
  have he_4 := he_2.below hb3
  have c_4_0 := (hb3.cell (p := ⟨w.heap.size, 0, none⟩) m_1).trans d_1_0
  have c_4_1 := (hb3.cell (p := ⟨w.heap.size, 1, none⟩) m_1).trans d_1_1
  have c_4_2 := (hb3.cell (p := ⟨w.heap.size, 2, none⟩) m_1).trans d_1_2
  have l_4_0 : w.heap.size < w3.heap.size := Nat.lt_of_lt_of_le m_1 hb3.size
  have z_4 : Below w.heap.size w w3 := z_2.trans (hb3.mono z_2.size)
  clear hw_2 he_2 d_1_0 d_1_1 d_1_2 m_1 z_2 hb3
  go_wp2_with fail
  refine (rof_no y m d w3 hd).mono ?_; rintro e w5 ⟨rfl, hb5⟩
  have hw_6 := hw_4.below hb5
  have he_6 := he_4.below hb5
  have c_6_0 := (hb5.cell (p := ⟨w.heap.size, 0, none⟩) l_4_0).trans c_4_0
  have c_6_1 := (hb5.cell (p := ⟨w.heap.size, 1, none⟩) l_4_0).trans c_4_1
  have c_6_2 := (hb5.cell (p := ⟨w.heap.size, 2, none⟩) l_4_0).trans c_4_2
  have l_6_0 : w.heap.size < w5.heap.size := Nat.lt_of_lt_of_le l_4_0 hb5.size
  have z_6 : Below w.heap.size w w5 := z_4.trans (hb5.mono z_4.size)
  clear hw_4 he_4 c_4_0 c_4_1 c_4_2 l_4_0 z_4 hb5
  go_wp2_with fail
  refine (of_no y m d w5 hw_6 hd).mono ?_; rintro e w7 ⟨rfl, hb7⟩
  have hw_8 := hw_6.below hb7
  have he_8 := he_6.below hb7
  have c_8_0 := (hb7.cell (p := ⟨w.heap.size, 0, none⟩) l_6_0).trans c_6_0
  have c_8_1 := (hb7.cell (p := ⟨w.heap.size, 1, none⟩) l_6_0).trans c_6_1
  have c_8_2 := (hb7.cell (p := ⟨w.heap.size, 2, none⟩) l_6_0).trans c_6_2
  have l_8_0 : w.heap.size < w7.heap.size := Nat.lt_of_lt_of_le l_6_0 hb7.size
  have z_8 : Below w.heap.size w w7 := z_6.trans (hb7.mono z_6.size)
  clear hw_6 he_6 c_6_0 c_6_1 c_6_2 l_6_0 z_6 hb7
  go_wp2_with fail
  refine ((error_no 1 1 w7 true he_8 (by decide) (by omega) (by omega))).mono ?_; rintro e w9 ⟨rfl, hb9⟩
  have hw_10 := hw_8.below hb9
  have he_10 := he_8.below hb9
  have c_10_0 := (hb9.cell (p := ⟨w.heap.size, 0, none⟩) l_8_0).trans c_8_0
  have c_10_1 := (hb9.cell (p := ⟨w.heap.size, 1, none⟩) l_8_0).trans c_8_1
  have c_10_2 := (hb9.cell (p := ⟨w.heap.size, 2, none⟩) l_8_0).trans c_8_2
  have l_10_0 : w.heap.size < w9.heap.size := Nat.lt_of_lt_of_le l_8_0 hb9.size
  have z_10 : Below w.heap.size w w9 := z_8.trans (hb9.mono z_8.size)
  clear hw_8 he_8 c_8_0 c_8_1 c_8_2 l_8_0 z_8 hb9
  go_wp2_with fail
  refine (rdate_no n w9 hn).mono ?_; rintro e w11 ⟨rfl, hb11⟩
  have hw_12 := hw_10.below hb11
  have he_12 := he_10.below hb11
  have c_12_0 := (hb11.cell (p := ⟨w.heap.size, 0, none⟩) l_10_0).trans c_10_0
  have c_12_1 := (hb11.cell (p := ⟨w.heap.size, 1, none⟩) l_10_0).trans c_10_1
  have c_12_2 := (hb11.cell (p := ⟨w.heap.size, 2, none⟩) l_10_0).trans c_10_2
  have l_12_0 : w.heap.size < w11.heap.size := Nat.lt_of_lt_of_le l_10_0 hb11.size
  have z_12 : Below w.heap.size w w11 := z_10.trans (hb11.mono z_10.size)
  clear hw_10 he_10 c_10_0 c_10_1 c_10_2 l_10_0 z_10 hb11
  go_wp2_with fail
  obtain ⟨w13, hq13⟩ : ∃ x, x = w11.alloc (.cells #[.int .i64 0, .int .i64 0, .int .i64 0] 28) := ⟨_, rfl⟩
  rw [← hq13]
  have hb13 : Below w11.heap.size w11 w13 := by rw [hq13]; exact (Below.refl _ _).alloc (Nat.le_refl _) _
  have d_13_0 : w13.cell? ⟨w11.heap.size, 0, none⟩ = some (.int .i64 0) := by rw [hq13]; simp
  have d_13_1 : w13.cell? ⟨w11.heap.size, 1, none⟩ = some (.int .i64 0) := by rw [hq13]; simp
  have d_13_2 : w13.cell? ⟨w11.heap.size, 2, none⟩ = some (.int .i64 0) := by rw [hq13]; simp
  have m_13 : w11.heap.size < w13.heap.size := by rw [hq13]; simp
  clear hq13
  have hw_14 := hw_12.below hb13
  have he_14 := he_12.below hb13
  have c_14_0 := (hb13.cell (p := ⟨w.heap.size, 0, none⟩) l_12_0).trans c_12_0
  have c_14_1 := (hb13.cell (p := ⟨w.heap.size, 1, none⟩) l_12_0).trans c_12_1
  have c_14_2 := (hb13.cell (p := ⟨w.heap.size, 2, none⟩) l_12_0).trans c_12_2
  have l_14_0 : w.heap.size < w13.heap.size := Nat.lt_of_lt_of_le l_12_0 hb13.size
  have z_14 : Below w.heap.size w w13 := z_12.trans (hb13.mono z_12.size)
  clear hw_12 he_12 c_12_0 c_12_1 c_12_2 l_12_0 z_12 hb13
  refine (date_no n w13 hn).mono ?_; rintro e w15 ⟨rfl, hb15⟩
  have hw_16 := hw_14.below hb15
  have he_16 := he_14.below hb15
  have c_16_0 := (hb15.cell (p := ⟨w.heap.size, 0, none⟩) l_14_0).trans c_14_0
  have c_16_1 := (hb15.cell (p := ⟨w.heap.size, 1, none⟩) l_14_0).trans c_14_1
  have c_16_2 := (hb15.cell (p := ⟨w.heap.size, 2, none⟩) l_14_0).trans c_14_2
  have c_16_3 := (hb15.cell (p := ⟨w11.heap.size, 0, none⟩) m_13).trans d_13_0
  have c_16_4 := (hb15.cell (p := ⟨w11.heap.size, 1, none⟩) m_13).trans d_13_1
  have c_16_5 := (hb15.cell (p := ⟨w11.heap.size, 2, none⟩) m_13).trans d_13_2
  have l_16_0 : w.heap.size < w15.heap.size := Nat.lt_of_lt_of_le l_14_0 hb15.size
  have l_16_1 : w11.heap.size < w15.heap.size := Nat.lt_of_lt_of_le m_13 hb15.size
  have z_16 : Below w.heap.size w w15 := z_14.trans (hb15.mono z_14.size)
  clear hw_14 he_14 c_14_0 c_14_1 c_14_2 d_13_0 d_13_1 d_13_2 l_14_0 m_13 z_14 hb15
  go_wp2_with fail
  obtain ⟨w17, hq17⟩ : ∃ x, x = w15.alloc (.cells #[.int .i64 0, .int .i64 0, .int .i64 0] 28) := ⟨_, rfl⟩
  rw [← hq17]
  have hb17 : Below w15.heap.size w15 w17 := by rw [hq17]; exact (Below.refl _ _).alloc (Nat.le_refl _) _
  have d_17_0 : w17.cell? ⟨w15.heap.size, 0, none⟩ = some (.int .i64 0) := by rw [hq17]; simp
  have d_17_1 : w17.cell? ⟨w15.heap.size, 1, none⟩ = some (.int .i64 0) := by rw [hq17]; simp
  have d_17_2 : w17.cell? ⟨w15.heap.size, 2, none⟩ = some (.int .i64 0) := by rw [hq17]; simp
  have m_17 : w15.heap.size < w17.heap.size := by rw [hq17]; simp
  clear hq17
  have hw_18 := hw_16.below hb17
  have he_18 := he_16.below hb17
  have c_18_0 := (hb17.cell (p := ⟨w.heap.size, 0, none⟩) l_16_0).trans c_16_0
  have c_18_1 := (hb17.cell (p := ⟨w.heap.size, 1, none⟩) l_16_0).trans c_16_1
  have c_18_2 := (hb17.cell (p := ⟨w.heap.size, 2, none⟩) l_16_0).trans c_16_2
  have c_18_3 := (hb17.cell (p := ⟨w11.heap.size, 0, none⟩) l_16_1).trans c_16_3
  have c_18_4 := (hb17.cell (p := ⟨w11.heap.size, 1, none⟩) l_16_1).trans c_16_4
  have c_18_5 := (hb17.cell (p := ⟨w11.heap.size, 2, none⟩) l_16_1).trans c_16_5
  have l_18_0 : w.heap.size < w17.heap.size := Nat.lt_of_lt_of_le l_16_0 hb17.size
  have l_18_1 : w11.heap.size < w17.heap.size := Nat.lt_of_lt_of_le l_16_1 hb17.size
  have z_18 : Below w.heap.size w w17 := z_16.trans (hb17.mono z_16.size)
  clear hw_16 he_16 c_16_0 c_16_1 c_16_2 c_16_3 c_16_4 c_16_5 l_16_0 l_16_1 z_16 hb17
  refine ((error_no 1 1 w17 true he_18 (by decide) (by omega) (by omega))).mono ?_; rintro e w19 ⟨rfl, hb19⟩
  have hw_20 := hw_18.below hb19
  have he_20 := he_18.below hb19
  have c_20_0 := (hb19.cell (p := ⟨w.heap.size, 0, none⟩) l_18_0).trans c_18_0
  have c_20_1 := (hb19.cell (p := ⟨w.heap.size, 1, none⟩) l_18_0).trans c_18_1
  have c_20_2 := (hb19.cell (p := ⟨w.heap.size, 2, none⟩) l_18_0).trans c_18_2
  have c_20_3 := (hb19.cell (p := ⟨w11.heap.size, 0, none⟩) l_18_1).trans c_18_3
  have c_20_4 := (hb19.cell (p := ⟨w11.heap.size, 1, none⟩) l_18_1).trans c_18_4
  have c_20_5 := (hb19.cell (p := ⟨w11.heap.size, 2, none⟩) l_18_1).trans c_18_5
  have c_20_6 := (hb19.cell (p := ⟨w15.heap.size, 0, none⟩) m_17).trans d_17_0
  have c_20_7 := (hb19.cell (p := ⟨w15.heap.size, 1, none⟩) m_17).trans d_17_1
  have c_20_8 := (hb19.cell (p := ⟨w15.heap.size, 2, none⟩) m_17).trans d_17_2
  have l_20_0 : w.heap.size < w19.heap.size := Nat.lt_of_lt_of_le l_18_0 hb19.size
  have l_20_1 : w11.heap.size < w19.heap.size := Nat.lt_of_lt_of_le l_18_1 hb19.size
  have l_20_2 : w15.heap.size < w19.heap.size := Nat.lt_of_lt_of_le m_17 hb19.size
  have z_20 : Below w.heap.size w w19 := z_18.trans (hb19.mono z_18.size)
  clear hw_18 he_18 c_18_0 c_18_1 c_18_2 c_18_3 c_18_4 c_18_5 d_17_0 d_17_1 d_17_2 l_18_0 l_18_1 m_17 z_18 hb19
  go_wp2_with fail
  refine (weekday_no n w19 hn).mono ?_; rintro e w' ⟨rfl, rfl⟩
  go_wp2_with fail
  refine ((error_no 1 1 w19 true he_20 (by decide) (by omega) (by omega))).mono ?_; rintro e w21 ⟨rfl, hb21⟩
  have hw_22 := hw_20.below hb21
  have he_22 := he_20.below hb21
  have c_22_0 := (hb21.cell (p := ⟨w.heap.size, 0, none⟩) l_20_0).trans c_20_0
  have c_22_1 := (hb21.cell (p := ⟨w.heap.size, 1, none⟩) l_20_0).trans c_20_1
  have c_22_2 := (hb21.cell (p := ⟨w.heap.size, 2, none⟩) l_20_0).trans c_20_2
  have c_22_3 := (hb21.cell (p := ⟨w11.heap.size, 0, none⟩) l_20_1).trans c_20_3
  have c_22_4 := (hb21.cell (p := ⟨w11.heap.size, 1, none⟩) l_20_1).trans c_20_4
  have c_22_5 := (hb21.cell (p := ⟨w11.heap.size, 2, none⟩) l_20_1).trans c_20_5
  have c_22_6 := (hb21.cell (p := ⟨w15.heap.size, 0, none⟩) l_20_2).trans c_20_6
  have c_22_7 := (hb21.cell (p := ⟨w15.heap.size, 1, none⟩) l_20_2).trans c_20_7
  have c_22_8 := (hb21.cell (p := ⟨w15.heap.size, 2, none⟩) l_20_2).trans c_20_8
  have l_22_0 : w.heap.size < w21.heap.size := Nat.lt_of_lt_of_le l_20_0 hb21.size
  have l_22_1 : w11.heap.size < w21.heap.size := Nat.lt_of_lt_of_le l_20_1 hb21.size
  have l_22_2 : w15.heap.size < w21.heap.size := Nat.lt_of_lt_of_le l_20_2 hb21.size
  have z_22 : Below w.heap.size w w21 := z_20.trans (hb21.mono z_20.size)
  clear hw_20 he_20 c_20_0 c_20_1 c_20_2 c_20_3 c_20_4 c_20_5 c_20_6 c_20_7 c_20_8 l_20_0 l_20_1 l_20_2 z_20 hb21
  go_wp2_with fail
  go_quiet ((first | (go_at_call 10; exact quiet_l (leap_any _ _)) | (go_at_call 26; exact quiet_l (rleap_any _ _)) | (go_at_call 15; exact quiet_l (last_any _))))
  go_wp2
  go_ret
  exact ⟨rfl, below_drewN z_22 _⟩

theorem dayTells_top (y m d n : Int) (w : World) (hw : Months w) (he : ErrT w) (_ : (Lit.int .i64 y).wf = true) (_ : (Lit.int .i64 m).wf = true) (_ : (Lit.int .i64 d).wf = true) (_ : (Lit.int .i64 n).wf = true) :
    Calls Tryd.prog 7 #[.agg #[.int .i64 y, .int .i64 m, .int .i64 d], .int .i64 n] w fun e w' => e = .returned (.bool true) ∧ Below w.heap.size w w' := by
  by_cases hn : 1 ≤ n ∧ n ≤ 109573
  · obtain ⟨y1, m1, d1, h1, rfl⟩ := Cal.ex_date n hn.1 hn.2
    cases hm : Cal.monthB y m
    · exact dayTells_none_yes y m d y1 m1 d1 w hw he hm (Cal.date_mk_no' hm) h1
    · cases hd : Cal.dateB y m d
      · exact dayTells_month_yes y m d y1 m1 d1 w hw he hm hd h1
      · exact dayTells_date_yes y m d y1 m1 d1 w hw he hm hd h1
  · have hn' : n < 1 ∨ 109573 < n := by omega
    cases hm : Cal.monthB y m
    · exact dayTells_none_no y m d n w hw he hm (Cal.date_mk_no' hm) hn'
    · cases hd : Cal.dateB y m d
      · exact dayTells_month_no y m d n w hw he hm hd hn'
      · exact dayTells_date_no y m d n w hw he hm hd hn'

end Go.Proofs.YtonoiaimknkpfaaDoor
