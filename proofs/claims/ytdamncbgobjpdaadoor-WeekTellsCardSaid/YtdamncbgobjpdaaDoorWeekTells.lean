/- The law WeekTells: which week any day is of, how many any year has, where any begins; which weekday stands where in any month: program and reference are one, for every input. The walk: three ways of the number, three of the year and week. -/
import Derived.Test.YtdamncbgobjpdaaDoorRefX
import Derived.Test.YtdamncbgobjpdaaDoorErr
namespace Go.Proofs.YtdamncbgobjpdaaDoor
open Go.RowKit

/-- Four cells of two blocks set, in the order in which the law sets them. -/
theorem set4b {w : World} {b c : Nat} {u0 u1 u2 u3 v0 v1 v2 v3 : Value} (hbc : b ≠ c) (h0 : w.cell? ⟨b, 0, none⟩ = some u0) (h1 : w.cell? ⟨b, 1, none⟩ = some u1) (h2 : w.cell? ⟨c, 0, none⟩ = some u2) (h3 : w.cell? ⟨c, 1, none⟩ = some u3) :
    ∃ wr, wr = (((w.setCell ⟨b, 0, none⟩ v0).setCell ⟨c, 0, none⟩ v2).setCell ⟨b, 1, none⟩ v1).setCell ⟨c, 1, none⟩ v3 ∧ wr.cell? ⟨b, 0, none⟩ = some v0 ∧ wr.cell? ⟨b, 1, none⟩ = some v1 ∧ wr.cell? ⟨c, 0, none⟩ = some v2 ∧ wr.cell? ⟨c, 1, none⟩ = some v3 ∧ wr.heap.size = w.heap.size ∧
      (∀ (B : Nat) (a : World), Below B a w → B ≤ b → B ≤ c → Below B a wr) := by
  refine ⟨_, rfl, ?_, ?_, ?_, ?_, ?_, ?_⟩
  · rw [cell_other (by simp), cell_other (by simp), cell_other (by simp)]
    exact cell_same h0
  · rw [cell_other (by simp)]
    exact cell_same (u := u1) (by rw [cell_other (by simp), cell_other (by simp)]; exact h1)
  · rw [cell_other (by simp), cell_other (by simp)]
    exact cell_same (u := u2) (by rw [cell_other (by simp)]; exact h2)
  · exact cell_same (u := u3) (by rw [cell_other (by simp), cell_other (by simp), cell_other (by simp)]; exact h3)
  · simp [World.setCell]
  · intro B a h hb hc
    exact (((h.setCell hb _).setCell hc _).setCell hb _).setCell hc _

/-- A week of a year begins on a day that there is. -/
theorem week_fits {y k : Int} (h1 : 1900 ≤ y) (h2 : y ≤ 2199) (h : k ≤ Cal.weeksI y) : Cal.wk1 y + (k - 1) * 7 ≤ 109573 := by
  have h3 := (Cal.weeks_len h1 h2).2
  have h4 := Cal.ahead_mono (y + 1) 2200 (by omega)
  rw [Cal.ahead_2200] at h4
  have h5 := Cal.monday_bd (Cal.ahead (y + 1) + 4)
  omega

set_option maxRecDepth 100000 in
set_option maxHeartbeats 8000000 in
theorem weekTells_week_bad (yr wk mo k wd y1 m1 d1 y2 m2 d2 : Int) (w : World) (hw : Months w) (he : ErrT w) (h1 : Cal.dateB y1 m1 d1 = true) (hd : Cal.dateB y2 m2 d2 = true) (hn : Cal.num y2 m2 d2 = Cal.mondayI (Cal.num y1 m1 d1) + 3) (hy : yr < 1900 ∨ 2199 < yr) :
    Calls Tryd.prog 4 #[.int .i64 (Cal.num y1 m1 d1), .int .i64 yr, .int .i64 wk, .int .i64 mo, .agg #[.int .i64 k, .int .i64 wd]] w fun e w' => e = .returned (.bool true) ∧ Below w.heap.size w w' := by
  have hwK := hw
  have heK := he
  obtain ⟨_, _, q1, q2⟩ := Cal.num_bd h1
  have hdb1 := Cal.dim_bd y1 m1
  have N := Lib.hid hn; clear hn
  go_enter Tryd.func4, Tryd.ntmps4
  go_wp2_with fail
  obtain ⟨w1, hq1⟩ : ∃ x, x = w.alloc (.cells #[.int .i64 k, .int .i64 wd] 38) := ⟨_, rfl⟩
  rw [← hq1]
  have hb1 : Below w.heap.size w w1 := by rw [hq1]; exact (Below.refl _ _).alloc (Nat.le_refl _) _
  have d_1_0 : w1.cell? ⟨w.heap.size, 0, none⟩ = some (.int .i64 k) := by rw [hq1]; simp
  have d_1_1 : w1.cell? ⟨w.heap.size, 1, none⟩ = some (.int .i64 wd) := by rw [hq1]; simp
  have m_1 : w.heap.size < w1.heap.size := by rw [hq1]; simp
  clear hq1
  have hw_2 := hw.below hb1
  have he_2 := he.below hb1
  have z_2 : Below w.heap.size w w1 := hb1
  clear hw he hb1
  refine (rweek_yes _ y2 m2 d2 w1 q1 q2 hd N.out).mono ?_; rintro e w3 ⟨rfl, hb3⟩
  have hw_4 := hw_2.below hb3
  have he_4 := he_2.below hb3
  have c_4_0 := (hb3.cell (p := ⟨w.heap.size, 0, none⟩) m_1).trans d_1_0
  have c_4_1 := (hb3.cell (p := ⟨w.heap.size, 1, none⟩) m_1).trans d_1_1
  have l_4_0 : w.heap.size < w3.heap.size := Nat.lt_of_lt_of_le m_1 hb3.size
  have z_4 : Below w.heap.size w w3 := z_2.trans (hb3.mono z_2.size)
  clear hw_2 he_2 d_1_0 d_1_1 m_1 z_2 hb3
  go_wp2_with fail
  refine (week_yes _ y2 m2 d2 w3 hw_4 q1 q2 hd N.out).mono ?_; rintro e w5 ⟨rfl, hb5⟩
  have hw_6 := hw_4.below hb5
  have he_6 := he_4.below hb5
  have c_6_0 := (hb5.cell (p := ⟨w.heap.size, 0, none⟩) l_4_0).trans c_4_0
  have c_6_1 := (hb5.cell (p := ⟨w.heap.size, 1, none⟩) l_4_0).trans c_4_1
  have l_6_0 : w.heap.size < w5.heap.size := Nat.lt_of_lt_of_le l_4_0 hb5.size
  have z_6 : Below w.heap.size w w5 := z_4.trans (hb5.mono z_4.size)
  clear hw_4 he_4 c_4_0 c_4_1 l_4_0 z_4 hb5
  go_wp2_with fail
  refine ((error_nil 0 w5 true (by decide))).mono ?_; rintro e w7 ⟨rfl, hb7⟩
  have hw_8 := hw_6.below hb7
  have he_8 := he_6.below hb7
  have c_8_0 := (hb7.cell (p := ⟨w.heap.size, 0, none⟩) l_6_0).trans c_6_0
  have c_8_1 := (hb7.cell (p := ⟨w.heap.size, 1, none⟩) l_6_0).trans c_6_1
  have l_8_0 : w.heap.size < w7.heap.size := Nat.lt_of_lt_of_le l_6_0 hb7.size
  have z_8 : Below w.heap.size w w7 := z_6.trans (hb7.mono z_6.size)
  clear hw_6 he_6 c_6_0 c_6_1 l_6_0 z_6 hb7
  go_wp2_with fail
  refine (rweeks_no yr w7 hy).mono ?_; rintro e w9 ⟨rfl, hb9⟩
  have hw_10 := hw_8.below hb9
  have he_10 := he_8.below hb9
  have c_10_0 := (hb9.cell (p := ⟨w.heap.size, 0, none⟩) l_8_0).trans c_8_0
  have c_10_1 := (hb9.cell (p := ⟨w.heap.size, 1, none⟩) l_8_0).trans c_8_1
  have l_10_0 : w.heap.size < w9.heap.size := Nat.lt_of_lt_of_le l_8_0 hb9.size
  have z_10 : Below w.heap.size w w9 := z_8.trans (hb9.mono z_8.size)
  clear hw_8 he_8 c_8_0 c_8_1 l_8_0 z_8 hb9
  go_wp2_with fail
  refine (weeks_no yr w9 hw_10 hy).mono ?_; rintro e w11 ⟨rfl, hb11⟩
  have hw_12 := hw_10.below hb11
  have he_12 := he_10.below hb11
  have c_12_0 := (hb11.cell (p := ⟨w.heap.size, 0, none⟩) l_10_0).trans c_10_0
  have c_12_1 := (hb11.cell (p := ⟨w.heap.size, 1, none⟩) l_10_0).trans c_10_1
  have l_12_0 : w.heap.size < w11.heap.size := Nat.lt_of_lt_of_le l_10_0 hb11.size
  have z_12 : Below w.heap.size w w11 := z_10.trans (hb11.mono z_10.size)
  clear hw_10 he_10 c_10_0 c_10_1 l_10_0 z_10 hb11
  go_wp2_with fail
  refine ((error_no 1 1 w11 true he_12 (by decide) (by omega) (by omega))).mono ?_; rintro e w13 ⟨rfl, hb13⟩
  have hw_14 := hw_12.below hb13
  have he_14 := he_12.below hb13
  have c_14_0 := (hb13.cell (p := ⟨w.heap.size, 0, none⟩) l_12_0).trans c_12_0
  have c_14_1 := (hb13.cell (p := ⟨w.heap.size, 1, none⟩) l_12_0).trans c_12_1
  have l_14_0 : w.heap.size < w13.heap.size := Nat.lt_of_lt_of_le l_12_0 hb13.size
  have z_14 : Below w.heap.size w w13 := z_12.trans (hb13.mono z_12.size)
  clear hw_12 he_12 c_12_0 c_12_1 l_12_0 z_12 hb13
  go_wp2_with fail
  refine (wfirst_no yr wk w13 hw_14 (.inl hy)).mono ?_; rintro e w15 ⟨rfl, hb15⟩
  have hw_16 := hw_14.below hb15
  have he_16 := he_14.below hb15
  have c_16_0 := (hb15.cell (p := ⟨w.heap.size, 0, none⟩) l_14_0).trans c_14_0
  have c_16_1 := (hb15.cell (p := ⟨w.heap.size, 1, none⟩) l_14_0).trans c_14_1
  have l_16_0 : w.heap.size < w15.heap.size := Nat.lt_of_lt_of_le l_14_0 hb15.size
  have z_16 : Below w.heap.size w w15 := z_14.trans (hb15.mono z_14.size)
  clear hw_14 he_14 c_14_0 c_14_1 l_14_0 z_14 hb15
  go_wp2_with fail
  refine ((error_no 1 1 w15 true he_16 (by decide) (by omega) (by omega))).mono ?_; rintro e w17 ⟨rfl, hb17⟩
  have hw_18 := hw_16.below hb17
  have he_18 := he_16.below hb17
  have c_18_0 := (hb17.cell (p := ⟨w.heap.size, 0, none⟩) l_16_0).trans c_16_0
  have c_18_1 := (hb17.cell (p := ⟨w.heap.size, 1, none⟩) l_16_0).trans c_16_1
  have l_18_0 : w.heap.size < w17.heap.size := Nat.lt_of_lt_of_le l_16_0 hb17.size
  have z_18 : Below w.heap.size w w17 := z_16.trans (hb17.mono z_16.size)
  clear hw_16 he_16 c_16_0 c_16_1 l_16_0 z_16 hb17
  go_wp2_with fail
  refine (rnth_any yr mo k wd w17).mono ?_; rintro e w19 ⟨rfl, hb19⟩
  have hw_20 := hw_18.below hb19
  have he_20 := he_18.below hb19
  have c_20_0 := (hb19.cell (p := ⟨w.heap.size, 0, none⟩) l_18_0).trans c_18_0
  have c_20_1 := (hb19.cell (p := ⟨w.heap.size, 1, none⟩) l_18_0).trans c_18_1
  have l_20_0 : w.heap.size < w19.heap.size := Nat.lt_of_lt_of_le l_18_0 hb19.size
  have z_20 : Below w.heap.size w w19 := z_18.trans (hb19.mono z_18.size)
  clear hw_18 he_18 c_18_0 c_18_1 l_18_0 z_18 hb19
  go_wp2_with fail
  refine (nth_any yr mo k wd w19 hw_20).mono ?_; rintro e w21 ⟨rfl, hb21⟩
  have hw_22 := hw_20.below hb21
  have he_22 := he_20.below hb21
  have c_22_0 := (hb21.cell (p := ⟨w.heap.size, 0, none⟩) l_20_0).trans c_20_0
  have c_22_1 := (hb21.cell (p := ⟨w.heap.size, 1, none⟩) l_20_0).trans c_20_1
  have l_22_0 : w.heap.size < w21.heap.size := Nat.lt_of_lt_of_le l_20_0 hb21.size
  have z_22 : Below w.heap.size w w21 := z_20.trans (hb21.mono z_20.size)
  clear hw_20 he_20 c_20_0 c_20_1 l_20_0 z_20 hb21
  go_wp2_with fail
  refine (error_same _ w21 he_22).mono ?_; rintro e w23 ⟨rfl, hb23⟩
  have hw_24 := hw_22.below hb23
  have he_24 := he_22.below hb23
  have c_24_0 := (hb23.cell (p := ⟨w.heap.size, 0, none⟩) l_22_0).trans c_22_0
  have c_24_1 := (hb23.cell (p := ⟨w.heap.size, 1, none⟩) l_22_0).trans c_22_1
  have l_24_0 : w.heap.size < w23.heap.size := Nat.lt_of_lt_of_le l_22_0 hb23.size
  have z_24 : Below w.heap.size w w23 := z_22.trans (hb23.mono z_22.size)
  clear hw_22 he_22 c_22_0 c_22_1 l_22_0 z_22 hb23
  go_wp2_with fail
  refine (rdate_num y1 m1 d1 w23 h1).mono ?_; rintro e w25 ⟨rfl, hb25⟩
  have hw_26 := hw_24.below hb25
  have he_26 := he_24.below hb25
  have c_26_0 := (hb25.cell (p := ⟨w.heap.size, 0, none⟩) l_24_0).trans c_24_0
  have c_26_1 := (hb25.cell (p := ⟨w.heap.size, 1, none⟩) l_24_0).trans c_24_1
  have l_26_0 : w.heap.size < w25.heap.size := Nat.lt_of_lt_of_le l_24_0 hb25.size
  have z_26 : Below w.heap.size w w25 := z_24.trans (hb25.mono z_24.size)
  clear hw_24 he_24 c_24_0 c_24_1 l_24_0 z_24 hb25
  go_wp2_with fail
  have zsz := z_26.size
  obtain ⟨w27, hq27⟩ : ∃ x, x = (w25.alloc (.cells #[.int .i64 0, .int .i64 0] 38)).alloc (.cells #[.int .i64 0, .int .i64 0] 38) := ⟨_, rfl⟩
  rw [← hq27]
  have hb27 : Below w25.heap.size w25 w27 := by rw [hq27]; exact ((Below.refl _ _).alloc (Nat.le_refl _) _).alloc (by simp) _
  have d_27_0_0 : w27.cell? ⟨w25.heap.size, 0, none⟩ = some (.int .i64 0) := by rw [hq27]; simp
  have g_27_0_0 : w27.frozen? ⟨w25.heap.size, 0, none⟩ = false := by rw [hq27]; simp
  have d_27_0_1 : w27.cell? ⟨w25.heap.size, 1, none⟩ = some (.int .i64 0) := by rw [hq27]; simp
  have g_27_0_1 : w27.frozen? ⟨w25.heap.size, 1, none⟩ = false := by rw [hq27]; simp
  have m_27_0 : w25.heap.size < w27.heap.size := by rw [hq27]; simp; omega
  have d_27_1_0 : w27.cell? ⟨w25.heap.size + 1, 0, none⟩ = some (.int .i64 0) := by rw [hq27]; simp
  have g_27_1_0 : w27.frozen? ⟨w25.heap.size + 1, 0, none⟩ = false := by rw [hq27]; simp
  have d_27_1_1 : w27.cell? ⟨w25.heap.size + 1, 1, none⟩ = some (.int .i64 0) := by rw [hq27]; simp
  have g_27_1_1 : w27.frozen? ⟨w25.heap.size + 1, 1, none⟩ = false := by rw [hq27]; simp
  have m_27_1 : w25.heap.size + 1 < w27.heap.size := by rw [hq27]; simp
  clear hq27
  have hw_28 := hw_26.below hb27
  have he_28 := he_26.below hb27
  have c_28_0 := (hb27.cell (p := ⟨w.heap.size, 0, none⟩) l_26_0).trans c_26_0
  have c_28_1 := (hb27.cell (p := ⟨w.heap.size, 1, none⟩) l_26_0).trans c_26_1
  have l_28_0 : w.heap.size < w27.heap.size := Nat.lt_of_lt_of_le l_26_0 hb27.size
  have z_28 : Below w.heap.size w w27 := z_26.trans (hb27.mono z_26.size)
  clear hw_26 he_26 c_26_0 c_26_1 l_26_0 z_26 hb27
  refine (rends_any y1 m1 d1 w27 h1).mono ?_; rintro e w29 ⟨rfl, hb29⟩
  have hw_30 := hw_28.below hb29
  have he_30 := he_28.below hb29
  have c_30_0 := (hb29.cell (p := ⟨w.heap.size, 0, none⟩) l_28_0).trans c_28_0
  have c_30_1 := (hb29.cell (p := ⟨w.heap.size, 1, none⟩) l_28_0).trans c_28_1
  have c_30_2 := (hb29.cell (p := ⟨w25.heap.size, 0, none⟩) m_27_0).trans d_27_0_0
  have c_30_3 := (hb29.cell (p := ⟨w25.heap.size, 1, none⟩) m_27_0).trans d_27_0_1
  have c_30_4 := (hb29.cell (p := ⟨w25.heap.size + 1, 0, none⟩) m_27_1).trans d_27_1_0
  have c_30_5 := (hb29.cell (p := ⟨w25.heap.size + 1, 1, none⟩) m_27_1).trans d_27_1_1
  have f_30_0 := (hb29.frozen (p := ⟨w25.heap.size, 0, none⟩) m_27_0).trans g_27_0_0
  have f_30_1 := (hb29.frozen (p := ⟨w25.heap.size, 1, none⟩) m_27_0).trans g_27_0_1
  have f_30_2 := (hb29.frozen (p := ⟨w25.heap.size + 1, 0, none⟩) m_27_1).trans g_27_1_0
  have f_30_3 := (hb29.frozen (p := ⟨w25.heap.size + 1, 1, none⟩) m_27_1).trans g_27_1_1
  have l_30_0 : w.heap.size < w29.heap.size := Nat.lt_of_lt_of_le l_28_0 hb29.size
  have l_30_1 : w25.heap.size < w29.heap.size := Nat.lt_of_lt_of_le m_27_0 hb29.size
  have l_30_2 : w25.heap.size + 1 < w29.heap.size := Nat.lt_of_lt_of_le m_27_1 hb29.size
  have z_30 : Below w.heap.size w w29 := z_28.trans (hb29.mono z_28.size)
  clear hw_28 he_28 c_28_0 c_28_1 d_27_0_0 d_27_0_1 d_27_1_0 d_27_1_1 g_27_0_0 g_27_0_1 g_27_1_0 g_27_1_1 l_28_0 m_27_0 m_27_1 z_28 hb29
  go_wp2_with (go_at_call 31; refine (rweekday_any _ _ q1 (by omega)).mono ?_; rintro e w' ⟨rfl, rfl⟩)
  obtain ⟨w31, hwr, s0, s1, s2, s3, hsz, hbr⟩ := set4b (v0 := .int .i64 ((d1 - 1) / 7 + 1)) (v1 := .int .i64 ((Cal.num y1 m1 d1 - 1) % 7 + 1)) (v2 := .int .i64 (-((Cal.dim y1 m1 - d1) / 7 + 1))) (v3 := .int .i64 ((Cal.num y1 m1 d1 - 1) % 7 + 1)) (by omega) c_30_2 c_30_3 c_30_4 c_30_5
  rw [← hwr]
  have zB : Below w.heap.size w w31 := hbr _ _ z_30 (by omega) (by omega)
  have hwB := hwK.keep (B := w.heap.size) zB hwK.pos
  have heB := heK.below zB
  have l_30_0_n : w.heap.size < w31.heap.size := by rw [hsz]; exact l_30_0
  have l_30_1_n : w25.heap.size < w31.heap.size := by rw [hsz]; exact l_30_1
  have l_30_2_n : w25.heap.size + 1 < w31.heap.size := by rw [hsz]; exact l_30_2
  clear c_30_0 c_30_1 c_30_2 c_30_3 c_30_4 c_30_5 l_30_0 l_30_1 l_30_2 f_30_0 f_30_1 f_30_2 f_30_3 hw_30 he_30 z_30 hwr hbr hsz
  refine (which_yes y1 m1 d1 w31 hwB h1).mono ?_; rintro e w32 ⟨rfl, hb32⟩
  have hw_33 := hwB.below hb32
  have he_33 := heB.below hb32
  have c_33_0 := (hb32.cell (p := ⟨w25.heap.size, 0, none⟩) l_30_1_n).trans s0
  have c_33_1 := (hb32.cell (p := ⟨w25.heap.size, 1, none⟩) l_30_1_n).trans s1
  have c_33_2 := (hb32.cell (p := ⟨w25.heap.size + 1, 0, none⟩) l_30_2_n).trans s2
  have c_33_3 := (hb32.cell (p := ⟨w25.heap.size + 1, 1, none⟩) l_30_2_n).trans s3
  have l_33_0 : w.heap.size < w32.heap.size := Nat.lt_of_lt_of_le l_30_0_n hb32.size
  have l_33_1 : w25.heap.size < w32.heap.size := Nat.lt_of_lt_of_le l_30_1_n hb32.size
  have l_33_2 : w25.heap.size + 1 < w32.heap.size := Nat.lt_of_lt_of_le l_30_2_n hb32.size
  have z_33 : Below w.heap.size w w32 := zB.trans (hb32.mono zB.size)
  clear hwB heB s0 s1 s2 s3 l_30_0_n l_30_1_n l_30_2_n zB hb32
  go_wp2_with fail
  obtain ⟨w34, hq34⟩ : ∃ x, x = (w32.alloc (.cells #[.int .i64 ((d1 - 1) / 7 + 1), .int .i64 ((Cal.num y1 m1 d1 - 1) % 7 + 1)] 38)).alloc (.cells #[.int .i64 (-((Cal.dim y1 m1 - d1) / 7 + 1)), .int .i64 ((Cal.num y1 m1 d1 - 1) % 7 + 1)] 38) := ⟨_, rfl⟩
  rw [← hq34]
  have hb34 : Below w32.heap.size w32 w34 := by rw [hq34]; exact ((Below.refl _ _).alloc (Nat.le_refl _) _).alloc (by simp) _
  have d_34_0_0 : w34.cell? ⟨w32.heap.size, 0, none⟩ = some (.int .i64 ((d1 - 1) / 7 + 1)) := by rw [hq34]; simp
  have d_34_0_1 : w34.cell? ⟨w32.heap.size, 1, none⟩ = some (.int .i64 ((Cal.num y1 m1 d1 - 1) % 7 + 1)) := by rw [hq34]; simp
  have m_34_0 : w32.heap.size < w34.heap.size := by rw [hq34]; simp; omega
  have d_34_1_0 : w34.cell? ⟨w32.heap.size + 1, 0, none⟩ = some (.int .i64 (-((Cal.dim y1 m1 - d1) / 7 + 1))) := by rw [hq34]; simp
  have d_34_1_1 : w34.cell? ⟨w32.heap.size + 1, 1, none⟩ = some (.int .i64 ((Cal.num y1 m1 d1 - 1) % 7 + 1)) := by rw [hq34]; simp
  have m_34_1 : w32.heap.size + 1 < w34.heap.size := by rw [hq34]; simp
  clear hq34
  have hw_35 := hw_33.below hb34
  have he_35 := he_33.below hb34
  have c_35_0 := (hb34.cell (p := ⟨w25.heap.size, 0, none⟩) l_33_1).trans c_33_0
  have c_35_1 := (hb34.cell (p := ⟨w25.heap.size, 1, none⟩) l_33_1).trans c_33_1
  have c_35_2 := (hb34.cell (p := ⟨w25.heap.size + 1, 0, none⟩) l_33_2).trans c_33_2
  have c_35_3 := (hb34.cell (p := ⟨w25.heap.size + 1, 1, none⟩) l_33_2).trans c_33_3
  have l_35_0 : w.heap.size < w34.heap.size := Nat.lt_of_lt_of_le l_33_0 hb34.size
  have l_35_1 : w25.heap.size < w34.heap.size := Nat.lt_of_lt_of_le l_33_1 hb34.size
  have l_35_2 : w25.heap.size + 1 < w34.heap.size := Nat.lt_of_lt_of_le l_33_2 hb34.size
  have z_35 : Below w.heap.size w w34 := z_33.trans (hb34.mono z_33.size)
  clear hw_33 he_33 c_33_0 c_33_1 c_33_2 c_33_3 l_33_0 l_33_1 l_33_2 z_33 hb34
  refine ((error_nil 0 w34 true (by decide))).mono ?_; rintro e w36 ⟨rfl, hb36⟩
  have hw_37 := hw_35.below hb36
  have he_37 := he_35.below hb36
  have c_37_0 := (hb36.cell (p := ⟨w25.heap.size, 0, none⟩) l_35_1).trans c_35_0
  have c_37_1 := (hb36.cell (p := ⟨w25.heap.size, 1, none⟩) l_35_1).trans c_35_1
  have c_37_2 := (hb36.cell (p := ⟨w25.heap.size + 1, 0, none⟩) l_35_2).trans c_35_2
  have c_37_3 := (hb36.cell (p := ⟨w25.heap.size + 1, 1, none⟩) l_35_2).trans c_35_3
  have c_37_4 := (hb36.cell (p := ⟨w32.heap.size, 0, none⟩) m_34_0).trans d_34_0_0
  have c_37_5 := (hb36.cell (p := ⟨w32.heap.size, 1, none⟩) m_34_0).trans d_34_0_1
  have c_37_6 := (hb36.cell (p := ⟨w32.heap.size + 1, 0, none⟩) m_34_1).trans d_34_1_0
  have c_37_7 := (hb36.cell (p := ⟨w32.heap.size + 1, 1, none⟩) m_34_1).trans d_34_1_1
  have l_37_0 : w.heap.size < w36.heap.size := Nat.lt_of_lt_of_le l_35_0 hb36.size
  have l_37_1 : w25.heap.size < w36.heap.size := Nat.lt_of_lt_of_le l_35_1 hb36.size
  have l_37_2 : w25.heap.size + 1 < w36.heap.size := Nat.lt_of_lt_of_le l_35_2 hb36.size
  have l_37_3 : w32.heap.size < w36.heap.size := Nat.lt_of_lt_of_le m_34_0 hb36.size
  have l_37_4 : w32.heap.size + 1 < w36.heap.size := Nat.lt_of_lt_of_le m_34_1 hb36.size
  have z_37 : Below w.heap.size w w36 := z_35.trans (hb36.mono z_35.size)
  clear hw_35 he_35 c_35_0 c_35_1 c_35_2 c_35_3 d_34_0_0 d_34_0_1 d_34_1_0 d_34_1_1 l_35_0 l_35_1 l_35_2 m_34_0 m_34_1 z_35 hb36
  go_wp2
  go_ret
  exact ⟨rfl, z_37⟩

set_option maxRecDepth 100000 in
set_option maxHeartbeats 8000000 in
theorem weekTells_week_in (yr wk mo k wd y1 m1 d1 y2 m2 d2 : Int) (w : World) (hw : Months w) (he : ErrT w) (h1 : Cal.dateB y1 m1 d1 = true) (hd : Cal.dateB y2 m2 d2 = true) (hn : Cal.num y2 m2 d2 = Cal.mondayI (Cal.num y1 m1 d1) + 3) (g1 : 1900 ≤ yr) (g2 : yr ≤ 2199) (g3 : 1 ≤ wk) (g4 : wk ≤ Cal.weeksI yr) :
    Calls Tryd.prog 4 #[.int .i64 (Cal.num y1 m1 d1), .int .i64 yr, .int .i64 wk, .int .i64 mo, .agg #[.int .i64 k, .int .i64 wd]] w fun e w' => e = .returned (.bool true) ∧ Below w.heap.size w w' := by
  have hwK := hw
  have heK := he
  obtain ⟨_, _, q1, q2⟩ := Cal.num_bd h1
  have hdb1 := Cal.dim_bd y1 m1
  have N := Lib.hid hn; clear hn
  obtain ⟨c0, c1, _, _⟩ := Cal.wk1_bd g1 g2
  have ha := Cal.ahead_bd yr g1 (by omega)
  have hj := Cal.date_j4 g1 g2
  obtain ⟨_, _, j1, j2⟩ := Cal.num_bd hj
  obtain ⟨wl, wl2⟩ := Cal.weeks_len g1 g2
  have wl3 : 52 ≤ Cal.weeksI yr := by rcases wl with h | h <;> omega
  have wl4 : Cal.weeksI yr ≤ 53 := by rcases wl with h | h <;> omega
  have hm0 : (Cal.weeksI yr == 0) = false := by simp; omega
  have hwb : Cal.wk1 yr ≤ 109573 := by obtain ⟨_, _, k, _⟩ := Cal.wk1_bd g1 g2; have := Cal.ahead_bd yr g1 (by omega); omega
  have hend : Cal.wk1 yr + (wk - 1) * 7 ≤ 109573 := week_fits g1 g2 g4
  clear wl wl2 ha
  go_enter Tryd.func4, Tryd.ntmps4
  go_wp2_with fail
  obtain ⟨w1, hq1⟩ : ∃ x, x = w.alloc (.cells #[.int .i64 k, .int .i64 wd] 38) := ⟨_, rfl⟩
  rw [← hq1]
  have hb1 : Below w.heap.size w w1 := by rw [hq1]; exact (Below.refl _ _).alloc (Nat.le_refl _) _
  have d_1_0 : w1.cell? ⟨w.heap.size, 0, none⟩ = some (.int .i64 k) := by rw [hq1]; simp
  have d_1_1 : w1.cell? ⟨w.heap.size, 1, none⟩ = some (.int .i64 wd) := by rw [hq1]; simp
  have m_1 : w.heap.size < w1.heap.size := by rw [hq1]; simp
  clear hq1
  have hw_2 := hw.below hb1
  have he_2 := he.below hb1
  have z_2 : Below w.heap.size w w1 := hb1
  clear hw he hb1
  refine (rweek_yes _ y2 m2 d2 w1 q1 q2 hd N.out).mono ?_; rintro e w3 ⟨rfl, hb3⟩
  have hw_4 := hw_2.below hb3
  have he_4 := he_2.below hb3
  have c_4_0 := (hb3.cell (p := ⟨w.heap.size, 0, none⟩) m_1).trans d_1_0
  have c_4_1 := (hb3.cell (p := ⟨w.heap.size, 1, none⟩) m_1).trans d_1_1
  have l_4_0 : w.heap.size < w3.heap.size := Nat.lt_of_lt_of_le m_1 hb3.size
  have z_4 : Below w.heap.size w w3 := z_2.trans (hb3.mono z_2.size)
  clear hw_2 he_2 d_1_0 d_1_1 m_1 z_2 hb3
  go_wp2_with fail
  refine (week_yes _ y2 m2 d2 w3 hw_4 q1 q2 hd N.out).mono ?_; rintro e w5 ⟨rfl, hb5⟩
  have hw_6 := hw_4.below hb5
  have he_6 := he_4.below hb5
  have c_6_0 := (hb5.cell (p := ⟨w.heap.size, 0, none⟩) l_4_0).trans c_4_0
  have c_6_1 := (hb5.cell (p := ⟨w.heap.size, 1, none⟩) l_4_0).trans c_4_1
  have l_6_0 : w.heap.size < w5.heap.size := Nat.lt_of_lt_of_le l_4_0 hb5.size
  have z_6 : Below w.heap.size w w5 := z_4.trans (hb5.mono z_4.size)
  clear hw_4 he_4 c_4_0 c_4_1 l_4_0 z_4 hb5
  go_wp2_with fail
  refine ((error_nil 0 w5 true (by decide))).mono ?_; rintro e w7 ⟨rfl, hb7⟩
  have hw_8 := hw_6.below hb7
  have he_8 := he_6.below hb7
  have c_8_0 := (hb7.cell (p := ⟨w.heap.size, 0, none⟩) l_6_0).trans c_6_0
  have c_8_1 := (hb7.cell (p := ⟨w.heap.size, 1, none⟩) l_6_0).trans c_6_1
  have l_8_0 : w.heap.size < w7.heap.size := Nat.lt_of_lt_of_le l_6_0 hb7.size
  have z_8 : Below w.heap.size w w7 := z_6.trans (hb7.mono z_6.size)
  clear hw_6 he_6 c_6_0 c_6_1 l_6_0 z_6 hb7
  go_wp2_with fail
  refine (rweeks_yes yr w7 g1 g2).mono ?_; rintro e w9 ⟨rfl, hb9⟩
  have hw_10 := hw_8.below hb9
  have he_10 := he_8.below hb9
  have c_10_0 := (hb9.cell (p := ⟨w.heap.size, 0, none⟩) l_8_0).trans c_8_0
  have c_10_1 := (hb9.cell (p := ⟨w.heap.size, 1, none⟩) l_8_0).trans c_8_1
  have l_10_0 : w.heap.size < w9.heap.size := Nat.lt_of_lt_of_le l_8_0 hb9.size
  have z_10 : Below w.heap.size w w9 := z_8.trans (hb9.mono z_8.size)
  clear hw_8 he_8 c_8_0 c_8_1 l_8_0 z_8 hb9
  go_wp2_with fail
  refine (weeks_yes yr w9 hw_10 g1 g2).mono ?_; rintro e w11 ⟨rfl, hb11⟩
  have hw_12 := hw_10.below hb11
  have he_12 := he_10.below hb11
  have c_12_0 := (hb11.cell (p := ⟨w.heap.size, 0, none⟩) l_10_0).trans c_10_0
  have c_12_1 := (hb11.cell (p := ⟨w.heap.size, 1, none⟩) l_10_0).trans c_10_1
  have l_12_0 : w.heap.size < w11.heap.size := Nat.lt_of_lt_of_le l_10_0 hb11.size
  have z_12 : Below w.heap.size w w11 := z_10.trans (hb11.mono z_10.size)
  clear hw_10 he_10 c_10_0 c_10_1 l_10_0 z_10 hb11
  go_wp2_with fail
  refine ((error_nil 0 w11 true (by decide))).mono ?_; rintro e w13 ⟨rfl, hb13⟩
  have hw_14 := hw_12.below hb13
  have he_14 := he_12.below hb13
  have c_14_0 := (hb13.cell (p := ⟨w.heap.size, 0, none⟩) l_12_0).trans c_12_0
  have c_14_1 := (hb13.cell (p := ⟨w.heap.size, 1, none⟩) l_12_0).trans c_12_1
  have l_14_0 : w.heap.size < w13.heap.size := Nat.lt_of_lt_of_le l_12_0 hb13.size
  have z_14 : Below w.heap.size w w13 := z_12.trans (hb13.mono z_12.size)
  clear hw_12 he_12 c_12_0 c_12_1 l_12_0 z_12 hb13
  go_wp2_with fail
  refine (rof_yes yr 1 4 w13 hj).mono ?_; rintro e w15 ⟨rfl, hb15⟩
  have hw_16 := hw_14.below hb15
  have he_16 := he_14.below hb15
  have c_16_0 := (hb15.cell (p := ⟨w.heap.size, 0, none⟩) l_14_0).trans c_14_0
  have c_16_1 := (hb15.cell (p := ⟨w.heap.size, 1, none⟩) l_14_0).trans c_14_1
  have l_16_0 : w.heap.size < w15.heap.size := Nat.lt_of_lt_of_le l_14_0 hb15.size
  have z_16 : Below w.heap.size w w15 := z_14.trans (hb15.mono z_14.size)
  clear hw_14 he_14 c_14_0 c_14_1 l_14_0 z_14 hb15
  go_wp2_with fail
  refine (rmonday_any _ w15 j1 (by omega)).mono ?_; rintro e w' ⟨rfl, rfl⟩
  rw [show Cal.mondayI (Cal.num yr 1 4) = Cal.wk1 yr from rfl]
  go_wp2_with fail
  refine (wfirst_yes yr wk w15 hw_16 g1 g2 g3 g4 hend).mono ?_; rintro e w17 ⟨rfl, hb17⟩
  have hw_18 := hw_16.below hb17
  have he_18 := he_16.below hb17
  have c_18_0 := (hb17.cell (p := ⟨w.heap.size, 0, none⟩) l_16_0).trans c_16_0
  have c_18_1 := (hb17.cell (p := ⟨w.heap.size, 1, none⟩) l_16_0).trans c_16_1
  have l_18_0 : w.heap.size < w17.heap.size := Nat.lt_of_lt_of_le l_16_0 hb17.size
  have z_18 : Below w.heap.size w w17 := z_16.trans (hb17.mono z_16.size)
  clear hw_16 he_16 c_16_0 c_16_1 l_16_0 z_16 hb17
  go_wp2_with fail
  refine ((error_nil 0 w17 true (by decide))).mono ?_; rintro e w19 ⟨rfl, hb19⟩
  have hw_20 := hw_18.below hb19
  have he_20 := he_18.below hb19
  have c_20_0 := (hb19.cell (p := ⟨w.heap.size, 0, none⟩) l_18_0).trans c_18_0
  have c_20_1 := (hb19.cell (p := ⟨w.heap.size, 1, none⟩) l_18_0).trans c_18_1
  have l_20_0 : w.heap.size < w19.heap.size := Nat.lt_of_lt_of_le l_18_0 hb19.size
  have z_20 : Below w.heap.size w w19 := z_18.trans (hb19.mono z_18.size)
  clear hw_18 he_18 c_18_0 c_18_1 l_18_0 z_18 hb19
  go_wp2_with fail
  refine (rnth_any yr mo k wd w19).mono ?_; rintro e w21 ⟨rfl, hb21⟩
  have hw_22 := hw_20.below hb21
  have he_22 := he_20.below hb21
  have c_22_0 := (hb21.cell (p := ⟨w.heap.size, 0, none⟩) l_20_0).trans c_20_0
  have c_22_1 := (hb21.cell (p := ⟨w.heap.size, 1, none⟩) l_20_0).trans c_20_1
  have l_22_0 : w.heap.size < w21.heap.size := Nat.lt_of_lt_of_le l_20_0 hb21.size
  have z_22 : Below w.heap.size w w21 := z_20.trans (hb21.mono z_20.size)
  clear hw_20 he_20 c_20_0 c_20_1 l_20_0 z_20 hb21
  go_wp2_with fail
  refine (nth_any yr mo k wd w21 hw_22).mono ?_; rintro e w23 ⟨rfl, hb23⟩
  have hw_24 := hw_22.below hb23
  have he_24 := he_22.below hb23
  have c_24_0 := (hb23.cell (p := ⟨w.heap.size, 0, none⟩) l_22_0).trans c_22_0
  have c_24_1 := (hb23.cell (p := ⟨w.heap.size, 1, none⟩) l_22_0).trans c_22_1
  have l_24_0 : w.heap.size < w23.heap.size := Nat.lt_of_lt_of_le l_22_0 hb23.size
  have z_24 : Below w.heap.size w w23 := z_22.trans (hb23.mono z_22.size)
  clear hw_22 he_22 c_22_0 c_22_1 l_22_0 z_22 hb23
  go_wp2_with fail
  refine (error_same _ w23 he_24).mono ?_; rintro e w25 ⟨rfl, hb25⟩
  have hw_26 := hw_24.below hb25
  have he_26 := he_24.below hb25
  have c_26_0 := (hb25.cell (p := ⟨w.heap.size, 0, none⟩) l_24_0).trans c_24_0
  have c_26_1 := (hb25.cell (p := ⟨w.heap.size, 1, none⟩) l_24_0).trans c_24_1
  have l_26_0 : w.heap.size < w25.heap.size := Nat.lt_of_lt_of_le l_24_0 hb25.size
  have z_26 : Below w.heap.size w w25 := z_24.trans (hb25.mono z_24.size)
  clear hw_24 he_24 c_24_0 c_24_1 l_24_0 z_24 hb25
  go_wp2_with fail
  refine (rdate_num y1 m1 d1 w25 h1).mono ?_; rintro e w27 ⟨rfl, hb27⟩
  have hw_28 := hw_26.below hb27
  have he_28 := he_26.below hb27
  have c_28_0 := (hb27.cell (p := ⟨w.heap.size, 0, none⟩) l_26_0).trans c_26_0
  have c_28_1 := (hb27.cell (p := ⟨w.heap.size, 1, none⟩) l_26_0).trans c_26_1
  have l_28_0 : w.heap.size < w27.heap.size := Nat.lt_of_lt_of_le l_26_0 hb27.size
  have z_28 : Below w.heap.size w w27 := z_26.trans (hb27.mono z_26.size)
  clear hw_26 he_26 c_26_0 c_26_1 l_26_0 z_26 hb27
  go_wp2_with fail
  have zsz := z_28.size
  obtain ⟨w29, hq29⟩ : ∃ x, x = (w27.alloc (.cells #[.int .i64 0, .int .i64 0] 38)).alloc (.cells #[.int .i64 0, .int .i64 0] 38) := ⟨_, rfl⟩
  rw [← hq29]
  have hb29 : Below w27.heap.size w27 w29 := by rw [hq29]; exact ((Below.refl _ _).alloc (Nat.le_refl _) _).alloc (by simp) _
  have d_29_0_0 : w29.cell? ⟨w27.heap.size, 0, none⟩ = some (.int .i64 0) := by rw [hq29]; simp
  have g_29_0_0 : w29.frozen? ⟨w27.heap.size, 0, none⟩ = false := by rw [hq29]; simp
  have d_29_0_1 : w29.cell? ⟨w27.heap.size, 1, none⟩ = some (.int .i64 0) := by rw [hq29]; simp
  have g_29_0_1 : w29.frozen? ⟨w27.heap.size, 1, none⟩ = false := by rw [hq29]; simp
  have m_29_0 : w27.heap.size < w29.heap.size := by rw [hq29]; simp; omega
  have d_29_1_0 : w29.cell? ⟨w27.heap.size + 1, 0, none⟩ = some (.int .i64 0) := by rw [hq29]; simp
  have g_29_1_0 : w29.frozen? ⟨w27.heap.size + 1, 0, none⟩ = false := by rw [hq29]; simp
  have d_29_1_1 : w29.cell? ⟨w27.heap.size + 1, 1, none⟩ = some (.int .i64 0) := by rw [hq29]; simp
  have g_29_1_1 : w29.frozen? ⟨w27.heap.size + 1, 1, none⟩ = false := by rw [hq29]; simp
  have m_29_1 : w27.heap.size + 1 < w29.heap.size := by rw [hq29]; simp
  clear hq29
  have hw_30 := hw_28.below hb29
  have he_30 := he_28.below hb29
  have c_30_0 := (hb29.cell (p := ⟨w.heap.size, 0, none⟩) l_28_0).trans c_28_0
  have c_30_1 := (hb29.cell (p := ⟨w.heap.size, 1, none⟩) l_28_0).trans c_28_1
  have l_30_0 : w.heap.size < w29.heap.size := Nat.lt_of_lt_of_le l_28_0 hb29.size
  have z_30 : Below w.heap.size w w29 := z_28.trans (hb29.mono z_28.size)
  clear hw_28 he_28 c_28_0 c_28_1 l_28_0 z_28 hb29
  refine (rends_any y1 m1 d1 w29 h1).mono ?_; rintro e w31 ⟨rfl, hb31⟩
  have hw_32 := hw_30.below hb31
  have he_32 := he_30.below hb31
  have c_32_0 := (hb31.cell (p := ⟨w.heap.size, 0, none⟩) l_30_0).trans c_30_0
  have c_32_1 := (hb31.cell (p := ⟨w.heap.size, 1, none⟩) l_30_0).trans c_30_1
  have c_32_2 := (hb31.cell (p := ⟨w27.heap.size, 0, none⟩) m_29_0).trans d_29_0_0
  have c_32_3 := (hb31.cell (p := ⟨w27.heap.size, 1, none⟩) m_29_0).trans d_29_0_1
  have c_32_4 := (hb31.cell (p := ⟨w27.heap.size + 1, 0, none⟩) m_29_1).trans d_29_1_0
  have c_32_5 := (hb31.cell (p := ⟨w27.heap.size + 1, 1, none⟩) m_29_1).trans d_29_1_1
  have f_32_0 := (hb31.frozen (p := ⟨w27.heap.size, 0, none⟩) m_29_0).trans g_29_0_0
  have f_32_1 := (hb31.frozen (p := ⟨w27.heap.size, 1, none⟩) m_29_0).trans g_29_0_1
  have f_32_2 := (hb31.frozen (p := ⟨w27.heap.size + 1, 0, none⟩) m_29_1).trans g_29_1_0
  have f_32_3 := (hb31.frozen (p := ⟨w27.heap.size + 1, 1, none⟩) m_29_1).trans g_29_1_1
  have l_32_0 : w.heap.size < w31.heap.size := Nat.lt_of_lt_of_le l_30_0 hb31.size
  have l_32_1 : w27.heap.size < w31.heap.size := Nat.lt_of_lt_of_le m_29_0 hb31.size
  have l_32_2 : w27.heap.size + 1 < w31.heap.size := Nat.lt_of_lt_of_le m_29_1 hb31.size
  have z_32 : Below w.heap.size w w31 := z_30.trans (hb31.mono z_30.size)
  clear hw_30 he_30 c_30_0 c_30_1 d_29_0_0 d_29_0_1 d_29_1_0 d_29_1_1 g_29_0_0 g_29_0_1 g_29_1_0 g_29_1_1 l_30_0 m_29_0 m_29_1 z_30 hb31
  go_wp2_with (go_at_call 31; refine (rweekday_any _ _ q1 (by omega)).mono ?_; rintro e w' ⟨rfl, rfl⟩)
  obtain ⟨w33, hwr, s0, s1, s2, s3, hsz, hbr⟩ := set4b (v0 := .int .i64 ((d1 - 1) / 7 + 1)) (v1 := .int .i64 ((Cal.num y1 m1 d1 - 1) % 7 + 1)) (v2 := .int .i64 (-((Cal.dim y1 m1 - d1) / 7 + 1))) (v3 := .int .i64 ((Cal.num y1 m1 d1 - 1) % 7 + 1)) (by omega) c_32_2 c_32_3 c_32_4 c_32_5
  rw [← hwr]
  have zB : Below w.heap.size w w33 := hbr _ _ z_32 (by omega) (by omega)
  have hwB := hwK.keep (B := w.heap.size) zB hwK.pos
  have heB := heK.below zB
  have l_32_0_n : w.heap.size < w33.heap.size := by rw [hsz]; exact l_32_0
  have l_32_1_n : w27.heap.size < w33.heap.size := by rw [hsz]; exact l_32_1
  have l_32_2_n : w27.heap.size + 1 < w33.heap.size := by rw [hsz]; exact l_32_2
  clear c_32_0 c_32_1 c_32_2 c_32_3 c_32_4 c_32_5 l_32_0 l_32_1 l_32_2 f_32_0 f_32_1 f_32_2 f_32_3 hw_32 he_32 z_32 hwr hbr hsz
  refine (which_yes y1 m1 d1 w33 hwB h1).mono ?_; rintro e w34 ⟨rfl, hb34⟩
  have hw_35 := hwB.below hb34
  have he_35 := heB.below hb34
  have c_35_0 := (hb34.cell (p := ⟨w27.heap.size, 0, none⟩) l_32_1_n).trans s0
  have c_35_1 := (hb34.cell (p := ⟨w27.heap.size, 1, none⟩) l_32_1_n).trans s1
  have c_35_2 := (hb34.cell (p := ⟨w27.heap.size + 1, 0, none⟩) l_32_2_n).trans s2
  have c_35_3 := (hb34.cell (p := ⟨w27.heap.size + 1, 1, none⟩) l_32_2_n).trans s3
  have l_35_0 : w.heap.size < w34.heap.size := Nat.lt_of_lt_of_le l_32_0_n hb34.size
  have l_35_1 : w27.heap.size < w34.heap.size := Nat.lt_of_lt_of_le l_32_1_n hb34.size
  have l_35_2 : w27.heap.size + 1 < w34.heap.size := Nat.lt_of_lt_of_le l_32_2_n hb34.size
  have z_35 : Below w.heap.size w w34 := zB.trans (hb34.mono zB.size)
  clear hwB heB s0 s1 s2 s3 l_32_0_n l_32_1_n l_32_2_n zB hb34
  go_wp2_with fail
  obtain ⟨w36, hq36⟩ : ∃ x, x = (w34.alloc (.cells #[.int .i64 ((d1 - 1) / 7 + 1), .int .i64 ((Cal.num y1 m1 d1 - 1) % 7 + 1)] 38)).alloc (.cells #[.int .i64 (-((Cal.dim y1 m1 - d1) / 7 + 1)), .int .i64 ((Cal.num y1 m1 d1 - 1) % 7 + 1)] 38) := ⟨_, rfl⟩
  rw [← hq36]
  have hb36 : Below w34.heap.size w34 w36 := by rw [hq36]; exact ((Below.refl _ _).alloc (Nat.le_refl _) _).alloc (by simp) _
  have d_36_0_0 : w36.cell? ⟨w34.heap.size, 0, none⟩ = some (.int .i64 ((d1 - 1) / 7 + 1)) := by rw [hq36]; simp
  have d_36_0_1 : w36.cell? ⟨w34.heap.size, 1, none⟩ = some (.int .i64 ((Cal.num y1 m1 d1 - 1) % 7 + 1)) := by rw [hq36]; simp
  have m_36_0 : w34.heap.size < w36.heap.size := by rw [hq36]; simp; omega
  have d_36_1_0 : w36.cell? ⟨w34.heap.size + 1, 0, none⟩ = some (.int .i64 (-((Cal.dim y1 m1 - d1) / 7 + 1))) := by rw [hq36]; simp
  have d_36_1_1 : w36.cell? ⟨w34.heap.size + 1, 1, none⟩ = some (.int .i64 ((Cal.num y1 m1 d1 - 1) % 7 + 1)) := by rw [hq36]; simp
  have m_36_1 : w34.heap.size + 1 < w36.heap.size := by rw [hq36]; simp
  clear hq36
  have hw_37 := hw_35.below hb36
  have he_37 := he_35.below hb36
  have c_37_0 := (hb36.cell (p := ⟨w27.heap.size, 0, none⟩) l_35_1).trans c_35_0
  have c_37_1 := (hb36.cell (p := ⟨w27.heap.size, 1, none⟩) l_35_1).trans c_35_1
  have c_37_2 := (hb36.cell (p := ⟨w27.heap.size + 1, 0, none⟩) l_35_2).trans c_35_2
  have c_37_3 := (hb36.cell (p := ⟨w27.heap.size + 1, 1, none⟩) l_35_2).trans c_35_3
  have l_37_0 : w.heap.size < w36.heap.size := Nat.lt_of_lt_of_le l_35_0 hb36.size
  have l_37_1 : w27.heap.size < w36.heap.size := Nat.lt_of_lt_of_le l_35_1 hb36.size
  have l_37_2 : w27.heap.size + 1 < w36.heap.size := Nat.lt_of_lt_of_le l_35_2 hb36.size
  have z_37 : Below w.heap.size w w36 := z_35.trans (hb36.mono z_35.size)
  clear hw_35 he_35 c_35_0 c_35_1 c_35_2 c_35_3 l_35_0 l_35_1 l_35_2 z_35 hb36
  refine ((error_nil 0 w36 true (by decide))).mono ?_; rintro e w38 ⟨rfl, hb38⟩
  have hw_39 := hw_37.below hb38
  have he_39 := he_37.below hb38
  have c_39_0 := (hb38.cell (p := ⟨w27.heap.size, 0, none⟩) l_37_1).trans c_37_0
  have c_39_1 := (hb38.cell (p := ⟨w27.heap.size, 1, none⟩) l_37_1).trans c_37_1
  have c_39_2 := (hb38.cell (p := ⟨w27.heap.size + 1, 0, none⟩) l_37_2).trans c_37_2
  have c_39_3 := (hb38.cell (p := ⟨w27.heap.size + 1, 1, none⟩) l_37_2).trans c_37_3
  have c_39_4 := (hb38.cell (p := ⟨w34.heap.size, 0, none⟩) m_36_0).trans d_36_0_0
  have c_39_5 := (hb38.cell (p := ⟨w34.heap.size, 1, none⟩) m_36_0).trans d_36_0_1
  have c_39_6 := (hb38.cell (p := ⟨w34.heap.size + 1, 0, none⟩) m_36_1).trans d_36_1_0
  have c_39_7 := (hb38.cell (p := ⟨w34.heap.size + 1, 1, none⟩) m_36_1).trans d_36_1_1
  have l_39_0 : w.heap.size < w38.heap.size := Nat.lt_of_lt_of_le l_37_0 hb38.size
  have l_39_1 : w27.heap.size < w38.heap.size := Nat.lt_of_lt_of_le l_37_1 hb38.size
  have l_39_2 : w27.heap.size + 1 < w38.heap.size := Nat.lt_of_lt_of_le l_37_2 hb38.size
  have l_39_3 : w34.heap.size < w38.heap.size := Nat.lt_of_lt_of_le m_36_0 hb38.size
  have l_39_4 : w34.heap.size + 1 < w38.heap.size := Nat.lt_of_lt_of_le m_36_1 hb38.size
  have z_39 : Below w.heap.size w w38 := z_37.trans (hb38.mono z_37.size)
  clear hw_37 he_37 c_37_0 c_37_1 c_37_2 c_37_3 d_36_0_0 d_36_0_1 d_36_1_0 d_36_1_1 l_37_0 l_37_1 l_37_2 m_36_0 m_36_1 z_37 hb38
  go_wp2
  go_ret
  exact ⟨rfl, z_39⟩

set_option maxRecDepth 100000 in
set_option maxHeartbeats 8000000 in
theorem weekTells_week_out (yr wk mo k wd y1 m1 d1 y2 m2 d2 : Int) (w : World) (hw : Months w) (he : ErrT w) (h1 : Cal.dateB y1 m1 d1 = true) (hd : Cal.dateB y2 m2 d2 = true) (hn : Cal.num y2 m2 d2 = Cal.mondayI (Cal.num y1 m1 d1) + 3) (g1 : 1900 ≤ yr) (g2 : yr ≤ 2199) (g3 : wk < 1 ∨ Cal.weeksI yr < wk) :
    Calls Tryd.prog 4 #[.int .i64 (Cal.num y1 m1 d1), .int .i64 yr, .int .i64 wk, .int .i64 mo, .agg #[.int .i64 k, .int .i64 wd]] w fun e w' => e = .returned (.bool true) ∧ Below w.heap.size w w' := by
  have hwK := hw
  have heK := he
  obtain ⟨_, _, q1, q2⟩ := Cal.num_bd h1
  have hdb1 := Cal.dim_bd y1 m1
  have N := Lib.hid hn; clear hn
  obtain ⟨c0, c1, _, _⟩ := Cal.wk1_bd g1 g2
  have ha := Cal.ahead_bd yr g1 (by omega)
  have hj := Cal.date_j4 g1 g2
  obtain ⟨_, _, j1, j2⟩ := Cal.num_bd hj
  obtain ⟨wl, wl2⟩ := Cal.weeks_len g1 g2
  have wl3 : 52 ≤ Cal.weeksI yr := by rcases wl with h | h <;> omega
  have wl4 : Cal.weeksI yr ≤ 53 := by rcases wl with h | h <;> omega
  have hm0 : (Cal.weeksI yr == 0) = false := by simp; omega
  have hwb : Cal.wk1 yr ≤ 109573 := by obtain ⟨_, _, k, _⟩ := Cal.wk1_bd g1 g2; have := Cal.ahead_bd yr g1 (by omega); omega
  clear wl wl2 ha
  go_enter Tryd.func4, Tryd.ntmps4
  go_wp2_with fail
  obtain ⟨w1, hq1⟩ : ∃ x, x = w.alloc (.cells #[.int .i64 k, .int .i64 wd] 38) := ⟨_, rfl⟩
  rw [← hq1]
  have hb1 : Below w.heap.size w w1 := by rw [hq1]; exact (Below.refl _ _).alloc (Nat.le_refl _) _
  have d_1_0 : w1.cell? ⟨w.heap.size, 0, none⟩ = some (.int .i64 k) := by rw [hq1]; simp
  have d_1_1 : w1.cell? ⟨w.heap.size, 1, none⟩ = some (.int .i64 wd) := by rw [hq1]; simp
  have m_1 : w.heap.size < w1.heap.size := by rw [hq1]; simp
  clear hq1
  have hw_2 := hw.below hb1
  have he_2 := he.below hb1
  have z_2 : Below w.heap.size w w1 := hb1
  clear hw he hb1
  refine (rweek_yes _ y2 m2 d2 w1 q1 q2 hd N.out).mono ?_; rintro e w3 ⟨rfl, hb3⟩
  have hw_4 := hw_2.below hb3
  have he_4 := he_2.below hb3
  have c_4_0 := (hb3.cell (p := ⟨w.heap.size, 0, none⟩) m_1).trans d_1_0
  have c_4_1 := (hb3.cell (p := ⟨w.heap.size, 1, none⟩) m_1).trans d_1_1
  have l_4_0 : w.heap.size < w3.heap.size := Nat.lt_of_lt_of_le m_1 hb3.size
  have z_4 : Below w.heap.size w w3 := z_2.trans (hb3.mono z_2.size)
  clear hw_2 he_2 d_1_0 d_1_1 m_1 z_2 hb3
  go_wp2_with fail
  refine (week_yes _ y2 m2 d2 w3 hw_4 q1 q2 hd N.out).mono ?_; rintro e w5 ⟨rfl, hb5⟩
  have hw_6 := hw_4.below hb5
  have he_6 := he_4.below hb5
  have c_6_0 := (hb5.cell (p := ⟨w.heap.size, 0, none⟩) l_4_0).trans c_4_0
  have c_6_1 := (hb5.cell (p := ⟨w.heap.size, 1, none⟩) l_4_0).trans c_4_1
  have l_6_0 : w.heap.size < w5.heap.size := Nat.lt_of_lt_of_le l_4_0 hb5.size
  have z_6 : Below w.heap.size w w5 := z_4.trans (hb5.mono z_4.size)
  clear hw_4 he_4 c_4_0 c_4_1 l_4_0 z_4 hb5
  go_wp2_with fail
  refine ((error_nil 0 w5 true (by decide))).mono ?_; rintro e w7 ⟨rfl, hb7⟩
  have hw_8 := hw_6.below hb7
  have he_8 := he_6.below hb7
  have c_8_0 := (hb7.cell (p := ⟨w.heap.size, 0, none⟩) l_6_0).trans c_6_0
  have c_8_1 := (hb7.cell (p := ⟨w.heap.size, 1, none⟩) l_6_0).trans c_6_1
  have l_8_0 : w.heap.size < w7.heap.size := Nat.lt_of_lt_of_le l_6_0 hb7.size
  have z_8 : Below w.heap.size w w7 := z_6.trans (hb7.mono z_6.size)
  clear hw_6 he_6 c_6_0 c_6_1 l_6_0 z_6 hb7
  go_wp2_with fail
  refine (rweeks_yes yr w7 g1 g2).mono ?_; rintro e w9 ⟨rfl, hb9⟩
  have hw_10 := hw_8.below hb9
  have he_10 := he_8.below hb9
  have c_10_0 := (hb9.cell (p := ⟨w.heap.size, 0, none⟩) l_8_0).trans c_8_0
  have c_10_1 := (hb9.cell (p := ⟨w.heap.size, 1, none⟩) l_8_0).trans c_8_1
  have l_10_0 : w.heap.size < w9.heap.size := Nat.lt_of_lt_of_le l_8_0 hb9.size
  have z_10 : Below w.heap.size w w9 := z_8.trans (hb9.mono z_8.size)
  clear hw_8 he_8 c_8_0 c_8_1 l_8_0 z_8 hb9
  go_wp2_with fail
  refine (weeks_yes yr w9 hw_10 g1 g2).mono ?_; rintro e w11 ⟨rfl, hb11⟩
  have hw_12 := hw_10.below hb11
  have he_12 := he_10.below hb11
  have c_12_0 := (hb11.cell (p := ⟨w.heap.size, 0, none⟩) l_10_0).trans c_10_0
  have c_12_1 := (hb11.cell (p := ⟨w.heap.size, 1, none⟩) l_10_0).trans c_10_1
  have l_12_0 : w.heap.size < w11.heap.size := Nat.lt_of_lt_of_le l_10_0 hb11.size
  have z_12 : Below w.heap.size w w11 := z_10.trans (hb11.mono z_10.size)
  clear hw_10 he_10 c_10_0 c_10_1 l_10_0 z_10 hb11
  go_wp2_with fail
  refine ((error_nil 0 w11 true (by decide))).mono ?_; rintro e w13 ⟨rfl, hb13⟩
  have hw_14 := hw_12.below hb13
  have he_14 := he_12.below hb13
  have c_14_0 := (hb13.cell (p := ⟨w.heap.size, 0, none⟩) l_12_0).trans c_12_0
  have c_14_1 := (hb13.cell (p := ⟨w.heap.size, 1, none⟩) l_12_0).trans c_12_1
  have l_14_0 : w.heap.size < w13.heap.size := Nat.lt_of_lt_of_le l_12_0 hb13.size
  have z_14 : Below w.heap.size w w13 := z_12.trans (hb13.mono z_12.size)
  clear hw_12 he_12 c_12_0 c_12_1 l_12_0 z_12 hb13
  go_wp2_with fail
  refine (rof_yes yr 1 4 w13 hj).mono ?_; rintro e w15 ⟨rfl, hb15⟩
  have hw_16 := hw_14.below hb15
  have he_16 := he_14.below hb15
  have c_16_0 := (hb15.cell (p := ⟨w.heap.size, 0, none⟩) l_14_0).trans c_14_0
  have c_16_1 := (hb15.cell (p := ⟨w.heap.size, 1, none⟩) l_14_0).trans c_14_1
  have l_16_0 : w.heap.size < w15.heap.size := Nat.lt_of_lt_of_le l_14_0 hb15.size
  have z_16 : Below w.heap.size w w15 := z_14.trans (hb15.mono z_14.size)
  clear hw_14 he_14 c_14_0 c_14_1 l_14_0 z_14 hb15
  go_wp2_with fail
  refine (rmonday_any _ w15 j1 (by omega)).mono ?_; rintro e w' ⟨rfl, rfl⟩
  rw [show Cal.mondayI (Cal.num yr 1 4) = Cal.wk1 yr from rfl]
  rcases g3 with g3 | g3
  all_goals
    go_wp2_with fail
    refine (wfirst_no yr wk w15 hw_16 (.inr (by omega))).mono ?_; rintro e w17 ⟨rfl, hb17⟩
    have hw_18 := hw_16.below hb17
    have he_18 := he_16.below hb17
    have c_18_0 := (hb17.cell (p := ⟨w.heap.size, 0, none⟩) l_16_0).trans c_16_0
    have c_18_1 := (hb17.cell (p := ⟨w.heap.size, 1, none⟩) l_16_0).trans c_16_1
    have l_18_0 : w.heap.size < w17.heap.size := Nat.lt_of_lt_of_le l_16_0 hb17.size
    have z_18 : Below w.heap.size w w17 := z_16.trans (hb17.mono z_16.size)
    clear hw_16 he_16 c_16_0 c_16_1 l_16_0 z_16 hb17
    go_wp2_with fail
    refine ((error_no 1 1 w17 true he_18 (by decide) (by omega) (by omega))).mono ?_; rintro e w19 ⟨rfl, hb19⟩
    have hw_20 := hw_18.below hb19
    have he_20 := he_18.below hb19
    have c_20_0 := (hb19.cell (p := ⟨w.heap.size, 0, none⟩) l_18_0).trans c_18_0
    have c_20_1 := (hb19.cell (p := ⟨w.heap.size, 1, none⟩) l_18_0).trans c_18_1
    have l_20_0 : w.heap.size < w19.heap.size := Nat.lt_of_lt_of_le l_18_0 hb19.size
    have z_20 : Below w.heap.size w w19 := z_18.trans (hb19.mono z_18.size)
    clear hw_18 he_18 c_18_0 c_18_1 l_18_0 z_18 hb19
    go_wp2_with fail
    refine (rnth_any yr mo k wd w19).mono ?_; rintro e w21 ⟨rfl, hb21⟩
    have hw_22 := hw_20.below hb21
    have he_22 := he_20.below hb21
    have c_22_0 := (hb21.cell (p := ⟨w.heap.size, 0, none⟩) l_20_0).trans c_20_0
    have c_22_1 := (hb21.cell (p := ⟨w.heap.size, 1, none⟩) l_20_0).trans c_20_1
    have l_22_0 : w.heap.size < w21.heap.size := Nat.lt_of_lt_of_le l_20_0 hb21.size
    have z_22 : Below w.heap.size w w21 := z_20.trans (hb21.mono z_20.size)
    clear hw_20 he_20 c_20_0 c_20_1 l_20_0 z_20 hb21
    go_wp2_with fail
    refine (nth_any yr mo k wd w21 hw_22).mono ?_; rintro e w23 ⟨rfl, hb23⟩
    have hw_24 := hw_22.below hb23
    have he_24 := he_22.below hb23
    have c_24_0 := (hb23.cell (p := ⟨w.heap.size, 0, none⟩) l_22_0).trans c_22_0
    have c_24_1 := (hb23.cell (p := ⟨w.heap.size, 1, none⟩) l_22_0).trans c_22_1
    have l_24_0 : w.heap.size < w23.heap.size := Nat.lt_of_lt_of_le l_22_0 hb23.size
    have z_24 : Below w.heap.size w w23 := z_22.trans (hb23.mono z_22.size)
    clear hw_22 he_22 c_22_0 c_22_1 l_22_0 z_22 hb23
    go_wp2_with fail
    refine (error_same _ w23 he_24).mono ?_; rintro e w25 ⟨rfl, hb25⟩
    have hw_26 := hw_24.below hb25
    have he_26 := he_24.below hb25
    have c_26_0 := (hb25.cell (p := ⟨w.heap.size, 0, none⟩) l_24_0).trans c_24_0
    have c_26_1 := (hb25.cell (p := ⟨w.heap.size, 1, none⟩) l_24_0).trans c_24_1
    have l_26_0 : w.heap.size < w25.heap.size := Nat.lt_of_lt_of_le l_24_0 hb25.size
    have z_26 : Below w.heap.size w w25 := z_24.trans (hb25.mono z_24.size)
    clear hw_24 he_24 c_24_0 c_24_1 l_24_0 z_24 hb25
    go_wp2_with fail
    refine (rdate_num y1 m1 d1 w25 h1).mono ?_; rintro e w27 ⟨rfl, hb27⟩
    have hw_28 := hw_26.below hb27
    have he_28 := he_26.below hb27
    have c_28_0 := (hb27.cell (p := ⟨w.heap.size, 0, none⟩) l_26_0).trans c_26_0
    have c_28_1 := (hb27.cell (p := ⟨w.heap.size, 1, none⟩) l_26_0).trans c_26_1
    have l_28_0 : w.heap.size < w27.heap.size := Nat.lt_of_lt_of_le l_26_0 hb27.size
    have z_28 : Below w.heap.size w w27 := z_26.trans (hb27.mono z_26.size)
    clear hw_26 he_26 c_26_0 c_26_1 l_26_0 z_26 hb27
    go_wp2_with fail
    have zsz := z_28.size
    obtain ⟨w29, hq29⟩ : ∃ x, x = (w27.alloc (.cells #[.int .i64 0, .int .i64 0] 38)).alloc (.cells #[.int .i64 0, .int .i64 0] 38) := ⟨_, rfl⟩
    rw [← hq29]
    have hb29 : Below w27.heap.size w27 w29 := by rw [hq29]; exact ((Below.refl _ _).alloc (Nat.le_refl _) _).alloc (by simp) _
    have d_29_0_0 : w29.cell? ⟨w27.heap.size, 0, none⟩ = some (.int .i64 0) := by rw [hq29]; simp
    have g_29_0_0 : w29.frozen? ⟨w27.heap.size, 0, none⟩ = false := by rw [hq29]; simp
    have d_29_0_1 : w29.cell? ⟨w27.heap.size, 1, none⟩ = some (.int .i64 0) := by rw [hq29]; simp
    have g_29_0_1 : w29.frozen? ⟨w27.heap.size, 1, none⟩ = false := by rw [hq29]; simp
    have m_29_0 : w27.heap.size < w29.heap.size := by rw [hq29]; simp; omega
    have d_29_1_0 : w29.cell? ⟨w27.heap.size + 1, 0, none⟩ = some (.int .i64 0) := by rw [hq29]; simp
    have g_29_1_0 : w29.frozen? ⟨w27.heap.size + 1, 0, none⟩ = false := by rw [hq29]; simp
    have d_29_1_1 : w29.cell? ⟨w27.heap.size + 1, 1, none⟩ = some (.int .i64 0) := by rw [hq29]; simp
    have g_29_1_1 : w29.frozen? ⟨w27.heap.size + 1, 1, none⟩ = false := by rw [hq29]; simp
    have m_29_1 : w27.heap.size + 1 < w29.heap.size := by rw [hq29]; simp
    clear hq29
    have hw_30 := hw_28.below hb29
    have he_30 := he_28.below hb29
    have c_30_0 := (hb29.cell (p := ⟨w.heap.size, 0, none⟩) l_28_0).trans c_28_0
    have c_30_1 := (hb29.cell (p := ⟨w.heap.size, 1, none⟩) l_28_0).trans c_28_1
    have l_30_0 : w.heap.size < w29.heap.size := Nat.lt_of_lt_of_le l_28_0 hb29.size
    have z_30 : Below w.heap.size w w29 := z_28.trans (hb29.mono z_28.size)
    clear hw_28 he_28 c_28_0 c_28_1 l_28_0 z_28 hb29
    refine (rends_any y1 m1 d1 w29 h1).mono ?_; rintro e w31 ⟨rfl, hb31⟩
    have hw_32 := hw_30.below hb31
    have he_32 := he_30.below hb31
    have c_32_0 := (hb31.cell (p := ⟨w.heap.size, 0, none⟩) l_30_0).trans c_30_0
    have c_32_1 := (hb31.cell (p := ⟨w.heap.size, 1, none⟩) l_30_0).trans c_30_1
    have c_32_2 := (hb31.cell (p := ⟨w27.heap.size, 0, none⟩) m_29_0).trans d_29_0_0
    have c_32_3 := (hb31.cell (p := ⟨w27.heap.size, 1, none⟩) m_29_0).trans d_29_0_1
    have c_32_4 := (hb31.cell (p := ⟨w27.heap.size + 1, 0, none⟩) m_29_1).trans d_29_1_0
    have c_32_5 := (hb31.cell (p := ⟨w27.heap.size + 1, 1, none⟩) m_29_1).trans d_29_1_1
    have f_32_0 := (hb31.frozen (p := ⟨w27.heap.size, 0, none⟩) m_29_0).trans g_29_0_0
    have f_32_1 := (hb31.frozen (p := ⟨w27.heap.size, 1, none⟩) m_29_0).trans g_29_0_1
    have f_32_2 := (hb31.frozen (p := ⟨w27.heap.size + 1, 0, none⟩) m_29_1).trans g_29_1_0
    have f_32_3 := (hb31.frozen (p := ⟨w27.heap.size + 1, 1, none⟩) m_29_1).trans g_29_1_1
    have l_32_0 : w.heap.size < w31.heap.size := Nat.lt_of_lt_of_le l_30_0 hb31.size
    have l_32_1 : w27.heap.size < w31.heap.size := Nat.lt_of_lt_of_le m_29_0 hb31.size
    have l_32_2 : w27.heap.size + 1 < w31.heap.size := Nat.lt_of_lt_of_le m_29_1 hb31.size
    have z_32 : Below w.heap.size w w31 := z_30.trans (hb31.mono z_30.size)
    clear hw_30 he_30 c_30_0 c_30_1 d_29_0_0 d_29_0_1 d_29_1_0 d_29_1_1 g_29_0_0 g_29_0_1 g_29_1_0 g_29_1_1 l_30_0 m_29_0 m_29_1 z_30 hb31
    go_wp2_with (go_at_call 31; refine (rweekday_any _ _ q1 (by omega)).mono ?_; rintro e w' ⟨rfl, rfl⟩)
    obtain ⟨w33, hwr, s0, s1, s2, s3, hsz, hbr⟩ := set4b (v0 := .int .i64 ((d1 - 1) / 7 + 1)) (v1 := .int .i64 ((Cal.num y1 m1 d1 - 1) % 7 + 1)) (v2 := .int .i64 (-((Cal.dim y1 m1 - d1) / 7 + 1))) (v3 := .int .i64 ((Cal.num y1 m1 d1 - 1) % 7 + 1)) (by omega) c_32_2 c_32_3 c_32_4 c_32_5
    rw [← hwr]
    have zB : Below w.heap.size w w33 := hbr _ _ z_32 (by omega) (by omega)
    have hwB := hwK.keep (B := w.heap.size) zB hwK.pos
    have heB := heK.below zB
    have l_32_0_n : w.heap.size < w33.heap.size := by rw [hsz]; exact l_32_0
    have l_32_1_n : w27.heap.size < w33.heap.size := by rw [hsz]; exact l_32_1
    have l_32_2_n : w27.heap.size + 1 < w33.heap.size := by rw [hsz]; exact l_32_2
    clear c_32_0 c_32_1 c_32_2 c_32_3 c_32_4 c_32_5 l_32_0 l_32_1 l_32_2 f_32_0 f_32_1 f_32_2 f_32_3 hw_32 he_32 z_32 hwr hbr hsz
    refine (which_yes y1 m1 d1 w33 hwB h1).mono ?_; rintro e w34 ⟨rfl, hb34⟩
    have hw_35 := hwB.below hb34
    have he_35 := heB.below hb34
    have c_35_0 := (hb34.cell (p := ⟨w27.heap.size, 0, none⟩) l_32_1_n).trans s0
    have c_35_1 := (hb34.cell (p := ⟨w27.heap.size, 1, none⟩) l_32_1_n).trans s1
    have c_35_2 := (hb34.cell (p := ⟨w27.heap.size + 1, 0, none⟩) l_32_2_n).trans s2
    have c_35_3 := (hb34.cell (p := ⟨w27.heap.size + 1, 1, none⟩) l_32_2_n).trans s3
    have l_35_0 : w.heap.size < w34.heap.size := Nat.lt_of_lt_of_le l_32_0_n hb34.size
    have l_35_1 : w27.heap.size < w34.heap.size := Nat.lt_of_lt_of_le l_32_1_n hb34.size
    have l_35_2 : w27.heap.size + 1 < w34.heap.size := Nat.lt_of_lt_of_le l_32_2_n hb34.size
    have z_35 : Below w.heap.size w w34 := zB.trans (hb34.mono zB.size)
    clear hwB heB s0 s1 s2 s3 l_32_0_n l_32_1_n l_32_2_n zB hb34
    go_wp2_with fail
    obtain ⟨w36, hq36⟩ : ∃ x, x = (w34.alloc (.cells #[.int .i64 ((d1 - 1) / 7 + 1), .int .i64 ((Cal.num y1 m1 d1 - 1) % 7 + 1)] 38)).alloc (.cells #[.int .i64 (-((Cal.dim y1 m1 - d1) / 7 + 1)), .int .i64 ((Cal.num y1 m1 d1 - 1) % 7 + 1)] 38) := ⟨_, rfl⟩
    rw [← hq36]
    have hb36 : Below w34.heap.size w34 w36 := by rw [hq36]; exact ((Below.refl _ _).alloc (Nat.le_refl _) _).alloc (by simp) _
    have d_36_0_0 : w36.cell? ⟨w34.heap.size, 0, none⟩ = some (.int .i64 ((d1 - 1) / 7 + 1)) := by rw [hq36]; simp
    have d_36_0_1 : w36.cell? ⟨w34.heap.size, 1, none⟩ = some (.int .i64 ((Cal.num y1 m1 d1 - 1) % 7 + 1)) := by rw [hq36]; simp
    have m_36_0 : w34.heap.size < w36.heap.size := by rw [hq36]; simp; omega
    have d_36_1_0 : w36.cell? ⟨w34.heap.size + 1, 0, none⟩ = some (.int .i64 (-((Cal.dim y1 m1 - d1) / 7 + 1))) := by rw [hq36]; simp
    have d_36_1_1 : w36.cell? ⟨w34.heap.size + 1, 1, none⟩ = some (.int .i64 ((Cal.num y1 m1 d1 - 1) % 7 + 1)) := by rw [hq36]; simp
    have m_36_1 : w34.heap.size + 1 < w36.heap.size := by rw [hq36]; simp
    clear hq36
    have hw_37 := hw_35.below hb36
    have he_37 := he_35.below hb36
    have c_37_0 := (hb36.cell (p := ⟨w27.heap.size, 0, none⟩) l_35_1).trans c_35_0
    have c_37_1 := (hb36.cell (p := ⟨w27.heap.size, 1, none⟩) l_35_1).trans c_35_1
    have c_37_2 := (hb36.cell (p := ⟨w27.heap.size + 1, 0, none⟩) l_35_2).trans c_35_2
    have c_37_3 := (hb36.cell (p := ⟨w27.heap.size + 1, 1, none⟩) l_35_2).trans c_35_3
    have l_37_0 : w.heap.size < w36.heap.size := Nat.lt_of_lt_of_le l_35_0 hb36.size
    have l_37_1 : w27.heap.size < w36.heap.size := Nat.lt_of_lt_of_le l_35_1 hb36.size
    have l_37_2 : w27.heap.size + 1 < w36.heap.size := Nat.lt_of_lt_of_le l_35_2 hb36.size
    have z_37 : Below w.heap.size w w36 := z_35.trans (hb36.mono z_35.size)
    clear hw_35 he_35 c_35_0 c_35_1 c_35_2 c_35_3 l_35_0 l_35_1 l_35_2 z_35 hb36
    refine ((error_nil 0 w36 true (by decide))).mono ?_; rintro e w38 ⟨rfl, hb38⟩
    have hw_39 := hw_37.below hb38
    have he_39 := he_37.below hb38
    have c_39_0 := (hb38.cell (p := ⟨w27.heap.size, 0, none⟩) l_37_1).trans c_37_0
    have c_39_1 := (hb38.cell (p := ⟨w27.heap.size, 1, none⟩) l_37_1).trans c_37_1
    have c_39_2 := (hb38.cell (p := ⟨w27.heap.size + 1, 0, none⟩) l_37_2).trans c_37_2
    have c_39_3 := (hb38.cell (p := ⟨w27.heap.size + 1, 1, none⟩) l_37_2).trans c_37_3
    have c_39_4 := (hb38.cell (p := ⟨w34.heap.size, 0, none⟩) m_36_0).trans d_36_0_0
    have c_39_5 := (hb38.cell (p := ⟨w34.heap.size, 1, none⟩) m_36_0).trans d_36_0_1
    have c_39_6 := (hb38.cell (p := ⟨w34.heap.size + 1, 0, none⟩) m_36_1).trans d_36_1_0
    have c_39_7 := (hb38.cell (p := ⟨w34.heap.size + 1, 1, none⟩) m_36_1).trans d_36_1_1
    have l_39_0 : w.heap.size < w38.heap.size := Nat.lt_of_lt_of_le l_37_0 hb38.size
    have l_39_1 : w27.heap.size < w38.heap.size := Nat.lt_of_lt_of_le l_37_1 hb38.size
    have l_39_2 : w27.heap.size + 1 < w38.heap.size := Nat.lt_of_lt_of_le l_37_2 hb38.size
    have l_39_3 : w34.heap.size < w38.heap.size := Nat.lt_of_lt_of_le m_36_0 hb38.size
    have l_39_4 : w34.heap.size + 1 < w38.heap.size := Nat.lt_of_lt_of_le m_36_1 hb38.size
    have z_39 : Below w.heap.size w w38 := z_37.trans (hb38.mono z_37.size)
    clear hw_37 he_37 c_37_0 c_37_1 c_37_2 c_37_3 d_36_0_0 d_36_0_1 d_36_1_0 d_36_1_1 l_37_0 l_37_1 l_37_2 m_36_0 m_36_1 z_37 hb38
    go_wp2
    go_ret
    exact ⟨rfl, z_39⟩

set_option maxRecDepth 100000 in
set_option maxHeartbeats 8000000 in
theorem weekTells_late_bad (yr wk mo k wd y1 m1 d1 : Int) (w : World) (hw : Months w) (he : ErrT w) (h1 : Cal.dateB y1 m1 d1 = true) (hn : 109571 < Cal.num y1 m1 d1) (hy : yr < 1900 ∨ 2199 < yr) :
    Calls Tryd.prog 4 #[.int .i64 (Cal.num y1 m1 d1), .int .i64 yr, .int .i64 wk, .int .i64 mo, .agg #[.int .i64 k, .int .i64 wd]] w fun e w' => e = .returned (.bool true) ∧ Below w.heap.size w w' := by
  have hwK := hw
  have heK := he
  obtain ⟨_, _, q1, q2⟩ := Cal.num_bd h1
  have hdb1 := Cal.dim_bd y1 m1
  have N := Lib.hid (show Cal.num y1 m1 d1 < 1 ∨ 109571 < Cal.num y1 m1 d1 from .inr hn); clear hn
  go_enter Tryd.func4, Tryd.ntmps4
  go_wp2_with fail
  obtain ⟨w1, hq1⟩ : ∃ x, x = w.alloc (.cells #[.int .i64 k, .int .i64 wd] 38) := ⟨_, rfl⟩
  rw [← hq1]
  have hb1 : Below w.heap.size w w1 := by rw [hq1]; exact (Below.refl _ _).alloc (Nat.le_refl _) _
  have d_1_0 : w1.cell? ⟨w.heap.size, 0, none⟩ = some (.int .i64 k) := by rw [hq1]; simp
  have d_1_1 : w1.cell? ⟨w.heap.size, 1, none⟩ = some (.int .i64 wd) := by rw [hq1]; simp
  have m_1 : w.heap.size < w1.heap.size := by rw [hq1]; simp
  clear hq1
  have hw_2 := hw.below hb1
  have he_2 := he.below hb1
  have z_2 : Below w.heap.size w w1 := hb1
  clear hw he hb1
  refine (rweek_no _ w1 N.out).mono ?_; rintro e w3 ⟨rfl, hb3⟩
  have hw_4 := hw_2.below hb3
  have he_4 := he_2.below hb3
  have c_4_0 := (hb3.cell (p := ⟨w.heap.size, 0, none⟩) m_1).trans d_1_0
  have c_4_1 := (hb3.cell (p := ⟨w.heap.size, 1, none⟩) m_1).trans d_1_1
  have l_4_0 : w.heap.size < w3.heap.size := Nat.lt_of_lt_of_le m_1 hb3.size
  have z_4 : Below w.heap.size w w3 := z_2.trans (hb3.mono z_2.size)
  clear hw_2 he_2 d_1_0 d_1_1 m_1 z_2 hb3
  go_wp2_with fail
  refine (week_no _ w3 N.out).mono ?_; rintro e w5 ⟨rfl, hb5⟩
  have hw_6 := hw_4.below hb5
  have he_6 := he_4.below hb5
  have c_6_0 := (hb5.cell (p := ⟨w.heap.size, 0, none⟩) l_4_0).trans c_4_0
  have c_6_1 := (hb5.cell (p := ⟨w.heap.size, 1, none⟩) l_4_0).trans c_4_1
  have l_6_0 : w.heap.size < w5.heap.size := Nat.lt_of_lt_of_le l_4_0 hb5.size
  have z_6 : Below w.heap.size w w5 := z_4.trans (hb5.mono z_4.size)
  clear hw_4 he_4 c_4_0 c_4_1 l_4_0 z_4 hb5
  go_wp2_with fail
  refine ((error_no 1 1 w5 true he_6 (by decide) (by omega) (by omega))).mono ?_; rintro e w7 ⟨rfl, hb7⟩
  have hw_8 := hw_6.below hb7
  have he_8 := he_6.below hb7
  have c_8_0 := (hb7.cell (p := ⟨w.heap.size, 0, none⟩) l_6_0).trans c_6_0
  have c_8_1 := (hb7.cell (p := ⟨w.heap.size, 1, none⟩) l_6_0).trans c_6_1
  have l_8_0 : w.heap.size < w7.heap.size := Nat.lt_of_lt_of_le l_6_0 hb7.size
  have z_8 : Below w.heap.size w w7 := z_6.trans (hb7.mono z_6.size)
  clear hw_6 he_6 c_6_0 c_6_1 l_6_0 z_6 hb7
  go_wp2_with fail
  refine (rweeks_no yr w7 hy).mono ?_; rintro e w9 ⟨rfl, hb9⟩
  have hw_10 := hw_8.below hb9
  have he_10 := he_8.below hb9
  have c_10_0 := (hb9.cell (p := ⟨w.heap.size, 0, none⟩) l_8_0).trans c_8_0
  have c_10_1 := (hb9.cell (p := ⟨w.heap.size, 1, none⟩) l_8_0).trans c_8_1
  have l_10_0 : w.heap.size < w9.heap.size := Nat.lt_of_lt_of_le l_8_0 hb9.size
  have z_10 : Below w.heap.size w w9 := z_8.trans (hb9.mono z_8.size)
  clear hw_8 he_8 c_8_0 c_8_1 l_8_0 z_8 hb9
  go_wp2_with fail
  refine (weeks_no yr w9 hw_10 hy).mono ?_; rintro e w11 ⟨rfl, hb11⟩
  have hw_12 := hw_10.below hb11
  have he_12 := he_10.below hb11
  have c_12_0 := (hb11.cell (p := ⟨w.heap.size, 0, none⟩) l_10_0).trans c_10_0
  have c_12_1 := (hb11.cell (p := ⟨w.heap.size, 1, none⟩) l_10_0).trans c_10_1
  have l_12_0 : w.heap.size < w11.heap.size := Nat.lt_of_lt_of_le l_10_0 hb11.size
  have z_12 : Below w.heap.size w w11 := z_10.trans (hb11.mono z_10.size)
  clear hw_10 he_10 c_10_0 c_10_1 l_10_0 z_10 hb11
  go_wp2_with fail
  refine ((error_no 1 1 w11 true he_12 (by decide) (by omega) (by omega))).mono ?_; rintro e w13 ⟨rfl, hb13⟩
  have hw_14 := hw_12.below hb13
  have he_14 := he_12.below hb13
  have c_14_0 := (hb13.cell (p := ⟨w.heap.size, 0, none⟩) l_12_0).trans c_12_0
  have c_14_1 := (hb13.cell (p := ⟨w.heap.size, 1, none⟩) l_12_0).trans c_12_1
  have l_14_0 : w.heap.size < w13.heap.size := Nat.lt_of_lt_of_le l_12_0 hb13.size
  have z_14 : Below w.heap.size w w13 := z_12.trans (hb13.mono z_12.size)
  clear hw_12 he_12 c_12_0 c_12_1 l_12_0 z_12 hb13
  go_wp2_with fail
  refine (wfirst_no yr wk w13 hw_14 (.inl hy)).mono ?_; rintro e w15 ⟨rfl, hb15⟩
  have hw_16 := hw_14.below hb15
  have he_16 := he_14.below hb15
  have c_16_0 := (hb15.cell (p := ⟨w.heap.size, 0, none⟩) l_14_0).trans c_14_0
  have c_16_1 := (hb15.cell (p := ⟨w.heap.size, 1, none⟩) l_14_0).trans c_14_1
  have l_16_0 : w.heap.size < w15.heap.size := Nat.lt_of_lt_of_le l_14_0 hb15.size
  have z_16 : Below w.heap.size w w15 := z_14.trans (hb15.mono z_14.size)
  clear hw_14 he_14 c_14_0 c_14_1 l_14_0 z_14 hb15
  go_wp2_with fail
  refine ((error_no 1 1 w15 true he_16 (by decide) (by omega) (by omega))).mono ?_; rintro e w17 ⟨rfl, hb17⟩
  have hw_18 := hw_16.below hb17
  have he_18 := he_16.below hb17
  have c_18_0 := (hb17.cell (p := ⟨w.heap.size, 0, none⟩) l_16_0).trans c_16_0
  have c_18_1 := (hb17.cell (p := ⟨w.heap.size, 1, none⟩) l_16_0).trans c_16_1
  have l_18_0 : w.heap.size < w17.heap.size := Nat.lt_of_lt_of_le l_16_0 hb17.size
  have z_18 : Below w.heap.size w w17 := z_16.trans (hb17.mono z_16.size)
  clear hw_16 he_16 c_16_0 c_16_1 l_16_0 z_16 hb17
  go_wp2_with fail
  refine (rnth_any yr mo k wd w17).mono ?_; rintro e w19 ⟨rfl, hb19⟩
  have hw_20 := hw_18.below hb19
  have he_20 := he_18.below hb19
  have c_20_0 := (hb19.cell (p := ⟨w.heap.size, 0, none⟩) l_18_0).trans c_18_0
  have c_20_1 := (hb19.cell (p := ⟨w.heap.size, 1, none⟩) l_18_0).trans c_18_1
  have l_20_0 : w.heap.size < w19.heap.size := Nat.lt_of_lt_of_le l_18_0 hb19.size
  have z_20 : Below w.heap.size w w19 := z_18.trans (hb19.mono z_18.size)
  clear hw_18 he_18 c_18_0 c_18_1 l_18_0 z_18 hb19
  go_wp2_with fail
  refine (nth_any yr mo k wd w19 hw_20).mono ?_; rintro e w21 ⟨rfl, hb21⟩
  have hw_22 := hw_20.below hb21
  have he_22 := he_20.below hb21
  have c_22_0 := (hb21.cell (p := ⟨w.heap.size, 0, none⟩) l_20_0).trans c_20_0
  have c_22_1 := (hb21.cell (p := ⟨w.heap.size, 1, none⟩) l_20_0).trans c_20_1
  have l_22_0 : w.heap.size < w21.heap.size := Nat.lt_of_lt_of_le l_20_0 hb21.size
  have z_22 : Below w.heap.size w w21 := z_20.trans (hb21.mono z_20.size)
  clear hw_20 he_20 c_20_0 c_20_1 l_20_0 z_20 hb21
  go_wp2_with fail
  refine (error_same _ w21 he_22).mono ?_; rintro e w23 ⟨rfl, hb23⟩
  have hw_24 := hw_22.below hb23
  have he_24 := he_22.below hb23
  have c_24_0 := (hb23.cell (p := ⟨w.heap.size, 0, none⟩) l_22_0).trans c_22_0
  have c_24_1 := (hb23.cell (p := ⟨w.heap.size, 1, none⟩) l_22_0).trans c_22_1
  have l_24_0 : w.heap.size < w23.heap.size := Nat.lt_of_lt_of_le l_22_0 hb23.size
  have z_24 : Below w.heap.size w w23 := z_22.trans (hb23.mono z_22.size)
  clear hw_22 he_22 c_22_0 c_22_1 l_22_0 z_22 hb23
  go_wp2_with fail
  refine (rdate_num y1 m1 d1 w23 h1).mono ?_; rintro e w25 ⟨rfl, hb25⟩
  have hw_26 := hw_24.below hb25
  have he_26 := he_24.below hb25
  have c_26_0 := (hb25.cell (p := ⟨w.heap.size, 0, none⟩) l_24_0).trans c_24_0
  have c_26_1 := (hb25.cell (p := ⟨w.heap.size, 1, none⟩) l_24_0).trans c_24_1
  have l_26_0 : w.heap.size < w25.heap.size := Nat.lt_of_lt_of_le l_24_0 hb25.size
  have z_26 : Below w.heap.size w w25 := z_24.trans (hb25.mono z_24.size)
  clear hw_24 he_24 c_24_0 c_24_1 l_24_0 z_24 hb25
  go_wp2_with fail
  have zsz := z_26.size
  obtain ⟨w27, hq27⟩ : ∃ x, x = (w25.alloc (.cells #[.int .i64 0, .int .i64 0] 38)).alloc (.cells #[.int .i64 0, .int .i64 0] 38) := ⟨_, rfl⟩
  rw [← hq27]
  have hb27 : Below w25.heap.size w25 w27 := by rw [hq27]; exact ((Below.refl _ _).alloc (Nat.le_refl _) _).alloc (by simp) _
  have d_27_0_0 : w27.cell? ⟨w25.heap.size, 0, none⟩ = some (.int .i64 0) := by rw [hq27]; simp
  have g_27_0_0 : w27.frozen? ⟨w25.heap.size, 0, none⟩ = false := by rw [hq27]; simp
  have d_27_0_1 : w27.cell? ⟨w25.heap.size, 1, none⟩ = some (.int .i64 0) := by rw [hq27]; simp
  have g_27_0_1 : w27.frozen? ⟨w25.heap.size, 1, none⟩ = false := by rw [hq27]; simp
  have m_27_0 : w25.heap.size < w27.heap.size := by rw [hq27]; simp; omega
  have d_27_1_0 : w27.cell? ⟨w25.heap.size + 1, 0, none⟩ = some (.int .i64 0) := by rw [hq27]; simp
  have g_27_1_0 : w27.frozen? ⟨w25.heap.size + 1, 0, none⟩ = false := by rw [hq27]; simp
  have d_27_1_1 : w27.cell? ⟨w25.heap.size + 1, 1, none⟩ = some (.int .i64 0) := by rw [hq27]; simp
  have g_27_1_1 : w27.frozen? ⟨w25.heap.size + 1, 1, none⟩ = false := by rw [hq27]; simp
  have m_27_1 : w25.heap.size + 1 < w27.heap.size := by rw [hq27]; simp
  clear hq27
  have hw_28 := hw_26.below hb27
  have he_28 := he_26.below hb27
  have c_28_0 := (hb27.cell (p := ⟨w.heap.size, 0, none⟩) l_26_0).trans c_26_0
  have c_28_1 := (hb27.cell (p := ⟨w.heap.size, 1, none⟩) l_26_0).trans c_26_1
  have l_28_0 : w.heap.size < w27.heap.size := Nat.lt_of_lt_of_le l_26_0 hb27.size
  have z_28 : Below w.heap.size w w27 := z_26.trans (hb27.mono z_26.size)
  clear hw_26 he_26 c_26_0 c_26_1 l_26_0 z_26 hb27
  refine (rends_any y1 m1 d1 w27 h1).mono ?_; rintro e w29 ⟨rfl, hb29⟩
  have hw_30 := hw_28.below hb29
  have he_30 := he_28.below hb29
  have c_30_0 := (hb29.cell (p := ⟨w.heap.size, 0, none⟩) l_28_0).trans c_28_0
  have c_30_1 := (hb29.cell (p := ⟨w.heap.size, 1, none⟩) l_28_0).trans c_28_1
  have c_30_2 := (hb29.cell (p := ⟨w25.heap.size, 0, none⟩) m_27_0).trans d_27_0_0
  have c_30_3 := (hb29.cell (p := ⟨w25.heap.size, 1, none⟩) m_27_0).trans d_27_0_1
  have c_30_4 := (hb29.cell (p := ⟨w25.heap.size + 1, 0, none⟩) m_27_1).trans d_27_1_0
  have c_30_5 := (hb29.cell (p := ⟨w25.heap.size + 1, 1, none⟩) m_27_1).trans d_27_1_1
  have f_30_0 := (hb29.frozen (p := ⟨w25.heap.size, 0, none⟩) m_27_0).trans g_27_0_0
  have f_30_1 := (hb29.frozen (p := ⟨w25.heap.size, 1, none⟩) m_27_0).trans g_27_0_1
  have f_30_2 := (hb29.frozen (p := ⟨w25.heap.size + 1, 0, none⟩) m_27_1).trans g_27_1_0
  have f_30_3 := (hb29.frozen (p := ⟨w25.heap.size + 1, 1, none⟩) m_27_1).trans g_27_1_1
  have l_30_0 : w.heap.size < w29.heap.size := Nat.lt_of_lt_of_le l_28_0 hb29.size
  have l_30_1 : w25.heap.size < w29.heap.size := Nat.lt_of_lt_of_le m_27_0 hb29.size
  have l_30_2 : w25.heap.size + 1 < w29.heap.size := Nat.lt_of_lt_of_le m_27_1 hb29.size
  have z_30 : Below w.heap.size w w29 := z_28.trans (hb29.mono z_28.size)
  clear hw_28 he_28 c_28_0 c_28_1 d_27_0_0 d_27_0_1 d_27_1_0 d_27_1_1 g_27_0_0 g_27_0_1 g_27_1_0 g_27_1_1 l_28_0 m_27_0 m_27_1 z_28 hb29
  go_wp2_with (go_at_call 31; refine (rweekday_any _ _ q1 (by omega)).mono ?_; rintro e w' ⟨rfl, rfl⟩)
  obtain ⟨w31, hwr, s0, s1, s2, s3, hsz, hbr⟩ := set4b (v0 := .int .i64 ((d1 - 1) / 7 + 1)) (v1 := .int .i64 ((Cal.num y1 m1 d1 - 1) % 7 + 1)) (v2 := .int .i64 (-((Cal.dim y1 m1 - d1) / 7 + 1))) (v3 := .int .i64 ((Cal.num y1 m1 d1 - 1) % 7 + 1)) (by omega) c_30_2 c_30_3 c_30_4 c_30_5
  rw [← hwr]
  have zB : Below w.heap.size w w31 := hbr _ _ z_30 (by omega) (by omega)
  have hwB := hwK.keep (B := w.heap.size) zB hwK.pos
  have heB := heK.below zB
  have l_30_0_n : w.heap.size < w31.heap.size := by rw [hsz]; exact l_30_0
  have l_30_1_n : w25.heap.size < w31.heap.size := by rw [hsz]; exact l_30_1
  have l_30_2_n : w25.heap.size + 1 < w31.heap.size := by rw [hsz]; exact l_30_2
  clear c_30_0 c_30_1 c_30_2 c_30_3 c_30_4 c_30_5 l_30_0 l_30_1 l_30_2 f_30_0 f_30_1 f_30_2 f_30_3 hw_30 he_30 z_30 hwr hbr hsz
  refine (which_yes y1 m1 d1 w31 hwB h1).mono ?_; rintro e w32 ⟨rfl, hb32⟩
  have hw_33 := hwB.below hb32
  have he_33 := heB.below hb32
  have c_33_0 := (hb32.cell (p := ⟨w25.heap.size, 0, none⟩) l_30_1_n).trans s0
  have c_33_1 := (hb32.cell (p := ⟨w25.heap.size, 1, none⟩) l_30_1_n).trans s1
  have c_33_2 := (hb32.cell (p := ⟨w25.heap.size + 1, 0, none⟩) l_30_2_n).trans s2
  have c_33_3 := (hb32.cell (p := ⟨w25.heap.size + 1, 1, none⟩) l_30_2_n).trans s3
  have l_33_0 : w.heap.size < w32.heap.size := Nat.lt_of_lt_of_le l_30_0_n hb32.size
  have l_33_1 : w25.heap.size < w32.heap.size := Nat.lt_of_lt_of_le l_30_1_n hb32.size
  have l_33_2 : w25.heap.size + 1 < w32.heap.size := Nat.lt_of_lt_of_le l_30_2_n hb32.size
  have z_33 : Below w.heap.size w w32 := zB.trans (hb32.mono zB.size)
  clear hwB heB s0 s1 s2 s3 l_30_0_n l_30_1_n l_30_2_n zB hb32
  go_wp2_with fail
  obtain ⟨w34, hq34⟩ : ∃ x, x = (w32.alloc (.cells #[.int .i64 ((d1 - 1) / 7 + 1), .int .i64 ((Cal.num y1 m1 d1 - 1) % 7 + 1)] 38)).alloc (.cells #[.int .i64 (-((Cal.dim y1 m1 - d1) / 7 + 1)), .int .i64 ((Cal.num y1 m1 d1 - 1) % 7 + 1)] 38) := ⟨_, rfl⟩
  rw [← hq34]
  have hb34 : Below w32.heap.size w32 w34 := by rw [hq34]; exact ((Below.refl _ _).alloc (Nat.le_refl _) _).alloc (by simp) _
  have d_34_0_0 : w34.cell? ⟨w32.heap.size, 0, none⟩ = some (.int .i64 ((d1 - 1) / 7 + 1)) := by rw [hq34]; simp
  have d_34_0_1 : w34.cell? ⟨w32.heap.size, 1, none⟩ = some (.int .i64 ((Cal.num y1 m1 d1 - 1) % 7 + 1)) := by rw [hq34]; simp
  have m_34_0 : w32.heap.size < w34.heap.size := by rw [hq34]; simp; omega
  have d_34_1_0 : w34.cell? ⟨w32.heap.size + 1, 0, none⟩ = some (.int .i64 (-((Cal.dim y1 m1 - d1) / 7 + 1))) := by rw [hq34]; simp
  have d_34_1_1 : w34.cell? ⟨w32.heap.size + 1, 1, none⟩ = some (.int .i64 ((Cal.num y1 m1 d1 - 1) % 7 + 1)) := by rw [hq34]; simp
  have m_34_1 : w32.heap.size + 1 < w34.heap.size := by rw [hq34]; simp
  clear hq34
  have hw_35 := hw_33.below hb34
  have he_35 := he_33.below hb34
  have c_35_0 := (hb34.cell (p := ⟨w25.heap.size, 0, none⟩) l_33_1).trans c_33_0
  have c_35_1 := (hb34.cell (p := ⟨w25.heap.size, 1, none⟩) l_33_1).trans c_33_1
  have c_35_2 := (hb34.cell (p := ⟨w25.heap.size + 1, 0, none⟩) l_33_2).trans c_33_2
  have c_35_3 := (hb34.cell (p := ⟨w25.heap.size + 1, 1, none⟩) l_33_2).trans c_33_3
  have l_35_0 : w.heap.size < w34.heap.size := Nat.lt_of_lt_of_le l_33_0 hb34.size
  have l_35_1 : w25.heap.size < w34.heap.size := Nat.lt_of_lt_of_le l_33_1 hb34.size
  have l_35_2 : w25.heap.size + 1 < w34.heap.size := Nat.lt_of_lt_of_le l_33_2 hb34.size
  have z_35 : Below w.heap.size w w34 := z_33.trans (hb34.mono z_33.size)
  clear hw_33 he_33 c_33_0 c_33_1 c_33_2 c_33_3 l_33_0 l_33_1 l_33_2 z_33 hb34
  refine ((error_nil 0 w34 true (by decide))).mono ?_; rintro e w36 ⟨rfl, hb36⟩
  have hw_37 := hw_35.below hb36
  have he_37 := he_35.below hb36
  have c_37_0 := (hb36.cell (p := ⟨w25.heap.size, 0, none⟩) l_35_1).trans c_35_0
  have c_37_1 := (hb36.cell (p := ⟨w25.heap.size, 1, none⟩) l_35_1).trans c_35_1
  have c_37_2 := (hb36.cell (p := ⟨w25.heap.size + 1, 0, none⟩) l_35_2).trans c_35_2
  have c_37_3 := (hb36.cell (p := ⟨w25.heap.size + 1, 1, none⟩) l_35_2).trans c_35_3
  have c_37_4 := (hb36.cell (p := ⟨w32.heap.size, 0, none⟩) m_34_0).trans d_34_0_0
  have c_37_5 := (hb36.cell (p := ⟨w32.heap.size, 1, none⟩) m_34_0).trans d_34_0_1
  have c_37_6 := (hb36.cell (p := ⟨w32.heap.size + 1, 0, none⟩) m_34_1).trans d_34_1_0
  have c_37_7 := (hb36.cell (p := ⟨w32.heap.size + 1, 1, none⟩) m_34_1).trans d_34_1_1
  have l_37_0 : w.heap.size < w36.heap.size := Nat.lt_of_lt_of_le l_35_0 hb36.size
  have l_37_1 : w25.heap.size < w36.heap.size := Nat.lt_of_lt_of_le l_35_1 hb36.size
  have l_37_2 : w25.heap.size + 1 < w36.heap.size := Nat.lt_of_lt_of_le l_35_2 hb36.size
  have l_37_3 : w32.heap.size < w36.heap.size := Nat.lt_of_lt_of_le m_34_0 hb36.size
  have l_37_4 : w32.heap.size + 1 < w36.heap.size := Nat.lt_of_lt_of_le m_34_1 hb36.size
  have z_37 : Below w.heap.size w w36 := z_35.trans (hb36.mono z_35.size)
  clear hw_35 he_35 c_35_0 c_35_1 c_35_2 c_35_3 d_34_0_0 d_34_0_1 d_34_1_0 d_34_1_1 l_35_0 l_35_1 l_35_2 m_34_0 m_34_1 z_35 hb36
  go_wp2
  go_ret
  exact ⟨rfl, z_37⟩

set_option maxRecDepth 100000 in
set_option maxHeartbeats 8000000 in
theorem weekTells_late_in (yr wk mo k wd y1 m1 d1 : Int) (w : World) (hw : Months w) (he : ErrT w) (h1 : Cal.dateB y1 m1 d1 = true) (hn : 109571 < Cal.num y1 m1 d1) (g1 : 1900 ≤ yr) (g2 : yr ≤ 2199) (g3 : 1 ≤ wk) (g4 : wk ≤ Cal.weeksI yr) :
    Calls Tryd.prog 4 #[.int .i64 (Cal.num y1 m1 d1), .int .i64 yr, .int .i64 wk, .int .i64 mo, .agg #[.int .i64 k, .int .i64 wd]] w fun e w' => e = .returned (.bool true) ∧ Below w.heap.size w w' := by
  have hwK := hw
  have heK := he
  obtain ⟨_, _, q1, q2⟩ := Cal.num_bd h1
  have hdb1 := Cal.dim_bd y1 m1
  have N := Lib.hid (show Cal.num y1 m1 d1 < 1 ∨ 109571 < Cal.num y1 m1 d1 from .inr hn); clear hn
  obtain ⟨c0, c1, _, _⟩ := Cal.wk1_bd g1 g2
  have ha := Cal.ahead_bd yr g1 (by omega)
  have hj := Cal.date_j4 g1 g2
  obtain ⟨_, _, j1, j2⟩ := Cal.num_bd hj
  obtain ⟨wl, wl2⟩ := Cal.weeks_len g1 g2
  have wl3 : 52 ≤ Cal.weeksI yr := by rcases wl with h | h <;> omega
  have wl4 : Cal.weeksI yr ≤ 53 := by rcases wl with h | h <;> omega
  have hm0 : (Cal.weeksI yr == 0) = false := by simp; omega
  have hwb : Cal.wk1 yr ≤ 109573 := by obtain ⟨_, _, k, _⟩ := Cal.wk1_bd g1 g2; have := Cal.ahead_bd yr g1 (by omega); omega
  have hend : Cal.wk1 yr + (wk - 1) * 7 ≤ 109573 := week_fits g1 g2 g4
  clear wl wl2 ha
  go_enter Tryd.func4, Tryd.ntmps4
  go_wp2_with fail
  obtain ⟨w1, hq1⟩ : ∃ x, x = w.alloc (.cells #[.int .i64 k, .int .i64 wd] 38) := ⟨_, rfl⟩
  rw [← hq1]
  have hb1 : Below w.heap.size w w1 := by rw [hq1]; exact (Below.refl _ _).alloc (Nat.le_refl _) _
  have d_1_0 : w1.cell? ⟨w.heap.size, 0, none⟩ = some (.int .i64 k) := by rw [hq1]; simp
  have d_1_1 : w1.cell? ⟨w.heap.size, 1, none⟩ = some (.int .i64 wd) := by rw [hq1]; simp
  have m_1 : w.heap.size < w1.heap.size := by rw [hq1]; simp
  clear hq1
  have hw_2 := hw.below hb1
  have he_2 := he.below hb1
  have z_2 : Below w.heap.size w w1 := hb1
  clear hw he hb1
  refine (rweek_no _ w1 N.out).mono ?_; rintro e w3 ⟨rfl, hb3⟩
  have hw_4 := hw_2.below hb3
  have he_4 := he_2.below hb3
  have c_4_0 := (hb3.cell (p := ⟨w.heap.size, 0, none⟩) m_1).trans d_1_0
  have c_4_1 := (hb3.cell (p := ⟨w.heap.size, 1, none⟩) m_1).trans d_1_1
  have l_4_0 : w.heap.size < w3.heap.size := Nat.lt_of_lt_of_le m_1 hb3.size
  have z_4 : Below w.heap.size w w3 := z_2.trans (hb3.mono z_2.size)
  clear hw_2 he_2 d_1_0 d_1_1 m_1 z_2 hb3
  go_wp2_with fail
  refine (week_no _ w3 N.out).mono ?_; rintro e w5 ⟨rfl, hb5⟩
  have hw_6 := hw_4.below hb5
  have he_6 := he_4.below hb5
  have c_6_0 := (hb5.cell (p := ⟨w.heap.size, 0, none⟩) l_4_0).trans c_4_0
  have c_6_1 := (hb5.cell (p := ⟨w.heap.size, 1, none⟩) l_4_0).trans c_4_1
  have l_6_0 : w.heap.size < w5.heap.size := Nat.lt_of_lt_of_le l_4_0 hb5.size
  have z_6 : Below w.heap.size w w5 := z_4.trans (hb5.mono z_4.size)
  clear hw_4 he_4 c_4_0 c_4_1 l_4_0 z_4 hb5
  go_wp2_with fail
  refine ((error_no 1 1 w5 true he_6 (by decide) (by omega) (by omega))).mono ?_; rintro e w7 ⟨rfl, hb7⟩
  have hw_8 := hw_6.below hb7
  have he_8 := he_6.below hb7
  have c_8_0 := (hb7.cell (p := ⟨w.heap.size, 0, none⟩) l_6_0).trans c_6_0
  have c_8_1 := (hb7.cell (p := ⟨w.heap.size, 1, none⟩) l_6_0).trans c_6_1
  have l_8_0 : w.heap.size < w7.heap.size := Nat.lt_of_lt_of_le l_6_0 hb7.size
  have z_8 : Below w.heap.size w w7 := z_6.trans (hb7.mono z_6.size)
  clear hw_6 he_6 c_6_0 c_6_1 l_6_0 z_6 hb7
  go_wp2_with fail
  refine (rweeks_yes yr w7 g1 g2).mono ?_; rintro e w9 ⟨rfl, hb9⟩
  have hw_10 := hw_8.below hb9
  have he_10 := he_8.below hb9
  have c_10_0 := (hb9.cell (p := ⟨w.heap.size, 0, none⟩) l_8_0).trans c_8_0
  have c_10_1 := (hb9.cell (p := ⟨w.heap.size, 1, none⟩) l_8_0).trans c_8_1
  have l_10_0 : w.heap.size < w9.heap.size := Nat.lt_of_lt_of_le l_8_0 hb9.size
  have z_10 : Below w.heap.size w w9 := z_8.trans (hb9.mono z_8.size)
  clear hw_8 he_8 c_8_0 c_8_1 l_8_0 z_8 hb9
  go_wp2_with fail
  refine (weeks_yes yr w9 hw_10 g1 g2).mono ?_; rintro e w11 ⟨rfl, hb11⟩
  have hw_12 := hw_10.below hb11
  have he_12 := he_10.below hb11
  have c_12_0 := (hb11.cell (p := ⟨w.heap.size, 0, none⟩) l_10_0).trans c_10_0
  have c_12_1 := (hb11.cell (p := ⟨w.heap.size, 1, none⟩) l_10_0).trans c_10_1
  have l_12_0 : w.heap.size < w11.heap.size := Nat.lt_of_lt_of_le l_10_0 hb11.size
  have z_12 : Below w.heap.size w w11 := z_10.trans (hb11.mono z_10.size)
  clear hw_10 he_10 c_10_0 c_10_1 l_10_0 z_10 hb11
  go_wp2_with fail
  refine ((error_nil 0 w11 true (by decide))).mono ?_; rintro e w13 ⟨rfl, hb13⟩
  have hw_14 := hw_12.below hb13
  have he_14 := he_12.below hb13
  have c_14_0 := (hb13.cell (p := ⟨w.heap.size, 0, none⟩) l_12_0).trans c_12_0
  have c_14_1 := (hb13.cell (p := ⟨w.heap.size, 1, none⟩) l_12_0).trans c_12_1
  have l_14_0 : w.heap.size < w13.heap.size := Nat.lt_of_lt_of_le l_12_0 hb13.size
  have z_14 : Below w.heap.size w w13 := z_12.trans (hb13.mono z_12.size)
  clear hw_12 he_12 c_12_0 c_12_1 l_12_0 z_12 hb13
  go_wp2_with fail
  refine (rof_yes yr 1 4 w13 hj).mono ?_; rintro e w15 ⟨rfl, hb15⟩
  have hw_16 := hw_14.below hb15
  have he_16 := he_14.below hb15
  have c_16_0 := (hb15.cell (p := ⟨w.heap.size, 0, none⟩) l_14_0).trans c_14_0
  have c_16_1 := (hb15.cell (p := ⟨w.heap.size, 1, none⟩) l_14_0).trans c_14_1
  have l_16_0 : w.heap.size < w15.heap.size := Nat.lt_of_lt_of_le l_14_0 hb15.size
  have z_16 : Below w.heap.size w w15 := z_14.trans (hb15.mono z_14.size)
  clear hw_14 he_14 c_14_0 c_14_1 l_14_0 z_14 hb15
  go_wp2_with fail
  refine (rmonday_any _ w15 j1 (by omega)).mono ?_; rintro e w' ⟨rfl, rfl⟩
  rw [show Cal.mondayI (Cal.num yr 1 4) = Cal.wk1 yr from rfl]
  go_wp2_with fail
  refine (wfirst_yes yr wk w15 hw_16 g1 g2 g3 g4 hend).mono ?_; rintro e w17 ⟨rfl, hb17⟩
  have hw_18 := hw_16.below hb17
  have he_18 := he_16.below hb17
  have c_18_0 := (hb17.cell (p := ⟨w.heap.size, 0, none⟩) l_16_0).trans c_16_0
  have c_18_1 := (hb17.cell (p := ⟨w.heap.size, 1, none⟩) l_16_0).trans c_16_1
  have l_18_0 : w.heap.size < w17.heap.size := Nat.lt_of_lt_of_le l_16_0 hb17.size
  have z_18 : Below w.heap.size w w17 := z_16.trans (hb17.mono z_16.size)
  clear hw_16 he_16 c_16_0 c_16_1 l_16_0 z_16 hb17
  go_wp2_with fail
  refine ((error_nil 0 w17 true (by decide))).mono ?_; rintro e w19 ⟨rfl, hb19⟩
  have hw_20 := hw_18.below hb19
  have he_20 := he_18.below hb19
  have c_20_0 := (hb19.cell (p := ⟨w.heap.size, 0, none⟩) l_18_0).trans c_18_0
  have c_20_1 := (hb19.cell (p := ⟨w.heap.size, 1, none⟩) l_18_0).trans c_18_1
  have l_20_0 : w.heap.size < w19.heap.size := Nat.lt_of_lt_of_le l_18_0 hb19.size
  have z_20 : Below w.heap.size w w19 := z_18.trans (hb19.mono z_18.size)
  clear hw_18 he_18 c_18_0 c_18_1 l_18_0 z_18 hb19
  go_wp2_with fail
  refine (rnth_any yr mo k wd w19).mono ?_; rintro e w21 ⟨rfl, hb21⟩
  have hw_22 := hw_20.below hb21
  have he_22 := he_20.below hb21
  have c_22_0 := (hb21.cell (p := ⟨w.heap.size, 0, none⟩) l_20_0).trans c_20_0
  have c_22_1 := (hb21.cell (p := ⟨w.heap.size, 1, none⟩) l_20_0).trans c_20_1
  have l_22_0 : w.heap.size < w21.heap.size := Nat.lt_of_lt_of_le l_20_0 hb21.size
  have z_22 : Below w.heap.size w w21 := z_20.trans (hb21.mono z_20.size)
  clear hw_20 he_20 c_20_0 c_20_1 l_20_0 z_20 hb21
  go_wp2_with fail
  refine (nth_any yr mo k wd w21 hw_22).mono ?_; rintro e w23 ⟨rfl, hb23⟩
  have hw_24 := hw_22.below hb23
  have he_24 := he_22.below hb23
  have c_24_0 := (hb23.cell (p := ⟨w.heap.size, 0, none⟩) l_22_0).trans c_22_0
  have c_24_1 := (hb23.cell (p := ⟨w.heap.size, 1, none⟩) l_22_0).trans c_22_1
  have l_24_0 : w.heap.size < w23.heap.size := Nat.lt_of_lt_of_le l_22_0 hb23.size
  have z_24 : Below w.heap.size w w23 := z_22.trans (hb23.mono z_22.size)
  clear hw_22 he_22 c_22_0 c_22_1 l_22_0 z_22 hb23
  go_wp2_with fail
  refine (error_same _ w23 he_24).mono ?_; rintro e w25 ⟨rfl, hb25⟩
  have hw_26 := hw_24.below hb25
  have he_26 := he_24.below hb25
  have c_26_0 := (hb25.cell (p := ⟨w.heap.size, 0, none⟩) l_24_0).trans c_24_0
  have c_26_1 := (hb25.cell (p := ⟨w.heap.size, 1, none⟩) l_24_0).trans c_24_1
  have l_26_0 : w.heap.size < w25.heap.size := Nat.lt_of_lt_of_le l_24_0 hb25.size
  have z_26 : Below w.heap.size w w25 := z_24.trans (hb25.mono z_24.size)
  clear hw_24 he_24 c_24_0 c_24_1 l_24_0 z_24 hb25
  go_wp2_with fail
  refine (rdate_num y1 m1 d1 w25 h1).mono ?_; rintro e w27 ⟨rfl, hb27⟩
  have hw_28 := hw_26.below hb27
  have he_28 := he_26.below hb27
  have c_28_0 := (hb27.cell (p := ⟨w.heap.size, 0, none⟩) l_26_0).trans c_26_0
  have c_28_1 := (hb27.cell (p := ⟨w.heap.size, 1, none⟩) l_26_0).trans c_26_1
  have l_28_0 : w.heap.size < w27.heap.size := Nat.lt_of_lt_of_le l_26_0 hb27.size
  have z_28 : Below w.heap.size w w27 := z_26.trans (hb27.mono z_26.size)
  clear hw_26 he_26 c_26_0 c_26_1 l_26_0 z_26 hb27
  go_wp2_with fail
  have zsz := z_28.size
  obtain ⟨w29, hq29⟩ : ∃ x, x = (w27.alloc (.cells #[.int .i64 0, .int .i64 0] 38)).alloc (.cells #[.int .i64 0, .int .i64 0] 38) := ⟨_, rfl⟩
  rw [← hq29]
  have hb29 : Below w27.heap.size w27 w29 := by rw [hq29]; exact ((Below.refl _ _).alloc (Nat.le_refl _) _).alloc (by simp) _
  have d_29_0_0 : w29.cell? ⟨w27.heap.size, 0, none⟩ = some (.int .i64 0) := by rw [hq29]; simp
  have g_29_0_0 : w29.frozen? ⟨w27.heap.size, 0, none⟩ = false := by rw [hq29]; simp
  have d_29_0_1 : w29.cell? ⟨w27.heap.size, 1, none⟩ = some (.int .i64 0) := by rw [hq29]; simp
  have g_29_0_1 : w29.frozen? ⟨w27.heap.size, 1, none⟩ = false := by rw [hq29]; simp
  have m_29_0 : w27.heap.size < w29.heap.size := by rw [hq29]; simp; omega
  have d_29_1_0 : w29.cell? ⟨w27.heap.size + 1, 0, none⟩ = some (.int .i64 0) := by rw [hq29]; simp
  have g_29_1_0 : w29.frozen? ⟨w27.heap.size + 1, 0, none⟩ = false := by rw [hq29]; simp
  have d_29_1_1 : w29.cell? ⟨w27.heap.size + 1, 1, none⟩ = some (.int .i64 0) := by rw [hq29]; simp
  have g_29_1_1 : w29.frozen? ⟨w27.heap.size + 1, 1, none⟩ = false := by rw [hq29]; simp
  have m_29_1 : w27.heap.size + 1 < w29.heap.size := by rw [hq29]; simp
  clear hq29
  have hw_30 := hw_28.below hb29
  have he_30 := he_28.below hb29
  have c_30_0 := (hb29.cell (p := ⟨w.heap.size, 0, none⟩) l_28_0).trans c_28_0
  have c_30_1 := (hb29.cell (p := ⟨w.heap.size, 1, none⟩) l_28_0).trans c_28_1
  have l_30_0 : w.heap.size < w29.heap.size := Nat.lt_of_lt_of_le l_28_0 hb29.size
  have z_30 : Below w.heap.size w w29 := z_28.trans (hb29.mono z_28.size)
  clear hw_28 he_28 c_28_0 c_28_1 l_28_0 z_28 hb29
  refine (rends_any y1 m1 d1 w29 h1).mono ?_; rintro e w31 ⟨rfl, hb31⟩
  have hw_32 := hw_30.below hb31
  have he_32 := he_30.below hb31
  have c_32_0 := (hb31.cell (p := ⟨w.heap.size, 0, none⟩) l_30_0).trans c_30_0
  have c_32_1 := (hb31.cell (p := ⟨w.heap.size, 1, none⟩) l_30_0).trans c_30_1
  have c_32_2 := (hb31.cell (p := ⟨w27.heap.size, 0, none⟩) m_29_0).trans d_29_0_0
  have c_32_3 := (hb31.cell (p := ⟨w27.heap.size, 1, none⟩) m_29_0).trans d_29_0_1
  have c_32_4 := (hb31.cell (p := ⟨w27.heap.size + 1, 0, none⟩) m_29_1).trans d_29_1_0
  have c_32_5 := (hb31.cell (p := ⟨w27.heap.size + 1, 1, none⟩) m_29_1).trans d_29_1_1
  have f_32_0 := (hb31.frozen (p := ⟨w27.heap.size, 0, none⟩) m_29_0).trans g_29_0_0
  have f_32_1 := (hb31.frozen (p := ⟨w27.heap.size, 1, none⟩) m_29_0).trans g_29_0_1
  have f_32_2 := (hb31.frozen (p := ⟨w27.heap.size + 1, 0, none⟩) m_29_1).trans g_29_1_0
  have f_32_3 := (hb31.frozen (p := ⟨w27.heap.size + 1, 1, none⟩) m_29_1).trans g_29_1_1
  have l_32_0 : w.heap.size < w31.heap.size := Nat.lt_of_lt_of_le l_30_0 hb31.size
  have l_32_1 : w27.heap.size < w31.heap.size := Nat.lt_of_lt_of_le m_29_0 hb31.size
  have l_32_2 : w27.heap.size + 1 < w31.heap.size := Nat.lt_of_lt_of_le m_29_1 hb31.size
  have z_32 : Below w.heap.size w w31 := z_30.trans (hb31.mono z_30.size)
  clear hw_30 he_30 c_30_0 c_30_1 d_29_0_0 d_29_0_1 d_29_1_0 d_29_1_1 g_29_0_0 g_29_0_1 g_29_1_0 g_29_1_1 l_30_0 m_29_0 m_29_1 z_30 hb31
  go_wp2_with (go_at_call 31; refine (rweekday_any _ _ q1 (by omega)).mono ?_; rintro e w' ⟨rfl, rfl⟩)
  obtain ⟨w33, hwr, s0, s1, s2, s3, hsz, hbr⟩ := set4b (v0 := .int .i64 ((d1 - 1) / 7 + 1)) (v1 := .int .i64 ((Cal.num y1 m1 d1 - 1) % 7 + 1)) (v2 := .int .i64 (-((Cal.dim y1 m1 - d1) / 7 + 1))) (v3 := .int .i64 ((Cal.num y1 m1 d1 - 1) % 7 + 1)) (by omega) c_32_2 c_32_3 c_32_4 c_32_5
  rw [← hwr]
  have zB : Below w.heap.size w w33 := hbr _ _ z_32 (by omega) (by omega)
  have hwB := hwK.keep (B := w.heap.size) zB hwK.pos
  have heB := heK.below zB
  have l_32_0_n : w.heap.size < w33.heap.size := by rw [hsz]; exact l_32_0
  have l_32_1_n : w27.heap.size < w33.heap.size := by rw [hsz]; exact l_32_1
  have l_32_2_n : w27.heap.size + 1 < w33.heap.size := by rw [hsz]; exact l_32_2
  clear c_32_0 c_32_1 c_32_2 c_32_3 c_32_4 c_32_5 l_32_0 l_32_1 l_32_2 f_32_0 f_32_1 f_32_2 f_32_3 hw_32 he_32 z_32 hwr hbr hsz
  refine (which_yes y1 m1 d1 w33 hwB h1).mono ?_; rintro e w34 ⟨rfl, hb34⟩
  have hw_35 := hwB.below hb34
  have he_35 := heB.below hb34
  have c_35_0 := (hb34.cell (p := ⟨w27.heap.size, 0, none⟩) l_32_1_n).trans s0
  have c_35_1 := (hb34.cell (p := ⟨w27.heap.size, 1, none⟩) l_32_1_n).trans s1
  have c_35_2 := (hb34.cell (p := ⟨w27.heap.size + 1, 0, none⟩) l_32_2_n).trans s2
  have c_35_3 := (hb34.cell (p := ⟨w27.heap.size + 1, 1, none⟩) l_32_2_n).trans s3
  have l_35_0 : w.heap.size < w34.heap.size := Nat.lt_of_lt_of_le l_32_0_n hb34.size
  have l_35_1 : w27.heap.size < w34.heap.size := Nat.lt_of_lt_of_le l_32_1_n hb34.size
  have l_35_2 : w27.heap.size + 1 < w34.heap.size := Nat.lt_of_lt_of_le l_32_2_n hb34.size
  have z_35 : Below w.heap.size w w34 := zB.trans (hb34.mono zB.size)
  clear hwB heB s0 s1 s2 s3 l_32_0_n l_32_1_n l_32_2_n zB hb34
  go_wp2_with fail
  obtain ⟨w36, hq36⟩ : ∃ x, x = (w34.alloc (.cells #[.int .i64 ((d1 - 1) / 7 + 1), .int .i64 ((Cal.num y1 m1 d1 - 1) % 7 + 1)] 38)).alloc (.cells #[.int .i64 (-((Cal.dim y1 m1 - d1) / 7 + 1)), .int .i64 ((Cal.num y1 m1 d1 - 1) % 7 + 1)] 38) := ⟨_, rfl⟩
  rw [← hq36]
  have hb36 : Below w34.heap.size w34 w36 := by rw [hq36]; exact ((Below.refl _ _).alloc (Nat.le_refl _) _).alloc (by simp) _
  have d_36_0_0 : w36.cell? ⟨w34.heap.size, 0, none⟩ = some (.int .i64 ((d1 - 1) / 7 + 1)) := by rw [hq36]; simp
  have d_36_0_1 : w36.cell? ⟨w34.heap.size, 1, none⟩ = some (.int .i64 ((Cal.num y1 m1 d1 - 1) % 7 + 1)) := by rw [hq36]; simp
  have m_36_0 : w34.heap.size < w36.heap.size := by rw [hq36]; simp; omega
  have d_36_1_0 : w36.cell? ⟨w34.heap.size + 1, 0, none⟩ = some (.int .i64 (-((Cal.dim y1 m1 - d1) / 7 + 1))) := by rw [hq36]; simp
  have d_36_1_1 : w36.cell? ⟨w34.heap.size + 1, 1, none⟩ = some (.int .i64 ((Cal.num y1 m1 d1 - 1) % 7 + 1)) := by rw [hq36]; simp
  have m_36_1 : w34.heap.size + 1 < w36.heap.size := by rw [hq36]; simp
  clear hq36
  have hw_37 := hw_35.below hb36
  have he_37 := he_35.below hb36
  have c_37_0 := (hb36.cell (p := ⟨w27.heap.size, 0, none⟩) l_35_1).trans c_35_0
  have c_37_1 := (hb36.cell (p := ⟨w27.heap.size, 1, none⟩) l_35_1).trans c_35_1
  have c_37_2 := (hb36.cell (p := ⟨w27.heap.size + 1, 0, none⟩) l_35_2).trans c_35_2
  have c_37_3 := (hb36.cell (p := ⟨w27.heap.size + 1, 1, none⟩) l_35_2).trans c_35_3
  have l_37_0 : w.heap.size < w36.heap.size := Nat.lt_of_lt_of_le l_35_0 hb36.size
  have l_37_1 : w27.heap.size < w36.heap.size := Nat.lt_of_lt_of_le l_35_1 hb36.size
  have l_37_2 : w27.heap.size + 1 < w36.heap.size := Nat.lt_of_lt_of_le l_35_2 hb36.size
  have z_37 : Below w.heap.size w w36 := z_35.trans (hb36.mono z_35.size)
  clear hw_35 he_35 c_35_0 c_35_1 c_35_2 c_35_3 l_35_0 l_35_1 l_35_2 z_35 hb36
  refine ((error_nil 0 w36 true (by decide))).mono ?_; rintro e w38 ⟨rfl, hb38⟩
  have hw_39 := hw_37.below hb38
  have he_39 := he_37.below hb38
  have c_39_0 := (hb38.cell (p := ⟨w27.heap.size, 0, none⟩) l_37_1).trans c_37_0
  have c_39_1 := (hb38.cell (p := ⟨w27.heap.size, 1, none⟩) l_37_1).trans c_37_1
  have c_39_2 := (hb38.cell (p := ⟨w27.heap.size + 1, 0, none⟩) l_37_2).trans c_37_2
  have c_39_3 := (hb38.cell (p := ⟨w27.heap.size + 1, 1, none⟩) l_37_2).trans c_37_3
  have c_39_4 := (hb38.cell (p := ⟨w34.heap.size, 0, none⟩) m_36_0).trans d_36_0_0
  have c_39_5 := (hb38.cell (p := ⟨w34.heap.size, 1, none⟩) m_36_0).trans d_36_0_1
  have c_39_6 := (hb38.cell (p := ⟨w34.heap.size + 1, 0, none⟩) m_36_1).trans d_36_1_0
  have c_39_7 := (hb38.cell (p := ⟨w34.heap.size + 1, 1, none⟩) m_36_1).trans d_36_1_1
  have l_39_0 : w.heap.size < w38.heap.size := Nat.lt_of_lt_of_le l_37_0 hb38.size
  have l_39_1 : w27.heap.size < w38.heap.size := Nat.lt_of_lt_of_le l_37_1 hb38.size
  have l_39_2 : w27.heap.size + 1 < w38.heap.size := Nat.lt_of_lt_of_le l_37_2 hb38.size
  have l_39_3 : w34.heap.size < w38.heap.size := Nat.lt_of_lt_of_le m_36_0 hb38.size
  have l_39_4 : w34.heap.size + 1 < w38.heap.size := Nat.lt_of_lt_of_le m_36_1 hb38.size
  have z_39 : Below w.heap.size w w38 := z_37.trans (hb38.mono z_37.size)
  clear hw_37 he_37 c_37_0 c_37_1 c_37_2 c_37_3 d_36_0_0 d_36_0_1 d_36_1_0 d_36_1_1 l_37_0 l_37_1 l_37_2 m_36_0 m_36_1 z_37 hb38
  go_wp2
  go_ret
  exact ⟨rfl, z_39⟩

set_option maxRecDepth 100000 in
set_option maxHeartbeats 8000000 in
theorem weekTells_late_out (yr wk mo k wd y1 m1 d1 : Int) (w : World) (hw : Months w) (he : ErrT w) (h1 : Cal.dateB y1 m1 d1 = true) (hn : 109571 < Cal.num y1 m1 d1) (g1 : 1900 ≤ yr) (g2 : yr ≤ 2199) (g3 : wk < 1 ∨ Cal.weeksI yr < wk) :
    Calls Tryd.prog 4 #[.int .i64 (Cal.num y1 m1 d1), .int .i64 yr, .int .i64 wk, .int .i64 mo, .agg #[.int .i64 k, .int .i64 wd]] w fun e w' => e = .returned (.bool true) ∧ Below w.heap.size w w' := by
  have hwK := hw
  have heK := he
  obtain ⟨_, _, q1, q2⟩ := Cal.num_bd h1
  have hdb1 := Cal.dim_bd y1 m1
  have N := Lib.hid (show Cal.num y1 m1 d1 < 1 ∨ 109571 < Cal.num y1 m1 d1 from .inr hn); clear hn
  obtain ⟨c0, c1, _, _⟩ := Cal.wk1_bd g1 g2
  have ha := Cal.ahead_bd yr g1 (by omega)
  have hj := Cal.date_j4 g1 g2
  obtain ⟨_, _, j1, j2⟩ := Cal.num_bd hj
  obtain ⟨wl, wl2⟩ := Cal.weeks_len g1 g2
  have wl3 : 52 ≤ Cal.weeksI yr := by rcases wl with h | h <;> omega
  have wl4 : Cal.weeksI yr ≤ 53 := by rcases wl with h | h <;> omega
  have hm0 : (Cal.weeksI yr == 0) = false := by simp; omega
  have hwb : Cal.wk1 yr ≤ 109573 := by obtain ⟨_, _, k, _⟩ := Cal.wk1_bd g1 g2; have := Cal.ahead_bd yr g1 (by omega); omega
  clear wl wl2 ha
  go_enter Tryd.func4, Tryd.ntmps4
  go_wp2_with fail
  obtain ⟨w1, hq1⟩ : ∃ x, x = w.alloc (.cells #[.int .i64 k, .int .i64 wd] 38) := ⟨_, rfl⟩
  rw [← hq1]
  have hb1 : Below w.heap.size w w1 := by rw [hq1]; exact (Below.refl _ _).alloc (Nat.le_refl _) _
  have d_1_0 : w1.cell? ⟨w.heap.size, 0, none⟩ = some (.int .i64 k) := by rw [hq1]; simp
  have d_1_1 : w1.cell? ⟨w.heap.size, 1, none⟩ = some (.int .i64 wd) := by rw [hq1]; simp
  have m_1 : w.heap.size < w1.heap.size := by rw [hq1]; simp
  clear hq1
  have hw_2 := hw.below hb1
  have he_2 := he.below hb1
  have z_2 : Below w.heap.size w w1 := hb1
  clear hw he hb1
  refine (rweek_no _ w1 N.out).mono ?_; rintro e w3 ⟨rfl, hb3⟩
  have hw_4 := hw_2.below hb3
  have he_4 := he_2.below hb3
  have c_4_0 := (hb3.cell (p := ⟨w.heap.size, 0, none⟩) m_1).trans d_1_0
  have c_4_1 := (hb3.cell (p := ⟨w.heap.size, 1, none⟩) m_1).trans d_1_1
  have l_4_0 : w.heap.size < w3.heap.size := Nat.lt_of_lt_of_le m_1 hb3.size
  have z_4 : Below w.heap.size w w3 := z_2.trans (hb3.mono z_2.size)
  clear hw_2 he_2 d_1_0 d_1_1 m_1 z_2 hb3
  go_wp2_with fail
  refine (week_no _ w3 N.out).mono ?_; rintro e w5 ⟨rfl, hb5⟩
  have hw_6 := hw_4.below hb5
  have he_6 := he_4.below hb5
  have c_6_0 := (hb5.cell (p := ⟨w.heap.size, 0, none⟩) l_4_0).trans c_4_0
  have c_6_1 := (hb5.cell (p := ⟨w.heap.size, 1, none⟩) l_4_0).trans c_4_1
  have l_6_0 : w.heap.size < w5.heap.size := Nat.lt_of_lt_of_le l_4_0 hb5.size
  have z_6 : Below w.heap.size w w5 := z_4.trans (hb5.mono z_4.size)
  clear hw_4 he_4 c_4_0 c_4_1 l_4_0 z_4 hb5
  go_wp2_with fail
  refine ((error_no 1 1 w5 true he_6 (by decide) (by omega) (by omega))).mono ?_; rintro e w7 ⟨rfl, hb7⟩
  have hw_8 := hw_6.below hb7
  have he_8 := he_6.below hb7
  have c_8_0 := (hb7.cell (p := ⟨w.heap.size, 0, none⟩) l_6_0).trans c_6_0
  have c_8_1 := (hb7.cell (p := ⟨w.heap.size, 1, none⟩) l_6_0).trans c_6_1
  have l_8_0 : w.heap.size < w7.heap.size := Nat.lt_of_lt_of_le l_6_0 hb7.size
  have z_8 : Below w.heap.size w w7 := z_6.trans (hb7.mono z_6.size)
  clear hw_6 he_6 c_6_0 c_6_1 l_6_0 z_6 hb7
  go_wp2_with fail
  refine (rweeks_yes yr w7 g1 g2).mono ?_; rintro e w9 ⟨rfl, hb9⟩
  have hw_10 := hw_8.below hb9
  have he_10 := he_8.below hb9
  have c_10_0 := (hb9.cell (p := ⟨w.heap.size, 0, none⟩) l_8_0).trans c_8_0
  have c_10_1 := (hb9.cell (p := ⟨w.heap.size, 1, none⟩) l_8_0).trans c_8_1
  have l_10_0 : w.heap.size < w9.heap.size := Nat.lt_of_lt_of_le l_8_0 hb9.size
  have z_10 : Below w.heap.size w w9 := z_8.trans (hb9.mono z_8.size)
  clear hw_8 he_8 c_8_0 c_8_1 l_8_0 z_8 hb9
  go_wp2_with fail
  refine (weeks_yes yr w9 hw_10 g1 g2).mono ?_; rintro e w11 ⟨rfl, hb11⟩
  have hw_12 := hw_10.below hb11
  have he_12 := he_10.below hb11
  have c_12_0 := (hb11.cell (p := ⟨w.heap.size, 0, none⟩) l_10_0).trans c_10_0
  have c_12_1 := (hb11.cell (p := ⟨w.heap.size, 1, none⟩) l_10_0).trans c_10_1
  have l_12_0 : w.heap.size < w11.heap.size := Nat.lt_of_lt_of_le l_10_0 hb11.size
  have z_12 : Below w.heap.size w w11 := z_10.trans (hb11.mono z_10.size)
  clear hw_10 he_10 c_10_0 c_10_1 l_10_0 z_10 hb11
  go_wp2_with fail
  refine ((error_nil 0 w11 true (by decide))).mono ?_; rintro e w13 ⟨rfl, hb13⟩
  have hw_14 := hw_12.below hb13
  have he_14 := he_12.below hb13
  have c_14_0 := (hb13.cell (p := ⟨w.heap.size, 0, none⟩) l_12_0).trans c_12_0
  have c_14_1 := (hb13.cell (p := ⟨w.heap.size, 1, none⟩) l_12_0).trans c_12_1
  have l_14_0 : w.heap.size < w13.heap.size := Nat.lt_of_lt_of_le l_12_0 hb13.size
  have z_14 : Below w.heap.size w w13 := z_12.trans (hb13.mono z_12.size)
  clear hw_12 he_12 c_12_0 c_12_1 l_12_0 z_12 hb13
  go_wp2_with fail
  refine (rof_yes yr 1 4 w13 hj).mono ?_; rintro e w15 ⟨rfl, hb15⟩
  have hw_16 := hw_14.below hb15
  have he_16 := he_14.below hb15
  have c_16_0 := (hb15.cell (p := ⟨w.heap.size, 0, none⟩) l_14_0).trans c_14_0
  have c_16_1 := (hb15.cell (p := ⟨w.heap.size, 1, none⟩) l_14_0).trans c_14_1
  have l_16_0 : w.heap.size < w15.heap.size := Nat.lt_of_lt_of_le l_14_0 hb15.size
  have z_16 : Below w.heap.size w w15 := z_14.trans (hb15.mono z_14.size)
  clear hw_14 he_14 c_14_0 c_14_1 l_14_0 z_14 hb15
  go_wp2_with fail
  refine (rmonday_any _ w15 j1 (by omega)).mono ?_; rintro e w' ⟨rfl, rfl⟩
  rw [show Cal.mondayI (Cal.num yr 1 4) = Cal.wk1 yr from rfl]
  rcases g3 with g3 | g3
  all_goals
    go_wp2_with fail
    refine (wfirst_no yr wk w15 hw_16 (.inr (by omega))).mono ?_; rintro e w17 ⟨rfl, hb17⟩
    have hw_18 := hw_16.below hb17
    have he_18 := he_16.below hb17
    have c_18_0 := (hb17.cell (p := ⟨w.heap.size, 0, none⟩) l_16_0).trans c_16_0
    have c_18_1 := (hb17.cell (p := ⟨w.heap.size, 1, none⟩) l_16_0).trans c_16_1
    have l_18_0 : w.heap.size < w17.heap.size := Nat.lt_of_lt_of_le l_16_0 hb17.size
    have z_18 : Below w.heap.size w w17 := z_16.trans (hb17.mono z_16.size)
    clear hw_16 he_16 c_16_0 c_16_1 l_16_0 z_16 hb17
    go_wp2_with fail
    refine ((error_no 1 1 w17 true he_18 (by decide) (by omega) (by omega))).mono ?_; rintro e w19 ⟨rfl, hb19⟩
    have hw_20 := hw_18.below hb19
    have he_20 := he_18.below hb19
    have c_20_0 := (hb19.cell (p := ⟨w.heap.size, 0, none⟩) l_18_0).trans c_18_0
    have c_20_1 := (hb19.cell (p := ⟨w.heap.size, 1, none⟩) l_18_0).trans c_18_1
    have l_20_0 : w.heap.size < w19.heap.size := Nat.lt_of_lt_of_le l_18_0 hb19.size
    have z_20 : Below w.heap.size w w19 := z_18.trans (hb19.mono z_18.size)
    clear hw_18 he_18 c_18_0 c_18_1 l_18_0 z_18 hb19
    go_wp2_with fail
    refine (rnth_any yr mo k wd w19).mono ?_; rintro e w21 ⟨rfl, hb21⟩
    have hw_22 := hw_20.below hb21
    have he_22 := he_20.below hb21
    have c_22_0 := (hb21.cell (p := ⟨w.heap.size, 0, none⟩) l_20_0).trans c_20_0
    have c_22_1 := (hb21.cell (p := ⟨w.heap.size, 1, none⟩) l_20_0).trans c_20_1
    have l_22_0 : w.heap.size < w21.heap.size := Nat.lt_of_lt_of_le l_20_0 hb21.size
    have z_22 : Below w.heap.size w w21 := z_20.trans (hb21.mono z_20.size)
    clear hw_20 he_20 c_20_0 c_20_1 l_20_0 z_20 hb21
    go_wp2_with fail
    refine (nth_any yr mo k wd w21 hw_22).mono ?_; rintro e w23 ⟨rfl, hb23⟩
    have hw_24 := hw_22.below hb23
    have he_24 := he_22.below hb23
    have c_24_0 := (hb23.cell (p := ⟨w.heap.size, 0, none⟩) l_22_0).trans c_22_0
    have c_24_1 := (hb23.cell (p := ⟨w.heap.size, 1, none⟩) l_22_0).trans c_22_1
    have l_24_0 : w.heap.size < w23.heap.size := Nat.lt_of_lt_of_le l_22_0 hb23.size
    have z_24 : Below w.heap.size w w23 := z_22.trans (hb23.mono z_22.size)
    clear hw_22 he_22 c_22_0 c_22_1 l_22_0 z_22 hb23
    go_wp2_with fail
    refine (error_same _ w23 he_24).mono ?_; rintro e w25 ⟨rfl, hb25⟩
    have hw_26 := hw_24.below hb25
    have he_26 := he_24.below hb25
    have c_26_0 := (hb25.cell (p := ⟨w.heap.size, 0, none⟩) l_24_0).trans c_24_0
    have c_26_1 := (hb25.cell (p := ⟨w.heap.size, 1, none⟩) l_24_0).trans c_24_1
    have l_26_0 : w.heap.size < w25.heap.size := Nat.lt_of_lt_of_le l_24_0 hb25.size
    have z_26 : Below w.heap.size w w25 := z_24.trans (hb25.mono z_24.size)
    clear hw_24 he_24 c_24_0 c_24_1 l_24_0 z_24 hb25
    go_wp2_with fail
    refine (rdate_num y1 m1 d1 w25 h1).mono ?_; rintro e w27 ⟨rfl, hb27⟩
    have hw_28 := hw_26.below hb27
    have he_28 := he_26.below hb27
    have c_28_0 := (hb27.cell (p := ⟨w.heap.size, 0, none⟩) l_26_0).trans c_26_0
    have c_28_1 := (hb27.cell (p := ⟨w.heap.size, 1, none⟩) l_26_0).trans c_26_1
    have l_28_0 : w.heap.size < w27.heap.size := Nat.lt_of_lt_of_le l_26_0 hb27.size
    have z_28 : Below w.heap.size w w27 := z_26.trans (hb27.mono z_26.size)
    clear hw_26 he_26 c_26_0 c_26_1 l_26_0 z_26 hb27
    go_wp2_with fail
    have zsz := z_28.size
    obtain ⟨w29, hq29⟩ : ∃ x, x = (w27.alloc (.cells #[.int .i64 0, .int .i64 0] 38)).alloc (.cells #[.int .i64 0, .int .i64 0] 38) := ⟨_, rfl⟩
    rw [← hq29]
    have hb29 : Below w27.heap.size w27 w29 := by rw [hq29]; exact ((Below.refl _ _).alloc (Nat.le_refl _) _).alloc (by simp) _
    have d_29_0_0 : w29.cell? ⟨w27.heap.size, 0, none⟩ = some (.int .i64 0) := by rw [hq29]; simp
    have g_29_0_0 : w29.frozen? ⟨w27.heap.size, 0, none⟩ = false := by rw [hq29]; simp
    have d_29_0_1 : w29.cell? ⟨w27.heap.size, 1, none⟩ = some (.int .i64 0) := by rw [hq29]; simp
    have g_29_0_1 : w29.frozen? ⟨w27.heap.size, 1, none⟩ = false := by rw [hq29]; simp
    have m_29_0 : w27.heap.size < w29.heap.size := by rw [hq29]; simp; omega
    have d_29_1_0 : w29.cell? ⟨w27.heap.size + 1, 0, none⟩ = some (.int .i64 0) := by rw [hq29]; simp
    have g_29_1_0 : w29.frozen? ⟨w27.heap.size + 1, 0, none⟩ = false := by rw [hq29]; simp
    have d_29_1_1 : w29.cell? ⟨w27.heap.size + 1, 1, none⟩ = some (.int .i64 0) := by rw [hq29]; simp
    have g_29_1_1 : w29.frozen? ⟨w27.heap.size + 1, 1, none⟩ = false := by rw [hq29]; simp
    have m_29_1 : w27.heap.size + 1 < w29.heap.size := by rw [hq29]; simp
    clear hq29
    have hw_30 := hw_28.below hb29
    have he_30 := he_28.below hb29
    have c_30_0 := (hb29.cell (p := ⟨w.heap.size, 0, none⟩) l_28_0).trans c_28_0
    have c_30_1 := (hb29.cell (p := ⟨w.heap.size, 1, none⟩) l_28_0).trans c_28_1
    have l_30_0 : w.heap.size < w29.heap.size := Nat.lt_of_lt_of_le l_28_0 hb29.size
    have z_30 : Below w.heap.size w w29 := z_28.trans (hb29.mono z_28.size)
    clear hw_28 he_28 c_28_0 c_28_1 l_28_0 z_28 hb29
    refine (rends_any y1 m1 d1 w29 h1).mono ?_; rintro e w31 ⟨rfl, hb31⟩
    have hw_32 := hw_30.below hb31
    have he_32 := he_30.below hb31
    have c_32_0 := (hb31.cell (p := ⟨w.heap.size, 0, none⟩) l_30_0).trans c_30_0
    have c_32_1 := (hb31.cell (p := ⟨w.heap.size, 1, none⟩) l_30_0).trans c_30_1
    have c_32_2 := (hb31.cell (p := ⟨w27.heap.size, 0, none⟩) m_29_0).trans d_29_0_0
    have c_32_3 := (hb31.cell (p := ⟨w27.heap.size, 1, none⟩) m_29_0).trans d_29_0_1
    have c_32_4 := (hb31.cell (p := ⟨w27.heap.size + 1, 0, none⟩) m_29_1).trans d_29_1_0
    have c_32_5 := (hb31.cell (p := ⟨w27.heap.size + 1, 1, none⟩) m_29_1).trans d_29_1_1
    have f_32_0 := (hb31.frozen (p := ⟨w27.heap.size, 0, none⟩) m_29_0).trans g_29_0_0
    have f_32_1 := (hb31.frozen (p := ⟨w27.heap.size, 1, none⟩) m_29_0).trans g_29_0_1
    have f_32_2 := (hb31.frozen (p := ⟨w27.heap.size + 1, 0, none⟩) m_29_1).trans g_29_1_0
    have f_32_3 := (hb31.frozen (p := ⟨w27.heap.size + 1, 1, none⟩) m_29_1).trans g_29_1_1
    have l_32_0 : w.heap.size < w31.heap.size := Nat.lt_of_lt_of_le l_30_0 hb31.size
    have l_32_1 : w27.heap.size < w31.heap.size := Nat.lt_of_lt_of_le m_29_0 hb31.size
    have l_32_2 : w27.heap.size + 1 < w31.heap.size := Nat.lt_of_lt_of_le m_29_1 hb31.size
    have z_32 : Below w.heap.size w w31 := z_30.trans (hb31.mono z_30.size)
    clear hw_30 he_30 c_30_0 c_30_1 d_29_0_0 d_29_0_1 d_29_1_0 d_29_1_1 g_29_0_0 g_29_0_1 g_29_1_0 g_29_1_1 l_30_0 m_29_0 m_29_1 z_30 hb31
    go_wp2_with (go_at_call 31; refine (rweekday_any _ _ q1 (by omega)).mono ?_; rintro e w' ⟨rfl, rfl⟩)
    obtain ⟨w33, hwr, s0, s1, s2, s3, hsz, hbr⟩ := set4b (v0 := .int .i64 ((d1 - 1) / 7 + 1)) (v1 := .int .i64 ((Cal.num y1 m1 d1 - 1) % 7 + 1)) (v2 := .int .i64 (-((Cal.dim y1 m1 - d1) / 7 + 1))) (v3 := .int .i64 ((Cal.num y1 m1 d1 - 1) % 7 + 1)) (by omega) c_32_2 c_32_3 c_32_4 c_32_5
    rw [← hwr]
    have zB : Below w.heap.size w w33 := hbr _ _ z_32 (by omega) (by omega)
    have hwB := hwK.keep (B := w.heap.size) zB hwK.pos
    have heB := heK.below zB
    have l_32_0_n : w.heap.size < w33.heap.size := by rw [hsz]; exact l_32_0
    have l_32_1_n : w27.heap.size < w33.heap.size := by rw [hsz]; exact l_32_1
    have l_32_2_n : w27.heap.size + 1 < w33.heap.size := by rw [hsz]; exact l_32_2
    clear c_32_0 c_32_1 c_32_2 c_32_3 c_32_4 c_32_5 l_32_0 l_32_1 l_32_2 f_32_0 f_32_1 f_32_2 f_32_3 hw_32 he_32 z_32 hwr hbr hsz
    refine (which_yes y1 m1 d1 w33 hwB h1).mono ?_; rintro e w34 ⟨rfl, hb34⟩
    have hw_35 := hwB.below hb34
    have he_35 := heB.below hb34
    have c_35_0 := (hb34.cell (p := ⟨w27.heap.size, 0, none⟩) l_32_1_n).trans s0
    have c_35_1 := (hb34.cell (p := ⟨w27.heap.size, 1, none⟩) l_32_1_n).trans s1
    have c_35_2 := (hb34.cell (p := ⟨w27.heap.size + 1, 0, none⟩) l_32_2_n).trans s2
    have c_35_3 := (hb34.cell (p := ⟨w27.heap.size + 1, 1, none⟩) l_32_2_n).trans s3
    have l_35_0 : w.heap.size < w34.heap.size := Nat.lt_of_lt_of_le l_32_0_n hb34.size
    have l_35_1 : w27.heap.size < w34.heap.size := Nat.lt_of_lt_of_le l_32_1_n hb34.size
    have l_35_2 : w27.heap.size + 1 < w34.heap.size := Nat.lt_of_lt_of_le l_32_2_n hb34.size
    have z_35 : Below w.heap.size w w34 := zB.trans (hb34.mono zB.size)
    clear hwB heB s0 s1 s2 s3 l_32_0_n l_32_1_n l_32_2_n zB hb34
    go_wp2_with fail
    obtain ⟨w36, hq36⟩ : ∃ x, x = (w34.alloc (.cells #[.int .i64 ((d1 - 1) / 7 + 1), .int .i64 ((Cal.num y1 m1 d1 - 1) % 7 + 1)] 38)).alloc (.cells #[.int .i64 (-((Cal.dim y1 m1 - d1) / 7 + 1)), .int .i64 ((Cal.num y1 m1 d1 - 1) % 7 + 1)] 38) := ⟨_, rfl⟩
    rw [← hq36]
    have hb36 : Below w34.heap.size w34 w36 := by rw [hq36]; exact ((Below.refl _ _).alloc (Nat.le_refl _) _).alloc (by simp) _
    have d_36_0_0 : w36.cell? ⟨w34.heap.size, 0, none⟩ = some (.int .i64 ((d1 - 1) / 7 + 1)) := by rw [hq36]; simp
    have d_36_0_1 : w36.cell? ⟨w34.heap.size, 1, none⟩ = some (.int .i64 ((Cal.num y1 m1 d1 - 1) % 7 + 1)) := by rw [hq36]; simp
    have m_36_0 : w34.heap.size < w36.heap.size := by rw [hq36]; simp; omega
    have d_36_1_0 : w36.cell? ⟨w34.heap.size + 1, 0, none⟩ = some (.int .i64 (-((Cal.dim y1 m1 - d1) / 7 + 1))) := by rw [hq36]; simp
    have d_36_1_1 : w36.cell? ⟨w34.heap.size + 1, 1, none⟩ = some (.int .i64 ((Cal.num y1 m1 d1 - 1) % 7 + 1)) := by rw [hq36]; simp
    have m_36_1 : w34.heap.size + 1 < w36.heap.size := by rw [hq36]; simp
    clear hq36
    have hw_37 := hw_35.below hb36
    have he_37 := he_35.below hb36
    have c_37_0 := (hb36.cell (p := ⟨w27.heap.size, 0, none⟩) l_35_1).trans c_35_0
    have c_37_1 := (hb36.cell (p := ⟨w27.heap.size, 1, none⟩) l_35_1).trans c_35_1
    have c_37_2 := (hb36.cell (p := ⟨w27.heap.size + 1, 0, none⟩) l_35_2).trans c_35_2
    have c_37_3 := (hb36.cell (p := ⟨w27.heap.size + 1, 1, none⟩) l_35_2).trans c_35_3
    have l_37_0 : w.heap.size < w36.heap.size := Nat.lt_of_lt_of_le l_35_0 hb36.size
    have l_37_1 : w27.heap.size < w36.heap.size := Nat.lt_of_lt_of_le l_35_1 hb36.size
    have l_37_2 : w27.heap.size + 1 < w36.heap.size := Nat.lt_of_lt_of_le l_35_2 hb36.size
    have z_37 : Below w.heap.size w w36 := z_35.trans (hb36.mono z_35.size)
    clear hw_35 he_35 c_35_0 c_35_1 c_35_2 c_35_3 l_35_0 l_35_1 l_35_2 z_35 hb36
    refine ((error_nil 0 w36 true (by decide))).mono ?_; rintro e w38 ⟨rfl, hb38⟩
    have hw_39 := hw_37.below hb38
    have he_39 := he_37.below hb38
    have c_39_0 := (hb38.cell (p := ⟨w27.heap.size, 0, none⟩) l_37_1).trans c_37_0
    have c_39_1 := (hb38.cell (p := ⟨w27.heap.size, 1, none⟩) l_37_1).trans c_37_1
    have c_39_2 := (hb38.cell (p := ⟨w27.heap.size + 1, 0, none⟩) l_37_2).trans c_37_2
    have c_39_3 := (hb38.cell (p := ⟨w27.heap.size + 1, 1, none⟩) l_37_2).trans c_37_3
    have c_39_4 := (hb38.cell (p := ⟨w34.heap.size, 0, none⟩) m_36_0).trans d_36_0_0
    have c_39_5 := (hb38.cell (p := ⟨w34.heap.size, 1, none⟩) m_36_0).trans d_36_0_1
    have c_39_6 := (hb38.cell (p := ⟨w34.heap.size + 1, 0, none⟩) m_36_1).trans d_36_1_0
    have c_39_7 := (hb38.cell (p := ⟨w34.heap.size + 1, 1, none⟩) m_36_1).trans d_36_1_1
    have l_39_0 : w.heap.size < w38.heap.size := Nat.lt_of_lt_of_le l_37_0 hb38.size
    have l_39_1 : w27.heap.size < w38.heap.size := Nat.lt_of_lt_of_le l_37_1 hb38.size
    have l_39_2 : w27.heap.size + 1 < w38.heap.size := Nat.lt_of_lt_of_le l_37_2 hb38.size
    have l_39_3 : w34.heap.size < w38.heap.size := Nat.lt_of_lt_of_le m_36_0 hb38.size
    have l_39_4 : w34.heap.size + 1 < w38.heap.size := Nat.lt_of_lt_of_le m_36_1 hb38.size
    have z_39 : Below w.heap.size w w38 := z_37.trans (hb38.mono z_37.size)
    clear hw_37 he_37 c_37_0 c_37_1 c_37_2 c_37_3 d_36_0_0 d_36_0_1 d_36_1_0 d_36_1_1 l_37_0 l_37_1 l_37_2 m_36_0 m_36_1 z_37 hb38
    go_wp2
    go_ret
    exact ⟨rfl, z_39⟩

set_option maxRecDepth 100000 in
set_option maxHeartbeats 8000000 in
theorem weekTells_none_bad (yr wk mo k wd n : Int) (w : World) (hw : Months w) (he : ErrT w) (hn : n < 1 ∨ 109573 < n) (hy : yr < 1900 ∨ 2199 < yr) :
    Calls Tryd.prog 4 #[.int .i64 n, .int .i64 yr, .int .i64 wk, .int .i64 mo, .agg #[.int .i64 k, .int .i64 wd]] w fun e w' => e = .returned (.bool true) ∧ Below w.heap.size w w' := by
  go_enter Tryd.func4, Tryd.ntmps4
  go_wp2_with fail
  obtain ⟨w1, hq1⟩ : ∃ x, x = w.alloc (.cells #[.int .i64 k, .int .i64 wd] 38) := ⟨_, rfl⟩
  rw [← hq1]
  have hb1 : Below w.heap.size w w1 := by rw [hq1]; exact (Below.refl _ _).alloc (Nat.le_refl _) _
  have d_1_0 : w1.cell? ⟨w.heap.size, 0, none⟩ = some (.int .i64 k) := by rw [hq1]; simp
  have d_1_1 : w1.cell? ⟨w.heap.size, 1, none⟩ = some (.int .i64 wd) := by rw [hq1]; simp
  have m_1 : w.heap.size < w1.heap.size := by rw [hq1]; simp
  clear hq1
  have hw_2 := hw.below hb1
  have he_2 := he.below hb1
  have z_2 : Below w.heap.size w w1 := hb1
  clear hw he hb1
  refine (rweek_no n w1 (by omega)).mono ?_; rintro e w3 ⟨rfl, hb3⟩
  have hw_4 := hw_2.below hb3
  have he_4 := he_2.below hb3
  have c_4_0 := (hb3.cell (p := ⟨w.heap.size, 0, none⟩) m_1).trans d_1_0
  have c_4_1 := (hb3.cell (p := ⟨w.heap.size, 1, none⟩) m_1).trans d_1_1
  have l_4_0 : w.heap.size < w3.heap.size := Nat.lt_of_lt_of_le m_1 hb3.size
  have z_4 : Below w.heap.size w w3 := z_2.trans (hb3.mono z_2.size)
  clear hw_2 he_2 d_1_0 d_1_1 m_1 z_2 hb3
  go_wp2_with fail
  refine (week_no n w3 (by omega)).mono ?_; rintro e w5 ⟨rfl, hb5⟩
  have hw_6 := hw_4.below hb5
  have he_6 := he_4.below hb5
  have c_6_0 := (hb5.cell (p := ⟨w.heap.size, 0, none⟩) l_4_0).trans c_4_0
  have c_6_1 := (hb5.cell (p := ⟨w.heap.size, 1, none⟩) l_4_0).trans c_4_1
  have l_6_0 : w.heap.size < w5.heap.size := Nat.lt_of_lt_of_le l_4_0 hb5.size
  have z_6 : Below w.heap.size w w5 := z_4.trans (hb5.mono z_4.size)
  clear hw_4 he_4 c_4_0 c_4_1 l_4_0 z_4 hb5
  go_wp2_with fail
  refine ((error_no 1 1 w5 true he_6 (by decide) (by omega) (by omega))).mono ?_; rintro e w7 ⟨rfl, hb7⟩
  have hw_8 := hw_6.below hb7
  have he_8 := he_6.below hb7
  have c_8_0 := (hb7.cell (p := ⟨w.heap.size, 0, none⟩) l_6_0).trans c_6_0
  have c_8_1 := (hb7.cell (p := ⟨w.heap.size, 1, none⟩) l_6_0).trans c_6_1
  have l_8_0 : w.heap.size < w7.heap.size := Nat.lt_of_lt_of_le l_6_0 hb7.size
  have z_8 : Below w.heap.size w w7 := z_6.trans (hb7.mono z_6.size)
  clear hw_6 he_6 c_6_0 c_6_1 l_6_0 z_6 hb7
  go_wp2_with fail
  refine (rweeks_no yr w7 hy).mono ?_; rintro e w9 ⟨rfl, hb9⟩
  have hw_10 := hw_8.below hb9
  have he_10 := he_8.below hb9
  have c_10_0 := (hb9.cell (p := ⟨w.heap.size, 0, none⟩) l_8_0).trans c_8_0
  have c_10_1 := (hb9.cell (p := ⟨w.heap.size, 1, none⟩) l_8_0).trans c_8_1
  have l_10_0 : w.heap.size < w9.heap.size := Nat.lt_of_lt_of_le l_8_0 hb9.size
  have z_10 : Below w.heap.size w w9 := z_8.trans (hb9.mono z_8.size)
  clear hw_8 he_8 c_8_0 c_8_1 l_8_0 z_8 hb9
  go_wp2_with fail
  refine (weeks_no yr w9 hw_10 hy).mono ?_; rintro e w11 ⟨rfl, hb11⟩
  have hw_12 := hw_10.below hb11
  have he_12 := he_10.below hb11
  have c_12_0 := (hb11.cell (p := ⟨w.heap.size, 0, none⟩) l_10_0).trans c_10_0
  have c_12_1 := (hb11.cell (p := ⟨w.heap.size, 1, none⟩) l_10_0).trans c_10_1
  have l_12_0 : w.heap.size < w11.heap.size := Nat.lt_of_lt_of_le l_10_0 hb11.size
  have z_12 : Below w.heap.size w w11 := z_10.trans (hb11.mono z_10.size)
  clear hw_10 he_10 c_10_0 c_10_1 l_10_0 z_10 hb11
  go_wp2_with fail
  refine ((error_no 1 1 w11 true he_12 (by decide) (by omega) (by omega))).mono ?_; rintro e w13 ⟨rfl, hb13⟩
  have hw_14 := hw_12.below hb13
  have he_14 := he_12.below hb13
  have c_14_0 := (hb13.cell (p := ⟨w.heap.size, 0, none⟩) l_12_0).trans c_12_0
  have c_14_1 := (hb13.cell (p := ⟨w.heap.size, 1, none⟩) l_12_0).trans c_12_1
  have l_14_0 : w.heap.size < w13.heap.size := Nat.lt_of_lt_of_le l_12_0 hb13.size
  have z_14 : Below w.heap.size w w13 := z_12.trans (hb13.mono z_12.size)
  clear hw_12 he_12 c_12_0 c_12_1 l_12_0 z_12 hb13
  go_wp2_with fail
  refine (wfirst_no yr wk w13 hw_14 (.inl hy)).mono ?_; rintro e w15 ⟨rfl, hb15⟩
  have hw_16 := hw_14.below hb15
  have he_16 := he_14.below hb15
  have c_16_0 := (hb15.cell (p := ⟨w.heap.size, 0, none⟩) l_14_0).trans c_14_0
  have c_16_1 := (hb15.cell (p := ⟨w.heap.size, 1, none⟩) l_14_0).trans c_14_1
  have l_16_0 : w.heap.size < w15.heap.size := Nat.lt_of_lt_of_le l_14_0 hb15.size
  have z_16 : Below w.heap.size w w15 := z_14.trans (hb15.mono z_14.size)
  clear hw_14 he_14 c_14_0 c_14_1 l_14_0 z_14 hb15
  go_wp2_with fail
  refine ((error_no 1 1 w15 true he_16 (by decide) (by omega) (by omega))).mono ?_; rintro e w17 ⟨rfl, hb17⟩
  have hw_18 := hw_16.below hb17
  have he_18 := he_16.below hb17
  have c_18_0 := (hb17.cell (p := ⟨w.heap.size, 0, none⟩) l_16_0).trans c_16_0
  have c_18_1 := (hb17.cell (p := ⟨w.heap.size, 1, none⟩) l_16_0).trans c_16_1
  have l_18_0 : w.heap.size < w17.heap.size := Nat.lt_of_lt_of_le l_16_0 hb17.size
  have z_18 : Below w.heap.size w w17 := z_16.trans (hb17.mono z_16.size)
  clear hw_16 he_16 c_16_0 c_16_1 l_16_0 z_16 hb17
  go_wp2_with fail
  refine (rnth_any yr mo k wd w17).mono ?_; rintro e w19 ⟨rfl, hb19⟩
  have hw_20 := hw_18.below hb19
  have he_20 := he_18.below hb19
  have c_20_0 := (hb19.cell (p := ⟨w.heap.size, 0, none⟩) l_18_0).trans c_18_0
  have c_20_1 := (hb19.cell (p := ⟨w.heap.size, 1, none⟩) l_18_0).trans c_18_1
  have l_20_0 : w.heap.size < w19.heap.size := Nat.lt_of_lt_of_le l_18_0 hb19.size
  have z_20 : Below w.heap.size w w19 := z_18.trans (hb19.mono z_18.size)
  clear hw_18 he_18 c_18_0 c_18_1 l_18_0 z_18 hb19
  go_wp2_with fail
  refine (nth_any yr mo k wd w19 hw_20).mono ?_; rintro e w21 ⟨rfl, hb21⟩
  have hw_22 := hw_20.below hb21
  have he_22 := he_20.below hb21
  have c_22_0 := (hb21.cell (p := ⟨w.heap.size, 0, none⟩) l_20_0).trans c_20_0
  have c_22_1 := (hb21.cell (p := ⟨w.heap.size, 1, none⟩) l_20_0).trans c_20_1
  have l_22_0 : w.heap.size < w21.heap.size := Nat.lt_of_lt_of_le l_20_0 hb21.size
  have z_22 : Below w.heap.size w w21 := z_20.trans (hb21.mono z_20.size)
  clear hw_20 he_20 c_20_0 c_20_1 l_20_0 z_20 hb21
  go_wp2_with fail
  refine (error_same _ w21 he_22).mono ?_; rintro e w23 ⟨rfl, hb23⟩
  have hw_24 := hw_22.below hb23
  have he_24 := he_22.below hb23
  have c_24_0 := (hb23.cell (p := ⟨w.heap.size, 0, none⟩) l_22_0).trans c_22_0
  have c_24_1 := (hb23.cell (p := ⟨w.heap.size, 1, none⟩) l_22_0).trans c_22_1
  have l_24_0 : w.heap.size < w23.heap.size := Nat.lt_of_lt_of_le l_22_0 hb23.size
  have z_24 : Below w.heap.size w w23 := z_22.trans (hb23.mono z_22.size)
  clear hw_22 he_22 c_22_0 c_22_1 l_22_0 z_22 hb23
  go_wp2_with fail
  refine (rdate_no n w23 hn).mono ?_; rintro e w25 ⟨rfl, hb25⟩
  have hw_26 := hw_24.below hb25
  have he_26 := he_24.below hb25
  have c_26_0 := (hb25.cell (p := ⟨w.heap.size, 0, none⟩) l_24_0).trans c_24_0
  have c_26_1 := (hb25.cell (p := ⟨w.heap.size, 1, none⟩) l_24_0).trans c_24_1
  have l_26_0 : w.heap.size < w25.heap.size := Nat.lt_of_lt_of_le l_24_0 hb25.size
  have z_26 : Below w.heap.size w w25 := z_24.trans (hb25.mono z_24.size)
  clear hw_24 he_24 c_24_0 c_24_1 l_24_0 z_24 hb25
  go_wp2_with fail
  obtain ⟨w27, hq27⟩ : ∃ x, x = (w25.alloc (.cells #[.int .i64 0, .int .i64 0] 38)).alloc (.cells #[.int .i64 0, .int .i64 0] 38) := ⟨_, rfl⟩
  rw [← hq27]
  have hb27 : Below w25.heap.size w25 w27 := by rw [hq27]; exact ((Below.refl _ _).alloc (Nat.le_refl _) _).alloc (by simp) _
  have d_27_0_0 : w27.cell? ⟨w25.heap.size, 0, none⟩ = some (.int .i64 0) := by rw [hq27]; simp
  have d_27_0_1 : w27.cell? ⟨w25.heap.size, 1, none⟩ = some (.int .i64 0) := by rw [hq27]; simp
  have m_27_0 : w25.heap.size < w27.heap.size := by rw [hq27]; simp; omega
  have d_27_1_0 : w27.cell? ⟨w25.heap.size + 1, 0, none⟩ = some (.int .i64 0) := by rw [hq27]; simp
  have d_27_1_1 : w27.cell? ⟨w25.heap.size + 1, 1, none⟩ = some (.int .i64 0) := by rw [hq27]; simp
  have m_27_1 : w25.heap.size + 1 < w27.heap.size := by rw [hq27]; simp
  clear hq27
  have hw_28 := hw_26.below hb27
  have he_28 := he_26.below hb27
  have c_28_0 := (hb27.cell (p := ⟨w.heap.size, 0, none⟩) l_26_0).trans c_26_0
  have c_28_1 := (hb27.cell (p := ⟨w.heap.size, 1, none⟩) l_26_0).trans c_26_1
  have l_28_0 : w.heap.size < w27.heap.size := Nat.lt_of_lt_of_le l_26_0 hb27.size
  have z_28 : Below w.heap.size w w27 := z_26.trans (hb27.mono z_26.size)
  clear hw_26 he_26 c_26_0 c_26_1 l_26_0 z_26 hb27
  refine (which_no n w27 hn).mono ?_; rintro e w29 ⟨rfl, hb29⟩
  have hw_30 := hw_28.below hb29
  have he_30 := he_28.below hb29
  have c_30_0 := (hb29.cell (p := ⟨w.heap.size, 0, none⟩) l_28_0).trans c_28_0
  have c_30_1 := (hb29.cell (p := ⟨w.heap.size, 1, none⟩) l_28_0).trans c_28_1
  have c_30_2 := (hb29.cell (p := ⟨w25.heap.size, 0, none⟩) m_27_0).trans d_27_0_0
  have c_30_3 := (hb29.cell (p := ⟨w25.heap.size, 1, none⟩) m_27_0).trans d_27_0_1
  have c_30_4 := (hb29.cell (p := ⟨w25.heap.size + 1, 0, none⟩) m_27_1).trans d_27_1_0
  have c_30_5 := (hb29.cell (p := ⟨w25.heap.size + 1, 1, none⟩) m_27_1).trans d_27_1_1
  have l_30_0 : w.heap.size < w29.heap.size := Nat.lt_of_lt_of_le l_28_0 hb29.size
  have l_30_1 : w25.heap.size < w29.heap.size := Nat.lt_of_lt_of_le m_27_0 hb29.size
  have l_30_2 : w25.heap.size + 1 < w29.heap.size := Nat.lt_of_lt_of_le m_27_1 hb29.size
  have z_30 : Below w.heap.size w w29 := z_28.trans (hb29.mono z_28.size)
  clear hw_28 he_28 c_28_0 c_28_1 d_27_0_0 d_27_0_1 d_27_1_0 d_27_1_1 l_28_0 m_27_0 m_27_1 z_28 hb29
  go_wp2_with fail
  obtain ⟨w31, hq31⟩ : ∃ x, x = (w29.alloc (.cells #[.int .i64 0, .int .i64 0] 38)).alloc (.cells #[.int .i64 0, .int .i64 0] 38) := ⟨_, rfl⟩
  rw [← hq31]
  have hb31 : Below w29.heap.size w29 w31 := by rw [hq31]; exact ((Below.refl _ _).alloc (Nat.le_refl _) _).alloc (by simp) _
  have d_31_0_0 : w31.cell? ⟨w29.heap.size, 0, none⟩ = some (.int .i64 0) := by rw [hq31]; simp
  have d_31_0_1 : w31.cell? ⟨w29.heap.size, 1, none⟩ = some (.int .i64 0) := by rw [hq31]; simp
  have m_31_0 : w29.heap.size < w31.heap.size := by rw [hq31]; simp; omega
  have d_31_1_0 : w31.cell? ⟨w29.heap.size + 1, 0, none⟩ = some (.int .i64 0) := by rw [hq31]; simp
  have d_31_1_1 : w31.cell? ⟨w29.heap.size + 1, 1, none⟩ = some (.int .i64 0) := by rw [hq31]; simp
  have m_31_1 : w29.heap.size + 1 < w31.heap.size := by rw [hq31]; simp
  clear hq31
  have hw_32 := hw_30.below hb31
  have he_32 := he_30.below hb31
  have c_32_0 := (hb31.cell (p := ⟨w.heap.size, 0, none⟩) l_30_0).trans c_30_0
  have c_32_1 := (hb31.cell (p := ⟨w.heap.size, 1, none⟩) l_30_0).trans c_30_1
  have c_32_2 := (hb31.cell (p := ⟨w25.heap.size, 0, none⟩) l_30_1).trans c_30_2
  have c_32_3 := (hb31.cell (p := ⟨w25.heap.size, 1, none⟩) l_30_1).trans c_30_3
  have c_32_4 := (hb31.cell (p := ⟨w25.heap.size + 1, 0, none⟩) l_30_2).trans c_30_4
  have c_32_5 := (hb31.cell (p := ⟨w25.heap.size + 1, 1, none⟩) l_30_2).trans c_30_5
  have l_32_0 : w.heap.size < w31.heap.size := Nat.lt_of_lt_of_le l_30_0 hb31.size
  have l_32_1 : w25.heap.size < w31.heap.size := Nat.lt_of_lt_of_le l_30_1 hb31.size
  have l_32_2 : w25.heap.size + 1 < w31.heap.size := Nat.lt_of_lt_of_le l_30_2 hb31.size
  have z_32 : Below w.heap.size w w31 := z_30.trans (hb31.mono z_30.size)
  clear hw_30 he_30 c_30_0 c_30_1 c_30_2 c_30_3 c_30_4 c_30_5 l_30_0 l_30_1 l_30_2 z_30 hb31
  refine ((error_no 1 1 w31 true he_32 (by decide) (by omega) (by omega))).mono ?_; rintro e w33 ⟨rfl, hb33⟩
  have hw_34 := hw_32.below hb33
  have he_34 := he_32.below hb33
  have c_34_0 := (hb33.cell (p := ⟨w.heap.size, 0, none⟩) l_32_0).trans c_32_0
  have c_34_1 := (hb33.cell (p := ⟨w.heap.size, 1, none⟩) l_32_0).trans c_32_1
  have c_34_2 := (hb33.cell (p := ⟨w25.heap.size, 0, none⟩) l_32_1).trans c_32_2
  have c_34_3 := (hb33.cell (p := ⟨w25.heap.size, 1, none⟩) l_32_1).trans c_32_3
  have c_34_4 := (hb33.cell (p := ⟨w25.heap.size + 1, 0, none⟩) l_32_2).trans c_32_4
  have c_34_5 := (hb33.cell (p := ⟨w25.heap.size + 1, 1, none⟩) l_32_2).trans c_32_5
  have c_34_6 := (hb33.cell (p := ⟨w29.heap.size, 0, none⟩) m_31_0).trans d_31_0_0
  have c_34_7 := (hb33.cell (p := ⟨w29.heap.size, 1, none⟩) m_31_0).trans d_31_0_1
  have c_34_8 := (hb33.cell (p := ⟨w29.heap.size + 1, 0, none⟩) m_31_1).trans d_31_1_0
  have c_34_9 := (hb33.cell (p := ⟨w29.heap.size + 1, 1, none⟩) m_31_1).trans d_31_1_1
  have l_34_0 : w.heap.size < w33.heap.size := Nat.lt_of_lt_of_le l_32_0 hb33.size
  have l_34_1 : w25.heap.size < w33.heap.size := Nat.lt_of_lt_of_le l_32_1 hb33.size
  have l_34_2 : w25.heap.size + 1 < w33.heap.size := Nat.lt_of_lt_of_le l_32_2 hb33.size
  have l_34_3 : w29.heap.size < w33.heap.size := Nat.lt_of_lt_of_le m_31_0 hb33.size
  have l_34_4 : w29.heap.size + 1 < w33.heap.size := Nat.lt_of_lt_of_le m_31_1 hb33.size
  have z_34 : Below w.heap.size w w33 := z_32.trans (hb33.mono z_32.size)
  clear hw_32 he_32 c_32_0 c_32_1 c_32_2 c_32_3 c_32_4 c_32_5 d_31_0_0 d_31_0_1 d_31_1_0 d_31_1_1 l_32_0 l_32_1 l_32_2 m_31_0 m_31_1 z_32 hb33
  go_wp2
  go_ret
  exact ⟨rfl, z_34⟩

set_option maxRecDepth 100000 in
set_option maxHeartbeats 8000000 in
theorem weekTells_none_in (yr wk mo k wd n : Int) (w : World) (hw : Months w) (he : ErrT w) (hn : n < 1 ∨ 109573 < n) (g1 : 1900 ≤ yr) (g2 : yr ≤ 2199) (g3 : 1 ≤ wk) (g4 : wk ≤ Cal.weeksI yr) :
    Calls Tryd.prog 4 #[.int .i64 n, .int .i64 yr, .int .i64 wk, .int .i64 mo, .agg #[.int .i64 k, .int .i64 wd]] w fun e w' => e = .returned (.bool true) ∧ Below w.heap.size w w' := by
  obtain ⟨c0, c1, _, _⟩ := Cal.wk1_bd g1 g2
  have ha := Cal.ahead_bd yr g1 (by omega)
  have hj := Cal.date_j4 g1 g2
  obtain ⟨_, _, j1, j2⟩ := Cal.num_bd hj
  obtain ⟨wl, wl2⟩ := Cal.weeks_len g1 g2
  have wl3 : 52 ≤ Cal.weeksI yr := by rcases wl with h | h <;> omega
  have wl4 : Cal.weeksI yr ≤ 53 := by rcases wl with h | h <;> omega
  have hm0 : (Cal.weeksI yr == 0) = false := by simp; omega
  have hwb : Cal.wk1 yr ≤ 109573 := by obtain ⟨_, _, k, _⟩ := Cal.wk1_bd g1 g2; have := Cal.ahead_bd yr g1 (by omega); omega
  have hend : Cal.wk1 yr + (wk - 1) * 7 ≤ 109573 := week_fits g1 g2 g4
  clear wl wl2 ha
  go_enter Tryd.func4, Tryd.ntmps4
  go_wp2_with fail
  obtain ⟨w1, hq1⟩ : ∃ x, x = w.alloc (.cells #[.int .i64 k, .int .i64 wd] 38) := ⟨_, rfl⟩
  rw [← hq1]
  have hb1 : Below w.heap.size w w1 := by rw [hq1]; exact (Below.refl _ _).alloc (Nat.le_refl _) _
  have d_1_0 : w1.cell? ⟨w.heap.size, 0, none⟩ = some (.int .i64 k) := by rw [hq1]; simp
  have d_1_1 : w1.cell? ⟨w.heap.size, 1, none⟩ = some (.int .i64 wd) := by rw [hq1]; simp
  have m_1 : w.heap.size < w1.heap.size := by rw [hq1]; simp
  clear hq1
  have hw_2 := hw.below hb1
  have he_2 := he.below hb1
  have z_2 : Below w.heap.size w w1 := hb1
  clear hw he hb1
  refine (rweek_no n w1 (by omega)).mono ?_; rintro e w3 ⟨rfl, hb3⟩
  have hw_4 := hw_2.below hb3
  have he_4 := he_2.below hb3
  have c_4_0 := (hb3.cell (p := ⟨w.heap.size, 0, none⟩) m_1).trans d_1_0
  have c_4_1 := (hb3.cell (p := ⟨w.heap.size, 1, none⟩) m_1).trans d_1_1
  have l_4_0 : w.heap.size < w3.heap.size := Nat.lt_of_lt_of_le m_1 hb3.size
  have z_4 : Below w.heap.size w w3 := z_2.trans (hb3.mono z_2.size)
  clear hw_2 he_2 d_1_0 d_1_1 m_1 z_2 hb3
  go_wp2_with fail
  refine (week_no n w3 (by omega)).mono ?_; rintro e w5 ⟨rfl, hb5⟩
  have hw_6 := hw_4.below hb5
  have he_6 := he_4.below hb5
  have c_6_0 := (hb5.cell (p := ⟨w.heap.size, 0, none⟩) l_4_0).trans c_4_0
  have c_6_1 := (hb5.cell (p := ⟨w.heap.size, 1, none⟩) l_4_0).trans c_4_1
  have l_6_0 : w.heap.size < w5.heap.size := Nat.lt_of_lt_of_le l_4_0 hb5.size
  have z_6 : Below w.heap.size w w5 := z_4.trans (hb5.mono z_4.size)
  clear hw_4 he_4 c_4_0 c_4_1 l_4_0 z_4 hb5
  go_wp2_with fail
  refine ((error_no 1 1 w5 true he_6 (by decide) (by omega) (by omega))).mono ?_; rintro e w7 ⟨rfl, hb7⟩
  have hw_8 := hw_6.below hb7
  have he_8 := he_6.below hb7
  have c_8_0 := (hb7.cell (p := ⟨w.heap.size, 0, none⟩) l_6_0).trans c_6_0
  have c_8_1 := (hb7.cell (p := ⟨w.heap.size, 1, none⟩) l_6_0).trans c_6_1
  have l_8_0 : w.heap.size < w7.heap.size := Nat.lt_of_lt_of_le l_6_0 hb7.size
  have z_8 : Below w.heap.size w w7 := z_6.trans (hb7.mono z_6.size)
  clear hw_6 he_6 c_6_0 c_6_1 l_6_0 z_6 hb7
  go_wp2_with fail
  refine (rweeks_yes yr w7 g1 g2).mono ?_; rintro e w9 ⟨rfl, hb9⟩
  have hw_10 := hw_8.below hb9
  have he_10 := he_8.below hb9
  have c_10_0 := (hb9.cell (p := ⟨w.heap.size, 0, none⟩) l_8_0).trans c_8_0
  have c_10_1 := (hb9.cell (p := ⟨w.heap.size, 1, none⟩) l_8_0).trans c_8_1
  have l_10_0 : w.heap.size < w9.heap.size := Nat.lt_of_lt_of_le l_8_0 hb9.size
  have z_10 : Below w.heap.size w w9 := z_8.trans (hb9.mono z_8.size)
  clear hw_8 he_8 c_8_0 c_8_1 l_8_0 z_8 hb9
  go_wp2_with fail
  refine (weeks_yes yr w9 hw_10 g1 g2).mono ?_; rintro e w11 ⟨rfl, hb11⟩
  have hw_12 := hw_10.below hb11
  have he_12 := he_10.below hb11
  have c_12_0 := (hb11.cell (p := ⟨w.heap.size, 0, none⟩) l_10_0).trans c_10_0
  have c_12_1 := (hb11.cell (p := ⟨w.heap.size, 1, none⟩) l_10_0).trans c_10_1
  have l_12_0 : w.heap.size < w11.heap.size := Nat.lt_of_lt_of_le l_10_0 hb11.size
  have z_12 : Below w.heap.size w w11 := z_10.trans (hb11.mono z_10.size)
  clear hw_10 he_10 c_10_0 c_10_1 l_10_0 z_10 hb11
  go_wp2_with fail
  refine ((error_nil 0 w11 true (by decide))).mono ?_; rintro e w13 ⟨rfl, hb13⟩
  have hw_14 := hw_12.below hb13
  have he_14 := he_12.below hb13
  have c_14_0 := (hb13.cell (p := ⟨w.heap.size, 0, none⟩) l_12_0).trans c_12_0
  have c_14_1 := (hb13.cell (p := ⟨w.heap.size, 1, none⟩) l_12_0).trans c_12_1
  have l_14_0 : w.heap.size < w13.heap.size := Nat.lt_of_lt_of_le l_12_0 hb13.size
  have z_14 : Below w.heap.size w w13 := z_12.trans (hb13.mono z_12.size)
  clear hw_12 he_12 c_12_0 c_12_1 l_12_0 z_12 hb13
  go_wp2_with fail
  refine (rof_yes yr 1 4 w13 hj).mono ?_; rintro e w15 ⟨rfl, hb15⟩
  have hw_16 := hw_14.below hb15
  have he_16 := he_14.below hb15
  have c_16_0 := (hb15.cell (p := ⟨w.heap.size, 0, none⟩) l_14_0).trans c_14_0
  have c_16_1 := (hb15.cell (p := ⟨w.heap.size, 1, none⟩) l_14_0).trans c_14_1
  have l_16_0 : w.heap.size < w15.heap.size := Nat.lt_of_lt_of_le l_14_0 hb15.size
  have z_16 : Below w.heap.size w w15 := z_14.trans (hb15.mono z_14.size)
  clear hw_14 he_14 c_14_0 c_14_1 l_14_0 z_14 hb15
  go_wp2_with fail
  refine (rmonday_any _ w15 j1 (by omega)).mono ?_; rintro e w' ⟨rfl, rfl⟩
  rw [show Cal.mondayI (Cal.num yr 1 4) = Cal.wk1 yr from rfl]
  go_wp2_with fail
  refine (wfirst_yes yr wk w15 hw_16 g1 g2 g3 g4 hend).mono ?_; rintro e w17 ⟨rfl, hb17⟩
  have hw_18 := hw_16.below hb17
  have he_18 := he_16.below hb17
  have c_18_0 := (hb17.cell (p := ⟨w.heap.size, 0, none⟩) l_16_0).trans c_16_0
  have c_18_1 := (hb17.cell (p := ⟨w.heap.size, 1, none⟩) l_16_0).trans c_16_1
  have l_18_0 : w.heap.size < w17.heap.size := Nat.lt_of_lt_of_le l_16_0 hb17.size
  have z_18 : Below w.heap.size w w17 := z_16.trans (hb17.mono z_16.size)
  clear hw_16 he_16 c_16_0 c_16_1 l_16_0 z_16 hb17
  go_wp2_with fail
  refine ((error_nil 0 w17 true (by decide))).mono ?_; rintro e w19 ⟨rfl, hb19⟩
  have hw_20 := hw_18.below hb19
  have he_20 := he_18.below hb19
  have c_20_0 := (hb19.cell (p := ⟨w.heap.size, 0, none⟩) l_18_0).trans c_18_0
  have c_20_1 := (hb19.cell (p := ⟨w.heap.size, 1, none⟩) l_18_0).trans c_18_1
  have l_20_0 : w.heap.size < w19.heap.size := Nat.lt_of_lt_of_le l_18_0 hb19.size
  have z_20 : Below w.heap.size w w19 := z_18.trans (hb19.mono z_18.size)
  clear hw_18 he_18 c_18_0 c_18_1 l_18_0 z_18 hb19
  go_wp2_with fail
  refine (rnth_any yr mo k wd w19).mono ?_; rintro e w21 ⟨rfl, hb21⟩
  have hw_22 := hw_20.below hb21
  have he_22 := he_20.below hb21
  have c_22_0 := (hb21.cell (p := ⟨w.heap.size, 0, none⟩) l_20_0).trans c_20_0
  have c_22_1 := (hb21.cell (p := ⟨w.heap.size, 1, none⟩) l_20_0).trans c_20_1
  have l_22_0 : w.heap.size < w21.heap.size := Nat.lt_of_lt_of_le l_20_0 hb21.size
  have z_22 : Below w.heap.size w w21 := z_20.trans (hb21.mono z_20.size)
  clear hw_20 he_20 c_20_0 c_20_1 l_20_0 z_20 hb21
  go_wp2_with fail
  refine (nth_any yr mo k wd w21 hw_22).mono ?_; rintro e w23 ⟨rfl, hb23⟩
  have hw_24 := hw_22.below hb23
  have he_24 := he_22.below hb23
  have c_24_0 := (hb23.cell (p := ⟨w.heap.size, 0, none⟩) l_22_0).trans c_22_0
  have c_24_1 := (hb23.cell (p := ⟨w.heap.size, 1, none⟩) l_22_0).trans c_22_1
  have l_24_0 : w.heap.size < w23.heap.size := Nat.lt_of_lt_of_le l_22_0 hb23.size
  have z_24 : Below w.heap.size w w23 := z_22.trans (hb23.mono z_22.size)
  clear hw_22 he_22 c_22_0 c_22_1 l_22_0 z_22 hb23
  go_wp2_with fail
  refine (error_same _ w23 he_24).mono ?_; rintro e w25 ⟨rfl, hb25⟩
  have hw_26 := hw_24.below hb25
  have he_26 := he_24.below hb25
  have c_26_0 := (hb25.cell (p := ⟨w.heap.size, 0, none⟩) l_24_0).trans c_24_0
  have c_26_1 := (hb25.cell (p := ⟨w.heap.size, 1, none⟩) l_24_0).trans c_24_1
  have l_26_0 : w.heap.size < w25.heap.size := Nat.lt_of_lt_of_le l_24_0 hb25.size
  have z_26 : Below w.heap.size w w25 := z_24.trans (hb25.mono z_24.size)
  clear hw_24 he_24 c_24_0 c_24_1 l_24_0 z_24 hb25
  go_wp2_with fail
  refine (rdate_no n w25 hn).mono ?_; rintro e w27 ⟨rfl, hb27⟩
  have hw_28 := hw_26.below hb27
  have he_28 := he_26.below hb27
  have c_28_0 := (hb27.cell (p := ⟨w.heap.size, 0, none⟩) l_26_0).trans c_26_0
  have c_28_1 := (hb27.cell (p := ⟨w.heap.size, 1, none⟩) l_26_0).trans c_26_1
  have l_28_0 : w.heap.size < w27.heap.size := Nat.lt_of_lt_of_le l_26_0 hb27.size
  have z_28 : Below w.heap.size w w27 := z_26.trans (hb27.mono z_26.size)
  clear hw_26 he_26 c_26_0 c_26_1 l_26_0 z_26 hb27
  go_wp2_with fail
  obtain ⟨w29, hq29⟩ : ∃ x, x = (w27.alloc (.cells #[.int .i64 0, .int .i64 0] 38)).alloc (.cells #[.int .i64 0, .int .i64 0] 38) := ⟨_, rfl⟩
  rw [← hq29]
  have hb29 : Below w27.heap.size w27 w29 := by rw [hq29]; exact ((Below.refl _ _).alloc (Nat.le_refl _) _).alloc (by simp) _
  have d_29_0_0 : w29.cell? ⟨w27.heap.size, 0, none⟩ = some (.int .i64 0) := by rw [hq29]; simp
  have d_29_0_1 : w29.cell? ⟨w27.heap.size, 1, none⟩ = some (.int .i64 0) := by rw [hq29]; simp
  have m_29_0 : w27.heap.size < w29.heap.size := by rw [hq29]; simp; omega
  have d_29_1_0 : w29.cell? ⟨w27.heap.size + 1, 0, none⟩ = some (.int .i64 0) := by rw [hq29]; simp
  have d_29_1_1 : w29.cell? ⟨w27.heap.size + 1, 1, none⟩ = some (.int .i64 0) := by rw [hq29]; simp
  have m_29_1 : w27.heap.size + 1 < w29.heap.size := by rw [hq29]; simp
  clear hq29
  have hw_30 := hw_28.below hb29
  have he_30 := he_28.below hb29
  have c_30_0 := (hb29.cell (p := ⟨w.heap.size, 0, none⟩) l_28_0).trans c_28_0
  have c_30_1 := (hb29.cell (p := ⟨w.heap.size, 1, none⟩) l_28_0).trans c_28_1
  have l_30_0 : w.heap.size < w29.heap.size := Nat.lt_of_lt_of_le l_28_0 hb29.size
  have z_30 : Below w.heap.size w w29 := z_28.trans (hb29.mono z_28.size)
  clear hw_28 he_28 c_28_0 c_28_1 l_28_0 z_28 hb29
  refine (which_no n w29 hn).mono ?_; rintro e w31 ⟨rfl, hb31⟩
  have hw_32 := hw_30.below hb31
  have he_32 := he_30.below hb31
  have c_32_0 := (hb31.cell (p := ⟨w.heap.size, 0, none⟩) l_30_0).trans c_30_0
  have c_32_1 := (hb31.cell (p := ⟨w.heap.size, 1, none⟩) l_30_0).trans c_30_1
  have c_32_2 := (hb31.cell (p := ⟨w27.heap.size, 0, none⟩) m_29_0).trans d_29_0_0
  have c_32_3 := (hb31.cell (p := ⟨w27.heap.size, 1, none⟩) m_29_0).trans d_29_0_1
  have c_32_4 := (hb31.cell (p := ⟨w27.heap.size + 1, 0, none⟩) m_29_1).trans d_29_1_0
  have c_32_5 := (hb31.cell (p := ⟨w27.heap.size + 1, 1, none⟩) m_29_1).trans d_29_1_1
  have l_32_0 : w.heap.size < w31.heap.size := Nat.lt_of_lt_of_le l_30_0 hb31.size
  have l_32_1 : w27.heap.size < w31.heap.size := Nat.lt_of_lt_of_le m_29_0 hb31.size
  have l_32_2 : w27.heap.size + 1 < w31.heap.size := Nat.lt_of_lt_of_le m_29_1 hb31.size
  have z_32 : Below w.heap.size w w31 := z_30.trans (hb31.mono z_30.size)
  clear hw_30 he_30 c_30_0 c_30_1 d_29_0_0 d_29_0_1 d_29_1_0 d_29_1_1 l_30_0 m_29_0 m_29_1 z_30 hb31
  go_wp2_with fail
  obtain ⟨w33, hq33⟩ : ∃ x, x = (w31.alloc (.cells #[.int .i64 0, .int .i64 0] 38)).alloc (.cells #[.int .i64 0, .int .i64 0] 38) := ⟨_, rfl⟩
  rw [← hq33]
  have hb33 : Below w31.heap.size w31 w33 := by rw [hq33]; exact ((Below.refl _ _).alloc (Nat.le_refl _) _).alloc (by simp) _
  have d_33_0_0 : w33.cell? ⟨w31.heap.size, 0, none⟩ = some (.int .i64 0) := by rw [hq33]; simp
  have d_33_0_1 : w33.cell? ⟨w31.heap.size, 1, none⟩ = some (.int .i64 0) := by rw [hq33]; simp
  have m_33_0 : w31.heap.size < w33.heap.size := by rw [hq33]; simp; omega
  have d_33_1_0 : w33.cell? ⟨w31.heap.size + 1, 0, none⟩ = some (.int .i64 0) := by rw [hq33]; simp
  have d_33_1_1 : w33.cell? ⟨w31.heap.size + 1, 1, none⟩ = some (.int .i64 0) := by rw [hq33]; simp
  have m_33_1 : w31.heap.size + 1 < w33.heap.size := by rw [hq33]; simp
  clear hq33
  have hw_34 := hw_32.below hb33
  have he_34 := he_32.below hb33
  have c_34_0 := (hb33.cell (p := ⟨w.heap.size, 0, none⟩) l_32_0).trans c_32_0
  have c_34_1 := (hb33.cell (p := ⟨w.heap.size, 1, none⟩) l_32_0).trans c_32_1
  have c_34_2 := (hb33.cell (p := ⟨w27.heap.size, 0, none⟩) l_32_1).trans c_32_2
  have c_34_3 := (hb33.cell (p := ⟨w27.heap.size, 1, none⟩) l_32_1).trans c_32_3
  have c_34_4 := (hb33.cell (p := ⟨w27.heap.size + 1, 0, none⟩) l_32_2).trans c_32_4
  have c_34_5 := (hb33.cell (p := ⟨w27.heap.size + 1, 1, none⟩) l_32_2).trans c_32_5
  have l_34_0 : w.heap.size < w33.heap.size := Nat.lt_of_lt_of_le l_32_0 hb33.size
  have l_34_1 : w27.heap.size < w33.heap.size := Nat.lt_of_lt_of_le l_32_1 hb33.size
  have l_34_2 : w27.heap.size + 1 < w33.heap.size := Nat.lt_of_lt_of_le l_32_2 hb33.size
  have z_34 : Below w.heap.size w w33 := z_32.trans (hb33.mono z_32.size)
  clear hw_32 he_32 c_32_0 c_32_1 c_32_2 c_32_3 c_32_4 c_32_5 l_32_0 l_32_1 l_32_2 z_32 hb33
  refine ((error_no 1 1 w33 true he_34 (by decide) (by omega) (by omega))).mono ?_; rintro e w35 ⟨rfl, hb35⟩
  have hw_36 := hw_34.below hb35
  have he_36 := he_34.below hb35
  have c_36_0 := (hb35.cell (p := ⟨w.heap.size, 0, none⟩) l_34_0).trans c_34_0
  have c_36_1 := (hb35.cell (p := ⟨w.heap.size, 1, none⟩) l_34_0).trans c_34_1
  have c_36_2 := (hb35.cell (p := ⟨w27.heap.size, 0, none⟩) l_34_1).trans c_34_2
  have c_36_3 := (hb35.cell (p := ⟨w27.heap.size, 1, none⟩) l_34_1).trans c_34_3
  have c_36_4 := (hb35.cell (p := ⟨w27.heap.size + 1, 0, none⟩) l_34_2).trans c_34_4
  have c_36_5 := (hb35.cell (p := ⟨w27.heap.size + 1, 1, none⟩) l_34_2).trans c_34_5
  have c_36_6 := (hb35.cell (p := ⟨w31.heap.size, 0, none⟩) m_33_0).trans d_33_0_0
  have c_36_7 := (hb35.cell (p := ⟨w31.heap.size, 1, none⟩) m_33_0).trans d_33_0_1
  have c_36_8 := (hb35.cell (p := ⟨w31.heap.size + 1, 0, none⟩) m_33_1).trans d_33_1_0
  have c_36_9 := (hb35.cell (p := ⟨w31.heap.size + 1, 1, none⟩) m_33_1).trans d_33_1_1
  have l_36_0 : w.heap.size < w35.heap.size := Nat.lt_of_lt_of_le l_34_0 hb35.size
  have l_36_1 : w27.heap.size < w35.heap.size := Nat.lt_of_lt_of_le l_34_1 hb35.size
  have l_36_2 : w27.heap.size + 1 < w35.heap.size := Nat.lt_of_lt_of_le l_34_2 hb35.size
  have l_36_3 : w31.heap.size < w35.heap.size := Nat.lt_of_lt_of_le m_33_0 hb35.size
  have l_36_4 : w31.heap.size + 1 < w35.heap.size := Nat.lt_of_lt_of_le m_33_1 hb35.size
  have z_36 : Below w.heap.size w w35 := z_34.trans (hb35.mono z_34.size)
  clear hw_34 he_34 c_34_0 c_34_1 c_34_2 c_34_3 c_34_4 c_34_5 d_33_0_0 d_33_0_1 d_33_1_0 d_33_1_1 l_34_0 l_34_1 l_34_2 m_33_0 m_33_1 z_34 hb35
  go_wp2
  go_ret
  exact ⟨rfl, z_36⟩

set_option maxRecDepth 100000 in
set_option maxHeartbeats 8000000 in
theorem weekTells_none_out (yr wk mo k wd n : Int) (w : World) (hw : Months w) (he : ErrT w) (hn : n < 1 ∨ 109573 < n) (g1 : 1900 ≤ yr) (g2 : yr ≤ 2199) (g3 : wk < 1 ∨ Cal.weeksI yr < wk) :
    Calls Tryd.prog 4 #[.int .i64 n, .int .i64 yr, .int .i64 wk, .int .i64 mo, .agg #[.int .i64 k, .int .i64 wd]] w fun e w' => e = .returned (.bool true) ∧ Below w.heap.size w w' := by
  obtain ⟨c0, c1, _, _⟩ := Cal.wk1_bd g1 g2
  have ha := Cal.ahead_bd yr g1 (by omega)
  have hj := Cal.date_j4 g1 g2
  obtain ⟨_, _, j1, j2⟩ := Cal.num_bd hj
  obtain ⟨wl, wl2⟩ := Cal.weeks_len g1 g2
  have wl3 : 52 ≤ Cal.weeksI yr := by rcases wl with h | h <;> omega
  have wl4 : Cal.weeksI yr ≤ 53 := by rcases wl with h | h <;> omega
  have hm0 : (Cal.weeksI yr == 0) = false := by simp; omega
  have hwb : Cal.wk1 yr ≤ 109573 := by obtain ⟨_, _, k, _⟩ := Cal.wk1_bd g1 g2; have := Cal.ahead_bd yr g1 (by omega); omega
  clear wl wl2 ha
  go_enter Tryd.func4, Tryd.ntmps4
  go_wp2_with fail
  obtain ⟨w1, hq1⟩ : ∃ x, x = w.alloc (.cells #[.int .i64 k, .int .i64 wd] 38) := ⟨_, rfl⟩
  rw [← hq1]
  have hb1 : Below w.heap.size w w1 := by rw [hq1]; exact (Below.refl _ _).alloc (Nat.le_refl _) _
  have d_1_0 : w1.cell? ⟨w.heap.size, 0, none⟩ = some (.int .i64 k) := by rw [hq1]; simp
  have d_1_1 : w1.cell? ⟨w.heap.size, 1, none⟩ = some (.int .i64 wd) := by rw [hq1]; simp
  have m_1 : w.heap.size < w1.heap.size := by rw [hq1]; simp
  clear hq1
  have hw_2 := hw.below hb1
  have he_2 := he.below hb1
  have z_2 : Below w.heap.size w w1 := hb1
  clear hw he hb1
  refine (rweek_no n w1 (by omega)).mono ?_; rintro e w3 ⟨rfl, hb3⟩
  have hw_4 := hw_2.below hb3
  have he_4 := he_2.below hb3
  have c_4_0 := (hb3.cell (p := ⟨w.heap.size, 0, none⟩) m_1).trans d_1_0
  have c_4_1 := (hb3.cell (p := ⟨w.heap.size, 1, none⟩) m_1).trans d_1_1
  have l_4_0 : w.heap.size < w3.heap.size := Nat.lt_of_lt_of_le m_1 hb3.size
  have z_4 : Below w.heap.size w w3 := z_2.trans (hb3.mono z_2.size)
  clear hw_2 he_2 d_1_0 d_1_1 m_1 z_2 hb3
  go_wp2_with fail
  refine (week_no n w3 (by omega)).mono ?_; rintro e w5 ⟨rfl, hb5⟩
  have hw_6 := hw_4.below hb5
  have he_6 := he_4.below hb5
  have c_6_0 := (hb5.cell (p := ⟨w.heap.size, 0, none⟩) l_4_0).trans c_4_0
  have c_6_1 := (hb5.cell (p := ⟨w.heap.size, 1, none⟩) l_4_0).trans c_4_1
  have l_6_0 : w.heap.size < w5.heap.size := Nat.lt_of_lt_of_le l_4_0 hb5.size
  have z_6 : Below w.heap.size w w5 := z_4.trans (hb5.mono z_4.size)
  clear hw_4 he_4 c_4_0 c_4_1 l_4_0 z_4 hb5
  go_wp2_with fail
  refine ((error_no 1 1 w5 true he_6 (by decide) (by omega) (by omega))).mono ?_; rintro e w7 ⟨rfl, hb7⟩
  have hw_8 := hw_6.below hb7
  have he_8 := he_6.below hb7
  have c_8_0 := (hb7.cell (p := ⟨w.heap.size, 0, none⟩) l_6_0).trans c_6_0
  have c_8_1 := (hb7.cell (p := ⟨w.heap.size, 1, none⟩) l_6_0).trans c_6_1
  have l_8_0 : w.heap.size < w7.heap.size := Nat.lt_of_lt_of_le l_6_0 hb7.size
  have z_8 : Below w.heap.size w w7 := z_6.trans (hb7.mono z_6.size)
  clear hw_6 he_6 c_6_0 c_6_1 l_6_0 z_6 hb7
  go_wp2_with fail
  refine (rweeks_yes yr w7 g1 g2).mono ?_; rintro e w9 ⟨rfl, hb9⟩
  have hw_10 := hw_8.below hb9
  have he_10 := he_8.below hb9
  have c_10_0 := (hb9.cell (p := ⟨w.heap.size, 0, none⟩) l_8_0).trans c_8_0
  have c_10_1 := (hb9.cell (p := ⟨w.heap.size, 1, none⟩) l_8_0).trans c_8_1
  have l_10_0 : w.heap.size < w9.heap.size := Nat.lt_of_lt_of_le l_8_0 hb9.size
  have z_10 : Below w.heap.size w w9 := z_8.trans (hb9.mono z_8.size)
  clear hw_8 he_8 c_8_0 c_8_1 l_8_0 z_8 hb9
  go_wp2_with fail
  refine (weeks_yes yr w9 hw_10 g1 g2).mono ?_; rintro e w11 ⟨rfl, hb11⟩
  have hw_12 := hw_10.below hb11
  have he_12 := he_10.below hb11
  have c_12_0 := (hb11.cell (p := ⟨w.heap.size, 0, none⟩) l_10_0).trans c_10_0
  have c_12_1 := (hb11.cell (p := ⟨w.heap.size, 1, none⟩) l_10_0).trans c_10_1
  have l_12_0 : w.heap.size < w11.heap.size := Nat.lt_of_lt_of_le l_10_0 hb11.size
  have z_12 : Below w.heap.size w w11 := z_10.trans (hb11.mono z_10.size)
  clear hw_10 he_10 c_10_0 c_10_1 l_10_0 z_10 hb11
  go_wp2_with fail
  refine ((error_nil 0 w11 true (by decide))).mono ?_; rintro e w13 ⟨rfl, hb13⟩
  have hw_14 := hw_12.below hb13
  have he_14 := he_12.below hb13
  have c_14_0 := (hb13.cell (p := ⟨w.heap.size, 0, none⟩) l_12_0).trans c_12_0
  have c_14_1 := (hb13.cell (p := ⟨w.heap.size, 1, none⟩) l_12_0).trans c_12_1
  have l_14_0 : w.heap.size < w13.heap.size := Nat.lt_of_lt_of_le l_12_0 hb13.size
  have z_14 : Below w.heap.size w w13 := z_12.trans (hb13.mono z_12.size)
  clear hw_12 he_12 c_12_0 c_12_1 l_12_0 z_12 hb13
  go_wp2_with fail
  refine (rof_yes yr 1 4 w13 hj).mono ?_; rintro e w15 ⟨rfl, hb15⟩
  have hw_16 := hw_14.below hb15
  have he_16 := he_14.below hb15
  have c_16_0 := (hb15.cell (p := ⟨w.heap.size, 0, none⟩) l_14_0).trans c_14_0
  have c_16_1 := (hb15.cell (p := ⟨w.heap.size, 1, none⟩) l_14_0).trans c_14_1
  have l_16_0 : w.heap.size < w15.heap.size := Nat.lt_of_lt_of_le l_14_0 hb15.size
  have z_16 : Below w.heap.size w w15 := z_14.trans (hb15.mono z_14.size)
  clear hw_14 he_14 c_14_0 c_14_1 l_14_0 z_14 hb15
  go_wp2_with fail
  refine (rmonday_any _ w15 j1 (by omega)).mono ?_; rintro e w' ⟨rfl, rfl⟩
  rw [show Cal.mondayI (Cal.num yr 1 4) = Cal.wk1 yr from rfl]
  rcases g3 with g3 | g3
  all_goals
    go_wp2_with fail
    refine (wfirst_no yr wk w15 hw_16 (.inr (by omega))).mono ?_; rintro e w17 ⟨rfl, hb17⟩
    have hw_18 := hw_16.below hb17
    have he_18 := he_16.below hb17
    have c_18_0 := (hb17.cell (p := ⟨w.heap.size, 0, none⟩) l_16_0).trans c_16_0
    have c_18_1 := (hb17.cell (p := ⟨w.heap.size, 1, none⟩) l_16_0).trans c_16_1
    have l_18_0 : w.heap.size < w17.heap.size := Nat.lt_of_lt_of_le l_16_0 hb17.size
    have z_18 : Below w.heap.size w w17 := z_16.trans (hb17.mono z_16.size)
    clear hw_16 he_16 c_16_0 c_16_1 l_16_0 z_16 hb17
    go_wp2_with fail
    refine ((error_no 1 1 w17 true he_18 (by decide) (by omega) (by omega))).mono ?_; rintro e w19 ⟨rfl, hb19⟩
    have hw_20 := hw_18.below hb19
    have he_20 := he_18.below hb19
    have c_20_0 := (hb19.cell (p := ⟨w.heap.size, 0, none⟩) l_18_0).trans c_18_0
    have c_20_1 := (hb19.cell (p := ⟨w.heap.size, 1, none⟩) l_18_0).trans c_18_1
    have l_20_0 : w.heap.size < w19.heap.size := Nat.lt_of_lt_of_le l_18_0 hb19.size
    have z_20 : Below w.heap.size w w19 := z_18.trans (hb19.mono z_18.size)
    clear hw_18 he_18 c_18_0 c_18_1 l_18_0 z_18 hb19
    go_wp2_with fail
    refine (rnth_any yr mo k wd w19).mono ?_; rintro e w21 ⟨rfl, hb21⟩
    have hw_22 := hw_20.below hb21
    have he_22 := he_20.below hb21
    have c_22_0 := (hb21.cell (p := ⟨w.heap.size, 0, none⟩) l_20_0).trans c_20_0
    have c_22_1 := (hb21.cell (p := ⟨w.heap.size, 1, none⟩) l_20_0).trans c_20_1
    have l_22_0 : w.heap.size < w21.heap.size := Nat.lt_of_lt_of_le l_20_0 hb21.size
    have z_22 : Below w.heap.size w w21 := z_20.trans (hb21.mono z_20.size)
    clear hw_20 he_20 c_20_0 c_20_1 l_20_0 z_20 hb21
    go_wp2_with fail
    refine (nth_any yr mo k wd w21 hw_22).mono ?_; rintro e w23 ⟨rfl, hb23⟩
    have hw_24 := hw_22.below hb23
    have he_24 := he_22.below hb23
    have c_24_0 := (hb23.cell (p := ⟨w.heap.size, 0, none⟩) l_22_0).trans c_22_0
    have c_24_1 := (hb23.cell (p := ⟨w.heap.size, 1, none⟩) l_22_0).trans c_22_1
    have l_24_0 : w.heap.size < w23.heap.size := Nat.lt_of_lt_of_le l_22_0 hb23.size
    have z_24 : Below w.heap.size w w23 := z_22.trans (hb23.mono z_22.size)
    clear hw_22 he_22 c_22_0 c_22_1 l_22_0 z_22 hb23
    go_wp2_with fail
    refine (error_same _ w23 he_24).mono ?_; rintro e w25 ⟨rfl, hb25⟩
    have hw_26 := hw_24.below hb25
    have he_26 := he_24.below hb25
    have c_26_0 := (hb25.cell (p := ⟨w.heap.size, 0, none⟩) l_24_0).trans c_24_0
    have c_26_1 := (hb25.cell (p := ⟨w.heap.size, 1, none⟩) l_24_0).trans c_24_1
    have l_26_0 : w.heap.size < w25.heap.size := Nat.lt_of_lt_of_le l_24_0 hb25.size
    have z_26 : Below w.heap.size w w25 := z_24.trans (hb25.mono z_24.size)
    clear hw_24 he_24 c_24_0 c_24_1 l_24_0 z_24 hb25
    go_wp2_with fail
    refine (rdate_no n w25 hn).mono ?_; rintro e w27 ⟨rfl, hb27⟩
    have hw_28 := hw_26.below hb27
    have he_28 := he_26.below hb27
    have c_28_0 := (hb27.cell (p := ⟨w.heap.size, 0, none⟩) l_26_0).trans c_26_0
    have c_28_1 := (hb27.cell (p := ⟨w.heap.size, 1, none⟩) l_26_0).trans c_26_1
    have l_28_0 : w.heap.size < w27.heap.size := Nat.lt_of_lt_of_le l_26_0 hb27.size
    have z_28 : Below w.heap.size w w27 := z_26.trans (hb27.mono z_26.size)
    clear hw_26 he_26 c_26_0 c_26_1 l_26_0 z_26 hb27
    go_wp2_with fail
    obtain ⟨w29, hq29⟩ : ∃ x, x = (w27.alloc (.cells #[.int .i64 0, .int .i64 0] 38)).alloc (.cells #[.int .i64 0, .int .i64 0] 38) := ⟨_, rfl⟩
    rw [← hq29]
    have hb29 : Below w27.heap.size w27 w29 := by rw [hq29]; exact ((Below.refl _ _).alloc (Nat.le_refl _) _).alloc (by simp) _
    have d_29_0_0 : w29.cell? ⟨w27.heap.size, 0, none⟩ = some (.int .i64 0) := by rw [hq29]; simp
    have d_29_0_1 : w29.cell? ⟨w27.heap.size, 1, none⟩ = some (.int .i64 0) := by rw [hq29]; simp
    have m_29_0 : w27.heap.size < w29.heap.size := by rw [hq29]; simp; omega
    have d_29_1_0 : w29.cell? ⟨w27.heap.size + 1, 0, none⟩ = some (.int .i64 0) := by rw [hq29]; simp
    have d_29_1_1 : w29.cell? ⟨w27.heap.size + 1, 1, none⟩ = some (.int .i64 0) := by rw [hq29]; simp
    have m_29_1 : w27.heap.size + 1 < w29.heap.size := by rw [hq29]; simp
    clear hq29
    have hw_30 := hw_28.below hb29
    have he_30 := he_28.below hb29
    have c_30_0 := (hb29.cell (p := ⟨w.heap.size, 0, none⟩) l_28_0).trans c_28_0
    have c_30_1 := (hb29.cell (p := ⟨w.heap.size, 1, none⟩) l_28_0).trans c_28_1
    have l_30_0 : w.heap.size < w29.heap.size := Nat.lt_of_lt_of_le l_28_0 hb29.size
    have z_30 : Below w.heap.size w w29 := z_28.trans (hb29.mono z_28.size)
    clear hw_28 he_28 c_28_0 c_28_1 l_28_0 z_28 hb29
    refine (which_no n w29 hn).mono ?_; rintro e w31 ⟨rfl, hb31⟩
    have hw_32 := hw_30.below hb31
    have he_32 := he_30.below hb31
    have c_32_0 := (hb31.cell (p := ⟨w.heap.size, 0, none⟩) l_30_0).trans c_30_0
    have c_32_1 := (hb31.cell (p := ⟨w.heap.size, 1, none⟩) l_30_0).trans c_30_1
    have c_32_2 := (hb31.cell (p := ⟨w27.heap.size, 0, none⟩) m_29_0).trans d_29_0_0
    have c_32_3 := (hb31.cell (p := ⟨w27.heap.size, 1, none⟩) m_29_0).trans d_29_0_1
    have c_32_4 := (hb31.cell (p := ⟨w27.heap.size + 1, 0, none⟩) m_29_1).trans d_29_1_0
    have c_32_5 := (hb31.cell (p := ⟨w27.heap.size + 1, 1, none⟩) m_29_1).trans d_29_1_1
    have l_32_0 : w.heap.size < w31.heap.size := Nat.lt_of_lt_of_le l_30_0 hb31.size
    have l_32_1 : w27.heap.size < w31.heap.size := Nat.lt_of_lt_of_le m_29_0 hb31.size
    have l_32_2 : w27.heap.size + 1 < w31.heap.size := Nat.lt_of_lt_of_le m_29_1 hb31.size
    have z_32 : Below w.heap.size w w31 := z_30.trans (hb31.mono z_30.size)
    clear hw_30 he_30 c_30_0 c_30_1 d_29_0_0 d_29_0_1 d_29_1_0 d_29_1_1 l_30_0 m_29_0 m_29_1 z_30 hb31
    go_wp2_with fail
    obtain ⟨w33, hq33⟩ : ∃ x, x = (w31.alloc (.cells #[.int .i64 0, .int .i64 0] 38)).alloc (.cells #[.int .i64 0, .int .i64 0] 38) := ⟨_, rfl⟩
    rw [← hq33]
    have hb33 : Below w31.heap.size w31 w33 := by rw [hq33]; exact ((Below.refl _ _).alloc (Nat.le_refl _) _).alloc (by simp) _
    have d_33_0_0 : w33.cell? ⟨w31.heap.size, 0, none⟩ = some (.int .i64 0) := by rw [hq33]; simp
    have d_33_0_1 : w33.cell? ⟨w31.heap.size, 1, none⟩ = some (.int .i64 0) := by rw [hq33]; simp
    have m_33_0 : w31.heap.size < w33.heap.size := by rw [hq33]; simp; omega
    have d_33_1_0 : w33.cell? ⟨w31.heap.size + 1, 0, none⟩ = some (.int .i64 0) := by rw [hq33]; simp
    have d_33_1_1 : w33.cell? ⟨w31.heap.size + 1, 1, none⟩ = some (.int .i64 0) := by rw [hq33]; simp
    have m_33_1 : w31.heap.size + 1 < w33.heap.size := by rw [hq33]; simp
    clear hq33
    have hw_34 := hw_32.below hb33
    have he_34 := he_32.below hb33
    have c_34_0 := (hb33.cell (p := ⟨w.heap.size, 0, none⟩) l_32_0).trans c_32_0
    have c_34_1 := (hb33.cell (p := ⟨w.heap.size, 1, none⟩) l_32_0).trans c_32_1
    have c_34_2 := (hb33.cell (p := ⟨w27.heap.size, 0, none⟩) l_32_1).trans c_32_2
    have c_34_3 := (hb33.cell (p := ⟨w27.heap.size, 1, none⟩) l_32_1).trans c_32_3
    have c_34_4 := (hb33.cell (p := ⟨w27.heap.size + 1, 0, none⟩) l_32_2).trans c_32_4
    have c_34_5 := (hb33.cell (p := ⟨w27.heap.size + 1, 1, none⟩) l_32_2).trans c_32_5
    have l_34_0 : w.heap.size < w33.heap.size := Nat.lt_of_lt_of_le l_32_0 hb33.size
    have l_34_1 : w27.heap.size < w33.heap.size := Nat.lt_of_lt_of_le l_32_1 hb33.size
    have l_34_2 : w27.heap.size + 1 < w33.heap.size := Nat.lt_of_lt_of_le l_32_2 hb33.size
    have z_34 : Below w.heap.size w w33 := z_32.trans (hb33.mono z_32.size)
    clear hw_32 he_32 c_32_0 c_32_1 c_32_2 c_32_3 c_32_4 c_32_5 l_32_0 l_32_1 l_32_2 z_32 hb33
    refine ((error_no 1 1 w33 true he_34 (by decide) (by omega) (by omega))).mono ?_; rintro e w35 ⟨rfl, hb35⟩
    have hw_36 := hw_34.below hb35
    have he_36 := he_34.below hb35
    have c_36_0 := (hb35.cell (p := ⟨w.heap.size, 0, none⟩) l_34_0).trans c_34_0
    have c_36_1 := (hb35.cell (p := ⟨w.heap.size, 1, none⟩) l_34_0).trans c_34_1
    have c_36_2 := (hb35.cell (p := ⟨w27.heap.size, 0, none⟩) l_34_1).trans c_34_2
    have c_36_3 := (hb35.cell (p := ⟨w27.heap.size, 1, none⟩) l_34_1).trans c_34_3
    have c_36_4 := (hb35.cell (p := ⟨w27.heap.size + 1, 0, none⟩) l_34_2).trans c_34_4
    have c_36_5 := (hb35.cell (p := ⟨w27.heap.size + 1, 1, none⟩) l_34_2).trans c_34_5
    have c_36_6 := (hb35.cell (p := ⟨w31.heap.size, 0, none⟩) m_33_0).trans d_33_0_0
    have c_36_7 := (hb35.cell (p := ⟨w31.heap.size, 1, none⟩) m_33_0).trans d_33_0_1
    have c_36_8 := (hb35.cell (p := ⟨w31.heap.size + 1, 0, none⟩) m_33_1).trans d_33_1_0
    have c_36_9 := (hb35.cell (p := ⟨w31.heap.size + 1, 1, none⟩) m_33_1).trans d_33_1_1
    have l_36_0 : w.heap.size < w35.heap.size := Nat.lt_of_lt_of_le l_34_0 hb35.size
    have l_36_1 : w27.heap.size < w35.heap.size := Nat.lt_of_lt_of_le l_34_1 hb35.size
    have l_36_2 : w27.heap.size + 1 < w35.heap.size := Nat.lt_of_lt_of_le l_34_2 hb35.size
    have l_36_3 : w31.heap.size < w35.heap.size := Nat.lt_of_lt_of_le m_33_0 hb35.size
    have l_36_4 : w31.heap.size + 1 < w35.heap.size := Nat.lt_of_lt_of_le m_33_1 hb35.size
    have z_36 : Below w.heap.size w w35 := z_34.trans (hb35.mono z_34.size)
    clear hw_34 he_34 c_34_0 c_34_1 c_34_2 c_34_3 c_34_4 c_34_5 d_33_0_0 d_33_0_1 d_33_1_0 d_33_1_1 l_34_0 l_34_1 l_34_2 m_33_0 m_33_1 z_34 hb35
    go_wp2
    go_ret
    exact ⟨rfl, z_36⟩

theorem weekTells_top (n yr wk mo k wd : Int) (w : World) (hw : Months w) (he : ErrT w) (_ : (Lit.int .i64 n).wf = true) (_ : (Lit.int .i64 yr).wf = true) (_ : (Lit.int .i64 wk).wf = true) (_ : (Lit.int .i64 mo).wf = true) (_ : (Lit.int .i64 k).wf = true) (_ : (Lit.int .i64 wd).wf = true) :
    Calls Tryd.prog 4 #[.int .i64 n, .int .i64 yr, .int .i64 wk, .int .i64 mo, .agg #[.int .i64 k, .int .i64 wd]] w fun e w' => e = .returned (.bool true) ∧ Below w.heap.size w w' := by
  have hyc : (yr < 1900 ∨ 2199 < yr) ∨ ((1900 ≤ yr ∧ yr ≤ 2199) ∧ ((1 ≤ wk ∧ wk ≤ Cal.weeksI yr) ∨ (wk < 1 ∨ Cal.weeksI yr < wk))) := by omega
  by_cases hn : 1 ≤ n ∧ n ≤ 109573
  · obtain ⟨y1, m1, d1, h1, rfl⟩ := Cal.ex_date n hn.1 hn.2
    by_cases hl : Cal.num y1 m1 d1 ≤ 109571
    · have hc : Cal.mondayI (Cal.num y1 m1 d1) + 3 ≤ 109573 := by unfold Cal.mondayI; omega
      have hb := Cal.monday_pos _ hn.1
      obtain ⟨y2, m2, d2, hd, hn2⟩ := Cal.ex_date (Cal.mondayI (Cal.num y1 m1 d1) + 3) (by omega) hc
      rcases hyc with hy | ⟨hy, hk | hk⟩
      · exact weekTells_week_bad yr wk mo k wd y1 m1 d1 y2 m2 d2 w hw he h1 hd hn2 hy
      · exact weekTells_week_in yr wk mo k wd y1 m1 d1 y2 m2 d2 w hw he h1 hd hn2 hy.1 hy.2 hk.1 hk.2
      · exact weekTells_week_out yr wk mo k wd y1 m1 d1 y2 m2 d2 w hw he h1 hd hn2 hy.1 hy.2 hk
    · have hl' : 109571 < Cal.num y1 m1 d1 := by omega
      rcases hyc with hy | ⟨hy, hk | hk⟩
      · exact weekTells_late_bad yr wk mo k wd y1 m1 d1 w hw he h1 hl' hy
      · exact weekTells_late_in yr wk mo k wd y1 m1 d1 w hw he h1 hl' hy.1 hy.2 hk.1 hk.2
      · exact weekTells_late_out yr wk mo k wd y1 m1 d1 w hw he h1 hl' hy.1 hy.2 hk
  · have hn' : n < 1 ∨ 109573 < n := by omega
    rcases hyc with hy | ⟨hy, hk | hk⟩
    · exact weekTells_none_bad yr wk mo k wd n w hw he hn' hy
    · exact weekTells_none_in yr wk mo k wd n w hw he hn' hy.1 hy.2 hk.1 hk.2
    · exact weekTells_none_out yr wk mo k wd n w hw he hn' hy.1 hy.2 hk

end Go.Proofs.YtdamncbgobjpdaaDoor
