/- The law ZoneTells: what is wrong with any zone, how far it is ahead, which time it is there, and when it is so there: program and reference are one, for every input. The walk: a zone that is wrong; three ways of the one time, three of the other. -/
import Derived.Test.YtdamncbgobjpdaaDoorRefZ
import Derived.Test.YtdamncbgobjpdaaDoorZoneD
import Derived.Test.YtdamncbgobjpdaaDoorErr
namespace Go.Proofs.YtdamncbgobjpdaaDoor
open Go.RowKit

theorem shF_bd : ∀ (L : List (Int × Int)) (p : Option Int), 0 ≤ shF p L ∧ shF p L ≤ 7
  | [], _ => by rw [shF]; omega
  | s :: r, p => by
    rw [shF]
    split
    · split
      · omega
      · exact shF_bd r _
    · omega

theorem zfault_bd (ah : Int) (L : List (Int × Int)) : 0 ≤ zfault ah L ∧ zfault ah L ≤ 7 := by
  rw [zfault]
  split
  · omega
  · split
    · exact shF_bd L none
    · omega

theorem localE_1 {ah t : Int} {L : List (Int × Int)} (h : zfault ah L = 0) (h2 : timeB t = false ∨ timeB (t + zoneOf ah L t) = false) : localE ah L t = 1 := by
  rw [localE, if_neg (by rw [h]; simp), if_neg (by rcases h2 with h2 | h2 <;> simp [h2])]

theorem localE_c {ah t c : Int} {L : List (Int × Int)} (h : zfault ah L = c) (hc : c ≠ 0) : localE ah L t = c := by
  rw [localE, if_pos (by rw [h]; exact hc), h]

theorem intsB_nil : intsB [] [] = true := by decide

theorem intsB_same (a : List Int) : intsB a a = true := by simp [intsB]

set_option maxRecDepth 100000 in
set_option maxHeartbeats 8000000 in
theorem zoneTells_fault (v : Value) (L : List (Int × Int)) (ah at_ t : Int) (w : World) (he : ErrT w) (hL : PairsR w v L) (c : Int) (F0 : zfault ah L = c) (hc0 : c ≠ 0) :
    Calls Tryd.prog 11 #[.agg #[.int .i64 ah, v], .int .i64 at_, .int .i64 t] w fun e w' => e = .returned (.bool true) ∧ Below w.heap.size w w' := by
  have F := Lib.hid F0; clear F0
  have hbd := zfault_bd ah L
  rw [F.out] at hbd
  obtain ⟨c1, c2⟩ := hbd
  have C := Lib.hid hc0
  have hc1 : (c == 0) = false := by simpa using hc0
  have CE := Lib.hid (show errV c = .iface 114 (.int .i64 c) by rw [errV, if_neg hc0])
  clear hc0
  have hL0 := hL
  obtain ⟨a, cap, rfl, _, _, _⟩ := hL0
  go_enter Tryd.func11, Tryd.ntmps11
  go_wp2_with fail
  obtain ⟨w1, hq1⟩ : ∃ x, x = w.alloc (.cells #[.int .i64 ah, .slice a L.length cap] 100) := ⟨_, rfl⟩
  rw [← hq1]
  have hb1 : Below w.heap.size w w1 := by rw [hq1]; exact (Below.refl _ _).alloc (Nat.le_refl _) _
  have d_1_0 : w1.cell? ⟨w.heap.size, 0, none⟩ = some (.int .i64 ah) := by rw [hq1]; simp
  have d_1_1 : w1.cell? ⟨w.heap.size, 1, none⟩ = some (.slice a L.length cap) := by rw [hq1]; simp
  have m_1 : w.heap.size < w1.heap.size := by rw [hq1]; simp
  clear hq1
  have he_2 := he.below hb1
  have hL_2 := hL.below hb1
  have z_2 : Below w.heap.size w w1 := hb1
  clear he hL hb1
  refine (rzone_any _ L ah w1 hL_2).mono ?_; rintro e w3 ⟨rfl, hb3⟩
  rw [F.out]
  have he_4 := he_2.below hb3
  have hL_4 := hL_2.below hb3
  have c_4_0 := (hb3.cell (p := ⟨w.heap.size, 0, none⟩) m_1).trans d_1_0
  have c_4_1 := (hb3.cell (p := ⟨w.heap.size, 1, none⟩) m_1).trans d_1_1
  have l_4_0 : w.heap.size < w3.heap.size := Nat.lt_of_lt_of_le m_1 hb3.size
  have z_4 : Below w.heap.size w w3 := z_2.trans (hb3.mono z_2.size)
  clear he_2 hL_2 d_1_0 d_1_1 m_1 z_2 hb3
  go_wp2_with fail
  refine (zcheck_any _ L ah w3 hL_4).mono ?_; rintro e w5 ⟨rfl, hb5⟩
  rw [F.out, CE.out]
  have he_6 := he_4.below hb5
  have hL_6 := hL_4.below hb5
  have c_6_0 := (hb5.cell (p := ⟨w.heap.size, 0, none⟩) l_4_0).trans c_4_0
  have c_6_1 := (hb5.cell (p := ⟨w.heap.size, 1, none⟩) l_4_0).trans c_4_1
  have l_6_0 : w.heap.size < w5.heap.size := Nat.lt_of_lt_of_le l_4_0 hb5.size
  have z_6 : Below w.heap.size w w5 := z_4.trans (hb5.mono z_4.size)
  clear he_4 hL_4 c_4_0 c_4_1 l_4_0 z_4 hb5
  go_wp2_with fail
  refine ((error_no c c w5 true he_6 (by simp) (by omega) (by omega))).mono ?_; rintro e w7 ⟨rfl, hb7⟩
  have he_8 := he_6.below hb7
  have hL_8 := hL_6.below hb7
  have c_8_0 := (hb7.cell (p := ⟨w.heap.size, 0, none⟩) l_6_0).trans c_6_0
  have c_8_1 := (hb7.cell (p := ⟨w.heap.size, 1, none⟩) l_6_0).trans c_6_1
  have l_8_0 : w.heap.size < w7.heap.size := Nat.lt_of_lt_of_le l_6_0 hb7.size
  have z_8 : Below w.heap.size w w7 := z_6.trans (hb7.mono z_6.size)
  clear he_6 hL_6 c_6_0 c_6_1 l_6_0 z_6 hb7
  go_wp2_with fail
  refine (rtime_any at_ w7).mono ?_; rintro e w' ⟨rfl, rfl⟩
  go_wp2_with fail
  refine (ahead_no _ L ah at_ c w7 hL_8 C.out (.inl F.out)).mono ?_; rintro e w9 ⟨rfl, hb9⟩
  have he_10 := he_8.below hb9
  have hL_10 := hL_8.below hb9
  have c_10_0 := (hb9.cell (p := ⟨w.heap.size, 0, none⟩) l_8_0).trans c_8_0
  have c_10_1 := (hb9.cell (p := ⟨w.heap.size, 1, none⟩) l_8_0).trans c_8_1
  have l_10_0 : w.heap.size < w9.heap.size := Nat.lt_of_lt_of_le l_8_0 hb9.size
  have z_10 : Below w.heap.size w w9 := z_8.trans (hb9.mono z_8.size)
  clear he_8 hL_8 c_8_0 c_8_1 l_8_0 z_8 hb9
  go_wp2_with fail
  refine ((error_no c c w9 true he_10 (by simp) (by omega) (by omega))).mono ?_; rintro e w11 ⟨rfl, hb11⟩
  have he_12 := he_10.below hb11
  have hL_12 := hL_10.below hb11
  have c_12_0 := (hb11.cell (p := ⟨w.heap.size, 0, none⟩) l_10_0).trans c_10_0
  have c_12_1 := (hb11.cell (p := ⟨w.heap.size, 1, none⟩) l_10_0).trans c_10_1
  have l_12_0 : w.heap.size < w11.heap.size := Nat.lt_of_lt_of_le l_10_0 hb11.size
  have z_12 : Below w.heap.size w w11 := z_10.trans (hb11.mono z_10.size)
  clear he_10 hL_10 c_10_0 c_10_1 l_10_0 z_10 hb11
  go_wp2_with fail
  refine (local_no _ L ah at_ c w11 hL_12 C.out (localE_c F.out C.out)).mono ?_; rintro e w13 ⟨rfl, hb13⟩
  have he_14 := he_12.below hb13
  have hL_14 := hL_12.below hb13
  have c_14_0 := (hb13.cell (p := ⟨w.heap.size, 0, none⟩) l_12_0).trans c_12_0
  have c_14_1 := (hb13.cell (p := ⟨w.heap.size, 1, none⟩) l_12_0).trans c_12_1
  have l_14_0 : w.heap.size < w13.heap.size := Nat.lt_of_lt_of_le l_12_0 hb13.size
  have z_14 : Below w.heap.size w w13 := z_12.trans (hb13.mono z_12.size)
  clear he_12 hL_12 c_12_0 c_12_1 l_12_0 z_12 hb13
  go_wp2_with fail
  refine ((error_no c c w13 true he_14 (by simp) (by omega) (by omega))).mono ?_; rintro e w15 ⟨rfl, hb15⟩
  have he_16 := he_14.below hb15
  have hL_16 := hL_14.below hb15
  have c_16_0 := (hb15.cell (p := ⟨w.heap.size, 0, none⟩) l_14_0).trans c_14_0
  have c_16_1 := (hb15.cell (p := ⟨w.heap.size, 1, none⟩) l_14_0).trans c_14_1
  have l_16_0 : w.heap.size < w15.heap.size := Nat.lt_of_lt_of_le l_14_0 hb15.size
  have z_16 : Below w.heap.size w w15 := z_14.trans (hb15.mono z_14.size)
  clear he_14 hL_14 c_14_0 c_14_1 l_14_0 z_14 hb15
  go_wp2_with fail
  refine (rtime_any t w15).mono ?_; rintro e w' ⟨rfl, rfl⟩
  go_wp2_with fail
  refine (twice_no _ L ah t c w15 hL_16 C.out (.inl F.out)).mono ?_; rintro e w17 ⟨rfl, hb17⟩
  have he_18 := he_16.below hb17
  have hL_18 := hL_16.below hb17
  have c_18_0 := (hb17.cell (p := ⟨w.heap.size, 0, none⟩) l_16_0).trans c_16_0
  have c_18_1 := (hb17.cell (p := ⟨w.heap.size, 1, none⟩) l_16_0).trans c_16_1
  have l_18_0 : w.heap.size < w17.heap.size := Nat.lt_of_lt_of_le l_16_0 hb17.size
  have z_18 : Below w.heap.size w w17 := z_16.trans (hb17.mono z_16.size)
  clear he_16 hL_16 c_16_0 c_16_1 l_16_0 z_16 hb17
  go_wp2_with fail
  refine ((error_no c c w17 true he_18 (by simp) (by omega) (by omega))).mono ?_; rintro e w19 ⟨rfl, hb19⟩
  have he_20 := he_18.below hb19
  have hL_20 := hL_18.below hb19
  have c_20_0 := (hb19.cell (p := ⟨w.heap.size, 0, none⟩) l_18_0).trans c_18_0
  have c_20_1 := (hb19.cell (p := ⟨w.heap.size, 1, none⟩) l_18_0).trans c_18_1
  have l_20_0 : w.heap.size < w19.heap.size := Nat.lt_of_lt_of_le l_18_0 hb19.size
  have z_20 : Below w.heap.size w w19 := z_18.trans (hb19.mono z_18.size)
  clear he_18 hL_18 c_18_0 c_18_1 l_18_0 z_18 hb19
  go_wp2_with fail
  refine (ints_any _ _ [] [] w19 (intsR_nil _) (intsR_nil _)).mono ?_; rintro e w21 ⟨rfl, hb21⟩
  rw [intsB_nil]
  have he_22 := he_20.below hb21
  have hL_22 := hL_20.below hb21
  have c_22_0 := (hb21.cell (p := ⟨w.heap.size, 0, none⟩) l_20_0).trans c_20_0
  have c_22_1 := (hb21.cell (p := ⟨w.heap.size, 1, none⟩) l_20_0).trans c_20_1
  have l_22_0 : w.heap.size < w21.heap.size := Nat.lt_of_lt_of_le l_20_0 hb21.size
  have z_22 : Below w.heap.size w w21 := z_20.trans (hb21.mono z_20.size)
  clear he_20 hL_20 c_20_0 c_20_1 l_20_0 z_20 hb21
  go_wp2_with fail
  refine (world_no _ L ah t c w21 hL_22 C.out (.inl F.out)).mono ?_; rintro e w23 ⟨rfl, hb23⟩
  have he_24 := he_22.below hb23
  have hL_24 := hL_22.below hb23
  have c_24_0 := (hb23.cell (p := ⟨w.heap.size, 0, none⟩) l_22_0).trans c_22_0
  have c_24_1 := (hb23.cell (p := ⟨w.heap.size, 1, none⟩) l_22_0).trans c_22_1
  have l_24_0 : w.heap.size < w23.heap.size := Nat.lt_of_lt_of_le l_22_0 hb23.size
  have z_24 : Below w.heap.size w w23 := z_22.trans (hb23.mono z_22.size)
  clear he_22 hL_22 c_22_0 c_22_1 l_22_0 z_22 hb23
  go_wp2_with fail
  refine ((error_no c c w23 true he_24 (by simp) (by omega) (by omega))).mono ?_; rintro e w25 ⟨rfl, hb25⟩
  have he_26 := he_24.below hb25
  have hL_26 := hL_24.below hb25
  have c_26_0 := (hb25.cell (p := ⟨w.heap.size, 0, none⟩) l_24_0).trans c_24_0
  have c_26_1 := (hb25.cell (p := ⟨w.heap.size, 1, none⟩) l_24_0).trans c_24_1
  have l_26_0 : w.heap.size < w25.heap.size := Nat.lt_of_lt_of_le l_24_0 hb25.size
  have z_26 : Below w.heap.size w w25 := z_24.trans (hb25.mono z_24.size)
  clear he_24 hL_24 c_24_0 c_24_1 l_24_0 z_24 hb25
  go_wp2
  go_ret
  exact ⟨by simp, z_26⟩

set_option maxRecDepth 100000 in
set_option maxHeartbeats 8000000 in
theorem zoneTells_bad_bad (v : Value) (L : List (Int × Int)) (ah at_ t : Int) (w : World) (he : ErrT w) (hL : PairsR w v L) (F0 : zfault ah L = 0) (A0 : timeB at_ = false) (T0 : timeB t = false) :
    Calls Tryd.prog 11 #[.agg #[.int .i64 ah, v], .int .i64 at_, .int .i64 t] w fun e w' => e = .returned (.bool true) ∧ Below w.heap.size w w' := by
  have F := Lib.hid F0; clear F0
  have A := Lib.hid A0; clear A0
  have T := Lib.hid T0; clear T0
  have hL0 := hL
  obtain ⟨a, cap, rfl, _, _, _⟩ := hL0
  go_enter Tryd.func11, Tryd.ntmps11
  go_wp2_with fail
  obtain ⟨w1, hq1⟩ : ∃ x, x = w.alloc (.cells #[.int .i64 ah, .slice a L.length cap] 100) := ⟨_, rfl⟩
  rw [← hq1]
  have hb1 : Below w.heap.size w w1 := by rw [hq1]; exact (Below.refl _ _).alloc (Nat.le_refl _) _
  have d_1_0 : w1.cell? ⟨w.heap.size, 0, none⟩ = some (.int .i64 ah) := by rw [hq1]; simp
  have d_1_1 : w1.cell? ⟨w.heap.size, 1, none⟩ = some (.slice a L.length cap) := by rw [hq1]; simp
  have m_1 : w.heap.size < w1.heap.size := by rw [hq1]; simp
  clear hq1
  have he_2 := he.below hb1
  have hL_2 := hL.below hb1
  have z_2 : Below w.heap.size w w1 := hb1
  clear he hL hb1
  refine (rzone_any _ L ah w1 hL_2).mono ?_; rintro e w3 ⟨rfl, hb3⟩
  rw [F.out]
  have he_4 := he_2.below hb3
  have hL_4 := hL_2.below hb3
  have c_4_0 := (hb3.cell (p := ⟨w.heap.size, 0, none⟩) m_1).trans d_1_0
  have c_4_1 := (hb3.cell (p := ⟨w.heap.size, 1, none⟩) m_1).trans d_1_1
  have l_4_0 : w.heap.size < w3.heap.size := Nat.lt_of_lt_of_le m_1 hb3.size
  have z_4 : Below w.heap.size w w3 := z_2.trans (hb3.mono z_2.size)
  clear he_2 hL_2 d_1_0 d_1_1 m_1 z_2 hb3
  go_wp2_with fail
  refine (zcheck_any _ L ah w3 hL_4).mono ?_; rintro e w5 ⟨rfl, hb5⟩
  rw [F.out, errV_0]
  have he_6 := he_4.below hb5
  have hL_6 := hL_4.below hb5
  have c_6_0 := (hb5.cell (p := ⟨w.heap.size, 0, none⟩) l_4_0).trans c_4_0
  have c_6_1 := (hb5.cell (p := ⟨w.heap.size, 1, none⟩) l_4_0).trans c_4_1
  have l_6_0 : w.heap.size < w5.heap.size := Nat.lt_of_lt_of_le l_4_0 hb5.size
  have z_6 : Below w.heap.size w w5 := z_4.trans (hb5.mono z_4.size)
  clear he_4 hL_4 c_4_0 c_4_1 l_4_0 z_4 hb5
  go_wp2_with fail
  refine ((error_nil 0 w5 true (by decide))).mono ?_; rintro e w7 ⟨rfl, hb7⟩
  have he_8 := he_6.below hb7
  have hL_8 := hL_6.below hb7
  have c_8_0 := (hb7.cell (p := ⟨w.heap.size, 0, none⟩) l_6_0).trans c_6_0
  have c_8_1 := (hb7.cell (p := ⟨w.heap.size, 1, none⟩) l_6_0).trans c_6_1
  have l_8_0 : w.heap.size < w7.heap.size := Nat.lt_of_lt_of_le l_6_0 hb7.size
  have z_8 : Below w.heap.size w w7 := z_6.trans (hb7.mono z_6.size)
  clear he_6 hL_6 c_6_0 c_6_1 l_6_0 z_6 hb7
  go_wp2_with fail
  refine (rtime_any at_ w7).mono ?_; rintro e w' ⟨rfl, rfl⟩
  rw [A.out]
  go_wp2_with fail
  refine (ahead_no _ L ah at_ 1 w7 hL_8 (by omega) (.inr ⟨F.out, A.out, rfl⟩)).mono ?_; rintro e w9 ⟨rfl, hb9⟩
  have he_10 := he_8.below hb9
  have hL_10 := hL_8.below hb9
  have c_10_0 := (hb9.cell (p := ⟨w.heap.size, 0, none⟩) l_8_0).trans c_8_0
  have c_10_1 := (hb9.cell (p := ⟨w.heap.size, 1, none⟩) l_8_0).trans c_8_1
  have l_10_0 : w.heap.size < w9.heap.size := Nat.lt_of_lt_of_le l_8_0 hb9.size
  have z_10 : Below w.heap.size w w9 := z_8.trans (hb9.mono z_8.size)
  clear he_8 hL_8 c_8_0 c_8_1 l_8_0 z_8 hb9
  go_wp2_with fail
  refine ((error_no 1 1 w9 true he_10 (by simp) (by omega) (by omega))).mono ?_; rintro e w11 ⟨rfl, hb11⟩
  have he_12 := he_10.below hb11
  have hL_12 := hL_10.below hb11
  have c_12_0 := (hb11.cell (p := ⟨w.heap.size, 0, none⟩) l_10_0).trans c_10_0
  have c_12_1 := (hb11.cell (p := ⟨w.heap.size, 1, none⟩) l_10_0).trans c_10_1
  have l_12_0 : w.heap.size < w11.heap.size := Nat.lt_of_lt_of_le l_10_0 hb11.size
  have z_12 : Below w.heap.size w w11 := z_10.trans (hb11.mono z_10.size)
  clear he_10 hL_10 c_10_0 c_10_1 l_10_0 z_10 hb11
  go_wp2_with fail
  refine (local_no _ L ah at_ 1 w11 hL_12 (by omega) (localE_1 F.out (.inl A.out))).mono ?_; rintro e w13 ⟨rfl, hb13⟩
  have he_14 := he_12.below hb13
  have hL_14 := hL_12.below hb13
  have c_14_0 := (hb13.cell (p := ⟨w.heap.size, 0, none⟩) l_12_0).trans c_12_0
  have c_14_1 := (hb13.cell (p := ⟨w.heap.size, 1, none⟩) l_12_0).trans c_12_1
  have l_14_0 : w.heap.size < w13.heap.size := Nat.lt_of_lt_of_le l_12_0 hb13.size
  have z_14 : Below w.heap.size w w13 := z_12.trans (hb13.mono z_12.size)
  clear he_12 hL_12 c_12_0 c_12_1 l_12_0 z_12 hb13
  go_wp2_with fail
  refine ((error_no 1 1 w13 true he_14 (by simp) (by omega) (by omega))).mono ?_; rintro e w15 ⟨rfl, hb15⟩
  have he_16 := he_14.below hb15
  have hL_16 := hL_14.below hb15
  have c_16_0 := (hb15.cell (p := ⟨w.heap.size, 0, none⟩) l_14_0).trans c_14_0
  have c_16_1 := (hb15.cell (p := ⟨w.heap.size, 1, none⟩) l_14_0).trans c_14_1
  have l_16_0 : w.heap.size < w15.heap.size := Nat.lt_of_lt_of_le l_14_0 hb15.size
  have z_16 : Below w.heap.size w w15 := z_14.trans (hb15.mono z_14.size)
  clear he_14 hL_14 c_14_0 c_14_1 l_14_0 z_14 hb15
  go_wp2_with fail
  refine (rtime_any t w15).mono ?_; rintro e w' ⟨rfl, rfl⟩
  rw [T.out]
  go_wp2_with fail
  refine (twice_no _ L ah t 1 w15 hL_16 (by omega) (.inr ⟨F.out, T.out, rfl⟩)).mono ?_; rintro e w17 ⟨rfl, hb17⟩
  have he_18 := he_16.below hb17
  have hL_18 := hL_16.below hb17
  have c_18_0 := (hb17.cell (p := ⟨w.heap.size, 0, none⟩) l_16_0).trans c_16_0
  have c_18_1 := (hb17.cell (p := ⟨w.heap.size, 1, none⟩) l_16_0).trans c_16_1
  have l_18_0 : w.heap.size < w17.heap.size := Nat.lt_of_lt_of_le l_16_0 hb17.size
  have z_18 : Below w.heap.size w w17 := z_16.trans (hb17.mono z_16.size)
  clear he_16 hL_16 c_16_0 c_16_1 l_16_0 z_16 hb17
  go_wp2_with fail
  refine ((error_no 1 1 w17 true he_18 (by simp) (by omega) (by omega))).mono ?_; rintro e w19 ⟨rfl, hb19⟩
  have he_20 := he_18.below hb19
  have hL_20 := hL_18.below hb19
  have c_20_0 := (hb19.cell (p := ⟨w.heap.size, 0, none⟩) l_18_0).trans c_18_0
  have c_20_1 := (hb19.cell (p := ⟨w.heap.size, 1, none⟩) l_18_0).trans c_18_1
  have l_20_0 : w.heap.size < w19.heap.size := Nat.lt_of_lt_of_le l_18_0 hb19.size
  have z_20 : Below w.heap.size w w19 := z_18.trans (hb19.mono z_18.size)
  clear he_18 hL_18 c_18_0 c_18_1 l_18_0 z_18 hb19
  go_wp2_with fail
  refine (ints_any _ _ [] [] w19 (intsR_nil _) (intsR_nil _)).mono ?_; rintro e w21 ⟨rfl, hb21⟩
  rw [intsB_nil]
  have he_22 := he_20.below hb21
  have hL_22 := hL_20.below hb21
  have c_22_0 := (hb21.cell (p := ⟨w.heap.size, 0, none⟩) l_20_0).trans c_20_0
  have c_22_1 := (hb21.cell (p := ⟨w.heap.size, 1, none⟩) l_20_0).trans c_20_1
  have l_22_0 : w.heap.size < w21.heap.size := Nat.lt_of_lt_of_le l_20_0 hb21.size
  have z_22 : Below w.heap.size w w21 := z_20.trans (hb21.mono z_20.size)
  clear he_20 hL_20 c_20_0 c_20_1 l_20_0 z_20 hb21
  go_wp2_with fail
  refine (world_no _ L ah t 1 w21 hL_22 (by omega) (.inr ⟨F.out, T.out, rfl⟩)).mono ?_; rintro e w23 ⟨rfl, hb23⟩
  have he_24 := he_22.below hb23
  have hL_24 := hL_22.below hb23
  have c_24_0 := (hb23.cell (p := ⟨w.heap.size, 0, none⟩) l_22_0).trans c_22_0
  have c_24_1 := (hb23.cell (p := ⟨w.heap.size, 1, none⟩) l_22_0).trans c_22_1
  have l_24_0 : w.heap.size < w23.heap.size := Nat.lt_of_lt_of_le l_22_0 hb23.size
  have z_24 : Below w.heap.size w w23 := z_22.trans (hb23.mono z_22.size)
  clear he_22 hL_22 c_22_0 c_22_1 l_22_0 z_22 hb23
  go_wp2_with fail
  refine ((error_no 1 1 w23 true he_24 (by simp) (by omega) (by omega))).mono ?_; rintro e w25 ⟨rfl, hb25⟩
  have he_26 := he_24.below hb25
  have hL_26 := hL_24.below hb25
  have c_26_0 := (hb25.cell (p := ⟨w.heap.size, 0, none⟩) l_24_0).trans c_24_0
  have c_26_1 := (hb25.cell (p := ⟨w.heap.size, 1, none⟩) l_24_0).trans c_24_1
  have l_26_0 : w.heap.size < w25.heap.size := Nat.lt_of_lt_of_le l_24_0 hb25.size
  have z_26 : Below w.heap.size w w25 := z_24.trans (hb25.mono z_24.size)
  clear he_24 hL_24 c_24_0 c_24_1 l_24_0 z_24 hb25
  go_wp2
  go_ret
  exact ⟨by simp, z_26⟩

set_option maxRecDepth 100000 in
set_option maxHeartbeats 8000000 in
theorem zoneTells_bad_gap (v : Value) (L : List (Int × Int)) (ah at_ t : Int) (w : World) (he : ErrT w) (hL : PairsR w v L) (F0 : zfault ah L = 0) (A0 : timeB at_ = false) (T0 : timeB t = true) (X0 : zoneAll ah L t = []) :
    Calls Tryd.prog 11 #[.agg #[.int .i64 ah, v], .int .i64 at_, .int .i64 t] w fun e w' => e = .returned (.bool true) ∧ Below w.heap.size w w' := by
  have F := Lib.hid F0; clear F0
  have A := Lib.hid A0; clear A0
  obtain ⟨t1, t2⟩ := timeB_yes T0
  have X := Lib.hid X0; clear X0
  have T := Lib.hid T0; clear T0
  have hL0 := hL
  obtain ⟨a, cap, rfl, _, _, _⟩ := hL0
  go_enter Tryd.func11, Tryd.ntmps11
  go_wp2_with fail
  obtain ⟨w1, hq1⟩ : ∃ x, x = w.alloc (.cells #[.int .i64 ah, .slice a L.length cap] 100) := ⟨_, rfl⟩
  rw [← hq1]
  have hb1 : Below w.heap.size w w1 := by rw [hq1]; exact (Below.refl _ _).alloc (Nat.le_refl _) _
  have d_1_0 : w1.cell? ⟨w.heap.size, 0, none⟩ = some (.int .i64 ah) := by rw [hq1]; simp
  have d_1_1 : w1.cell? ⟨w.heap.size, 1, none⟩ = some (.slice a L.length cap) := by rw [hq1]; simp
  have m_1 : w.heap.size < w1.heap.size := by rw [hq1]; simp
  clear hq1
  have he_2 := he.below hb1
  have hL_2 := hL.below hb1
  have z_2 : Below w.heap.size w w1 := hb1
  clear he hL hb1
  refine (rzone_any _ L ah w1 hL_2).mono ?_; rintro e w3 ⟨rfl, hb3⟩
  rw [F.out]
  have he_4 := he_2.below hb3
  have hL_4 := hL_2.below hb3
  have c_4_0 := (hb3.cell (p := ⟨w.heap.size, 0, none⟩) m_1).trans d_1_0
  have c_4_1 := (hb3.cell (p := ⟨w.heap.size, 1, none⟩) m_1).trans d_1_1
  have l_4_0 : w.heap.size < w3.heap.size := Nat.lt_of_lt_of_le m_1 hb3.size
  have z_4 : Below w.heap.size w w3 := z_2.trans (hb3.mono z_2.size)
  clear he_2 hL_2 d_1_0 d_1_1 m_1 z_2 hb3
  go_wp2_with fail
  refine (zcheck_any _ L ah w3 hL_4).mono ?_; rintro e w5 ⟨rfl, hb5⟩
  rw [F.out, errV_0]
  have he_6 := he_4.below hb5
  have hL_6 := hL_4.below hb5
  have c_6_0 := (hb5.cell (p := ⟨w.heap.size, 0, none⟩) l_4_0).trans c_4_0
  have c_6_1 := (hb5.cell (p := ⟨w.heap.size, 1, none⟩) l_4_0).trans c_4_1
  have l_6_0 : w.heap.size < w5.heap.size := Nat.lt_of_lt_of_le l_4_0 hb5.size
  have z_6 : Below w.heap.size w w5 := z_4.trans (hb5.mono z_4.size)
  clear he_4 hL_4 c_4_0 c_4_1 l_4_0 z_4 hb5
  go_wp2_with fail
  refine ((error_nil 0 w5 true (by decide))).mono ?_; rintro e w7 ⟨rfl, hb7⟩
  have he_8 := he_6.below hb7
  have hL_8 := hL_6.below hb7
  have c_8_0 := (hb7.cell (p := ⟨w.heap.size, 0, none⟩) l_6_0).trans c_6_0
  have c_8_1 := (hb7.cell (p := ⟨w.heap.size, 1, none⟩) l_6_0).trans c_6_1
  have l_8_0 : w.heap.size < w7.heap.size := Nat.lt_of_lt_of_le l_6_0 hb7.size
  have z_8 : Below w.heap.size w w7 := z_6.trans (hb7.mono z_6.size)
  clear he_6 hL_6 c_6_0 c_6_1 l_6_0 z_6 hb7
  go_wp2_with fail
  refine (rtime_any at_ w7).mono ?_; rintro e w' ⟨rfl, rfl⟩
  rw [A.out]
  go_wp2_with fail
  refine (ahead_no _ L ah at_ 1 w7 hL_8 (by omega) (.inr ⟨F.out, A.out, rfl⟩)).mono ?_; rintro e w9 ⟨rfl, hb9⟩
  have he_10 := he_8.below hb9
  have hL_10 := hL_8.below hb9
  have c_10_0 := (hb9.cell (p := ⟨w.heap.size, 0, none⟩) l_8_0).trans c_8_0
  have c_10_1 := (hb9.cell (p := ⟨w.heap.size, 1, none⟩) l_8_0).trans c_8_1
  have l_10_0 : w.heap.size < w9.heap.size := Nat.lt_of_lt_of_le l_8_0 hb9.size
  have z_10 : Below w.heap.size w w9 := z_8.trans (hb9.mono z_8.size)
  clear he_8 hL_8 c_8_0 c_8_1 l_8_0 z_8 hb9
  go_wp2_with fail
  refine ((error_no 1 1 w9 true he_10 (by simp) (by omega) (by omega))).mono ?_; rintro e w11 ⟨rfl, hb11⟩
  have he_12 := he_10.below hb11
  have hL_12 := hL_10.below hb11
  have c_12_0 := (hb11.cell (p := ⟨w.heap.size, 0, none⟩) l_10_0).trans c_10_0
  have c_12_1 := (hb11.cell (p := ⟨w.heap.size, 1, none⟩) l_10_0).trans c_10_1
  have l_12_0 : w.heap.size < w11.heap.size := Nat.lt_of_lt_of_le l_10_0 hb11.size
  have z_12 : Below w.heap.size w w11 := z_10.trans (hb11.mono z_10.size)
  clear he_10 hL_10 c_10_0 c_10_1 l_10_0 z_10 hb11
  go_wp2_with fail
  refine (local_no _ L ah at_ 1 w11 hL_12 (by omega) (localE_1 F.out (.inl A.out))).mono ?_; rintro e w13 ⟨rfl, hb13⟩
  have he_14 := he_12.below hb13
  have hL_14 := hL_12.below hb13
  have c_14_0 := (hb13.cell (p := ⟨w.heap.size, 0, none⟩) l_12_0).trans c_12_0
  have c_14_1 := (hb13.cell (p := ⟨w.heap.size, 1, none⟩) l_12_0).trans c_12_1
  have l_14_0 : w.heap.size < w13.heap.size := Nat.lt_of_lt_of_le l_12_0 hb13.size
  have z_14 : Below w.heap.size w w13 := z_12.trans (hb13.mono z_12.size)
  clear he_12 hL_12 c_12_0 c_12_1 l_12_0 z_12 hb13
  go_wp2_with fail
  refine ((error_no 1 1 w13 true he_14 (by simp) (by omega) (by omega))).mono ?_; rintro e w15 ⟨rfl, hb15⟩
  have he_16 := he_14.below hb15
  have hL_16 := hL_14.below hb15
  have c_16_0 := (hb15.cell (p := ⟨w.heap.size, 0, none⟩) l_14_0).trans c_14_0
  have c_16_1 := (hb15.cell (p := ⟨w.heap.size, 1, none⟩) l_14_0).trans c_14_1
  have l_16_0 : w.heap.size < w15.heap.size := Nat.lt_of_lt_of_le l_14_0 hb15.size
  have z_16 : Below w.heap.size w w15 := z_14.trans (hb15.mono z_14.size)
  clear he_14 hL_14 c_14_0 c_14_1 l_14_0 z_14 hb15
  go_wp2_with fail
  refine (rtime_any t w15).mono ?_; rintro e w' ⟨rfl, rfl⟩
  rw [T.out]
  go_wp2_with fail
  refine (rtwice_any _ L ah t w15 hL_16 F.out (by omega) t2).mono ?_; rintro e w17 ⟨u17, rfl, hu17, hb17⟩
  have hU17 := intsR_of_owns hu17; clear hu17
  rw [X.out] at hU17
  have he_18 := he_16.below hb17
  have hL_18 := hL_16.below hb17
  have c_18_0 := (hb17.cell (p := ⟨w.heap.size, 0, none⟩) l_16_0).trans c_16_0
  have c_18_1 := (hb17.cell (p := ⟨w.heap.size, 1, none⟩) l_16_0).trans c_16_1
  have l_18_0 : w.heap.size < w17.heap.size := Nat.lt_of_lt_of_le l_16_0 hb17.size
  have z_18 : Below w.heap.size w w17 := z_16.trans (hb17.mono z_16.size)
  clear he_16 hL_16 c_16_0 c_16_1 l_16_0 z_16 hb17
  obtain ⟨au, capu, rfl, p1, p2, hcu⟩ := intsR_open hU17
  clear hcu
  unfold maxLen at p2
  go_wp2_with fail
  refine (twice_yes _ L ah t w17 hL_18 F.out T.out).mono ?_; rintro e w19 ⟨u19, rfl, hu19, hb19⟩
  rw [X.out] at hu19
  have he_20 := he_18.below hb19
  have hL_20 := hL_18.below hb19
  have hU_20 := hU17.below hb19
  have c_20_0 := (hb19.cell (p := ⟨w.heap.size, 0, none⟩) l_18_0).trans c_18_0
  have c_20_1 := (hb19.cell (p := ⟨w.heap.size, 1, none⟩) l_18_0).trans c_18_1
  have l_20_0 : w.heap.size < w19.heap.size := Nat.lt_of_lt_of_le l_18_0 hb19.size
  have z_20 : Below w.heap.size w w19 := z_18.trans (hb19.mono z_18.size)
  clear he_18 hL_18 hU17 c_18_0 c_18_1 l_18_0 z_18 hb19
  go_wp2_with fail
  refine ((error_nil 0 w19 true (by decide))).mono ?_; rintro e w21 ⟨rfl, hb21⟩
  have he_22 := he_20.below hb21
  have hL_22 := hL_20.below hb21
  have hU_22 := hU_20.below hb21
  have hM_22 := hu19.below hb21
  have c_22_0 := (hb21.cell (p := ⟨w.heap.size, 0, none⟩) l_20_0).trans c_20_0
  have c_22_1 := (hb21.cell (p := ⟨w.heap.size, 1, none⟩) l_20_0).trans c_20_1
  have l_22_0 : w.heap.size < w21.heap.size := Nat.lt_of_lt_of_le l_20_0 hb21.size
  have z_22 : Below w.heap.size w w21 := z_20.trans (hb21.mono z_20.size)
  clear he_20 hL_20 hU_20 hu19 c_20_0 c_20_1 l_20_0 z_20 hb21
  go_wp2_with fail
  refine (ints_any _ _ [] [] w21 hM_22 hU_22).mono ?_; rintro e w23 ⟨rfl, hb23⟩
  rw [intsB_same]
  have he_24 := he_22.below hb23
  have hL_24 := hL_22.below hb23
  have hU_24 := hU_22.below hb23
  have hM_24 := hM_22.below hb23
  have c_24_0 := (hb23.cell (p := ⟨w.heap.size, 0, none⟩) l_22_0).trans c_22_0
  have c_24_1 := (hb23.cell (p := ⟨w.heap.size, 1, none⟩) l_22_0).trans c_22_1
  have l_24_0 : w.heap.size < w23.heap.size := Nat.lt_of_lt_of_le l_22_0 hb23.size
  have z_24 : Below w.heap.size w w23 := z_22.trans (hb23.mono z_22.size)
  clear he_22 hL_22 hU_22 hM_22 c_22_0 c_22_1 l_22_0 z_22 hb23
  go_wp2_with fail
  refine (world_gap _ L ah t w23 hL_24 F.out T.out X.out).mono ?_; rintro e w25 ⟨rfl, hb25⟩
  have he_26 := he_24.below hb25
  have hL_26 := hL_24.below hb25
  have hU_26 := hU_24.below hb25
  have hM_26 := hM_24.below hb25
  have c_26_0 := (hb25.cell (p := ⟨w.heap.size, 0, none⟩) l_24_0).trans c_24_0
  have c_26_1 := (hb25.cell (p := ⟨w.heap.size, 1, none⟩) l_24_0).trans c_24_1
  have l_26_0 : w.heap.size < w25.heap.size := Nat.lt_of_lt_of_le l_24_0 hb25.size
  have z_26 : Below w.heap.size w w25 := z_24.trans (hb25.mono z_24.size)
  clear he_24 hL_24 hU_24 hM_24 c_24_0 c_24_1 l_24_0 z_24 hb25
  go_wp2_with fail
  refine ((error_no 8 8 w25 true he_26 (by simp) (by omega) (by omega))).mono ?_; rintro e w27 ⟨rfl, hb27⟩
  have he_28 := he_26.below hb27
  have hL_28 := hL_26.below hb27
  have hU_28 := hU_26.below hb27
  have hM_28 := hM_26.below hb27
  have c_28_0 := (hb27.cell (p := ⟨w.heap.size, 0, none⟩) l_26_0).trans c_26_0
  have c_28_1 := (hb27.cell (p := ⟨w.heap.size, 1, none⟩) l_26_0).trans c_26_1
  have l_28_0 : w.heap.size < w27.heap.size := Nat.lt_of_lt_of_le l_26_0 hb27.size
  have z_28 : Below w.heap.size w w27 := z_26.trans (hb27.mono z_26.size)
  clear he_26 hL_26 hU_26 hM_26 c_26_0 c_26_1 l_26_0 z_26 hb27
  go_wp2
  go_ret
  exact ⟨by simp, z_28⟩

set_option maxRecDepth 100000 in
set_option maxHeartbeats 8000000 in
theorem zoneTells_bad_yes (v : Value) (L : List (Int × Int)) (ah at_ t : Int) (w : World) (he : ErrT w) (hL : PairsR w v L) (F0 : zfault ah L = 0) (A0 : timeB at_ = false) (T0 : timeB t = true) (x : Int) (r : List Int) (X0 : zoneAll ah L t = x :: r) :
    Calls Tryd.prog 11 #[.agg #[.int .i64 ah, v], .int .i64 at_, .int .i64 t] w fun e w' => e = .returned (.bool true) ∧ Below w.heap.size w w' := by
  have F := Lib.hid F0; clear F0
  have A := Lib.hid A0; clear A0
  obtain ⟨t1, t2⟩ := timeB_yes T0
  have X := Lib.hid X0; clear X0
  have T := Lib.hid T0; clear T0
  have hL0 := hL
  obtain ⟨a, cap, rfl, _, _, _⟩ := hL0
  go_enter Tryd.func11, Tryd.ntmps11
  go_wp2_with fail
  obtain ⟨w1, hq1⟩ : ∃ x, x = w.alloc (.cells #[.int .i64 ah, .slice a L.length cap] 100) := ⟨_, rfl⟩
  rw [← hq1]
  have hb1 : Below w.heap.size w w1 := by rw [hq1]; exact (Below.refl _ _).alloc (Nat.le_refl _) _
  have d_1_0 : w1.cell? ⟨w.heap.size, 0, none⟩ = some (.int .i64 ah) := by rw [hq1]; simp
  have d_1_1 : w1.cell? ⟨w.heap.size, 1, none⟩ = some (.slice a L.length cap) := by rw [hq1]; simp
  have m_1 : w.heap.size < w1.heap.size := by rw [hq1]; simp
  clear hq1
  have he_2 := he.below hb1
  have hL_2 := hL.below hb1
  have z_2 : Below w.heap.size w w1 := hb1
  clear he hL hb1
  refine (rzone_any _ L ah w1 hL_2).mono ?_; rintro e w3 ⟨rfl, hb3⟩
  rw [F.out]
  have he_4 := he_2.below hb3
  have hL_4 := hL_2.below hb3
  have c_4_0 := (hb3.cell (p := ⟨w.heap.size, 0, none⟩) m_1).trans d_1_0
  have c_4_1 := (hb3.cell (p := ⟨w.heap.size, 1, none⟩) m_1).trans d_1_1
  have l_4_0 : w.heap.size < w3.heap.size := Nat.lt_of_lt_of_le m_1 hb3.size
  have z_4 : Below w.heap.size w w3 := z_2.trans (hb3.mono z_2.size)
  clear he_2 hL_2 d_1_0 d_1_1 m_1 z_2 hb3
  go_wp2_with fail
  refine (zcheck_any _ L ah w3 hL_4).mono ?_; rintro e w5 ⟨rfl, hb5⟩
  rw [F.out, errV_0]
  have he_6 := he_4.below hb5
  have hL_6 := hL_4.below hb5
  have c_6_0 := (hb5.cell (p := ⟨w.heap.size, 0, none⟩) l_4_0).trans c_4_0
  have c_6_1 := (hb5.cell (p := ⟨w.heap.size, 1, none⟩) l_4_0).trans c_4_1
  have l_6_0 : w.heap.size < w5.heap.size := Nat.lt_of_lt_of_le l_4_0 hb5.size
  have z_6 : Below w.heap.size w w5 := z_4.trans (hb5.mono z_4.size)
  clear he_4 hL_4 c_4_0 c_4_1 l_4_0 z_4 hb5
  go_wp2_with fail
  refine ((error_nil 0 w5 true (by decide))).mono ?_; rintro e w7 ⟨rfl, hb7⟩
  have he_8 := he_6.below hb7
  have hL_8 := hL_6.below hb7
  have c_8_0 := (hb7.cell (p := ⟨w.heap.size, 0, none⟩) l_6_0).trans c_6_0
  have c_8_1 := (hb7.cell (p := ⟨w.heap.size, 1, none⟩) l_6_0).trans c_6_1
  have l_8_0 : w.heap.size < w7.heap.size := Nat.lt_of_lt_of_le l_6_0 hb7.size
  have z_8 : Below w.heap.size w w7 := z_6.trans (hb7.mono z_6.size)
  clear he_6 hL_6 c_6_0 c_6_1 l_6_0 z_6 hb7
  go_wp2_with fail
  refine (rtime_any at_ w7).mono ?_; rintro e w' ⟨rfl, rfl⟩
  rw [A.out]
  go_wp2_with fail
  refine (ahead_no _ L ah at_ 1 w7 hL_8 (by omega) (.inr ⟨F.out, A.out, rfl⟩)).mono ?_; rintro e w9 ⟨rfl, hb9⟩
  have he_10 := he_8.below hb9
  have hL_10 := hL_8.below hb9
  have c_10_0 := (hb9.cell (p := ⟨w.heap.size, 0, none⟩) l_8_0).trans c_8_0
  have c_10_1 := (hb9.cell (p := ⟨w.heap.size, 1, none⟩) l_8_0).trans c_8_1
  have l_10_0 : w.heap.size < w9.heap.size := Nat.lt_of_lt_of_le l_8_0 hb9.size
  have z_10 : Below w.heap.size w w9 := z_8.trans (hb9.mono z_8.size)
  clear he_8 hL_8 c_8_0 c_8_1 l_8_0 z_8 hb9
  go_wp2_with fail
  refine ((error_no 1 1 w9 true he_10 (by simp) (by omega) (by omega))).mono ?_; rintro e w11 ⟨rfl, hb11⟩
  have he_12 := he_10.below hb11
  have hL_12 := hL_10.below hb11
  have c_12_0 := (hb11.cell (p := ⟨w.heap.size, 0, none⟩) l_10_0).trans c_10_0
  have c_12_1 := (hb11.cell (p := ⟨w.heap.size, 1, none⟩) l_10_0).trans c_10_1
  have l_12_0 : w.heap.size < w11.heap.size := Nat.lt_of_lt_of_le l_10_0 hb11.size
  have z_12 : Below w.heap.size w w11 := z_10.trans (hb11.mono z_10.size)
  clear he_10 hL_10 c_10_0 c_10_1 l_10_0 z_10 hb11
  go_wp2_with fail
  refine (local_no _ L ah at_ 1 w11 hL_12 (by omega) (localE_1 F.out (.inl A.out))).mono ?_; rintro e w13 ⟨rfl, hb13⟩
  have he_14 := he_12.below hb13
  have hL_14 := hL_12.below hb13
  have c_14_0 := (hb13.cell (p := ⟨w.heap.size, 0, none⟩) l_12_0).trans c_12_0
  have c_14_1 := (hb13.cell (p := ⟨w.heap.size, 1, none⟩) l_12_0).trans c_12_1
  have l_14_0 : w.heap.size < w13.heap.size := Nat.lt_of_lt_of_le l_12_0 hb13.size
  have z_14 : Below w.heap.size w w13 := z_12.trans (hb13.mono z_12.size)
  clear he_12 hL_12 c_12_0 c_12_1 l_12_0 z_12 hb13
  go_wp2_with fail
  refine ((error_no 1 1 w13 true he_14 (by simp) (by omega) (by omega))).mono ?_; rintro e w15 ⟨rfl, hb15⟩
  have he_16 := he_14.below hb15
  have hL_16 := hL_14.below hb15
  have c_16_0 := (hb15.cell (p := ⟨w.heap.size, 0, none⟩) l_14_0).trans c_14_0
  have c_16_1 := (hb15.cell (p := ⟨w.heap.size, 1, none⟩) l_14_0).trans c_14_1
  have l_16_0 : w.heap.size < w15.heap.size := Nat.lt_of_lt_of_le l_14_0 hb15.size
  have z_16 : Below w.heap.size w w15 := z_14.trans (hb15.mono z_14.size)
  clear he_14 hL_14 c_14_0 c_14_1 l_14_0 z_14 hb15
  go_wp2_with fail
  refine (rtime_any t w15).mono ?_; rintro e w' ⟨rfl, rfl⟩
  rw [T.out]
  go_wp2_with fail
  refine (rtwice_any _ L ah t w15 hL_16 F.out (by omega) t2).mono ?_; rintro e w17 ⟨u17, rfl, hu17, hb17⟩
  have hU17 := intsR_of_owns hu17; clear hu17
  rw [X.out] at hU17
  have he_18 := he_16.below hb17
  have hL_18 := hL_16.below hb17
  have c_18_0 := (hb17.cell (p := ⟨w.heap.size, 0, none⟩) l_16_0).trans c_16_0
  have c_18_1 := (hb17.cell (p := ⟨w.heap.size, 1, none⟩) l_16_0).trans c_16_1
  have l_18_0 : w.heap.size < w17.heap.size := Nat.lt_of_lt_of_le l_16_0 hb17.size
  have z_18 : Below w.heap.size w w17 := z_16.trans (hb17.mono z_16.size)
  clear he_16 hL_16 c_16_0 c_16_1 l_16_0 z_16 hb17
  obtain ⟨au, capu, rfl, p1, p2, hcu⟩ := intsR_open hU17
  obtain ⟨bu, ou, rfl, hcs⟩ := hcu (by simp)
  have cu := hcs 0 (by simp)
  simp at cu
  have hr : (((x :: r).length : Int) == 0) = false := by first | (simp; done) | (simp; omega)
  have hr2 : (0 : Int) < ((x :: r).length : Int) := by first | (simp; done) | (simp; omega)
  clear hcs hcu
  unfold maxLen at p2
  obtain ⟨nn, hnn⟩ : ∃ nn, nn = (x :: r).length := ⟨_, rfl⟩
  rw [← hnn] at hr hr2 p1 hU17 ⊢
  have hn0 : 0 < nn := by omega
  clear hnn
  go_wp2_with fail
  clear cu
  refine (twice_yes _ L ah t w17 hL_18 F.out T.out).mono ?_; rintro e w19 ⟨u19, rfl, hu19, hb19⟩
  rw [X.out] at hu19
  have he_20 := he_18.below hb19
  have hL_20 := hL_18.below hb19
  have hU_20 := hU17.below hb19
  have c_20_0 := (hb19.cell (p := ⟨w.heap.size, 0, none⟩) l_18_0).trans c_18_0
  have c_20_1 := (hb19.cell (p := ⟨w.heap.size, 1, none⟩) l_18_0).trans c_18_1
  have l_20_0 : w.heap.size < w19.heap.size := Nat.lt_of_lt_of_le l_18_0 hb19.size
  have z_20 : Below w.heap.size w w19 := z_18.trans (hb19.mono z_18.size)
  clear he_18 hL_18 hU17 c_18_0 c_18_1 l_18_0 z_18 hb19
  go_wp2_with fail
  refine ((error_nil 0 w19 true (by decide))).mono ?_; rintro e w21 ⟨rfl, hb21⟩
  have he_22 := he_20.below hb21
  have hL_22 := hL_20.below hb21
  have hU_22 := hU_20.below hb21
  have hM_22 := hu19.below hb21
  have c_22_0 := (hb21.cell (p := ⟨w.heap.size, 0, none⟩) l_20_0).trans c_20_0
  have c_22_1 := (hb21.cell (p := ⟨w.heap.size, 1, none⟩) l_20_0).trans c_20_1
  have l_22_0 : w.heap.size < w21.heap.size := Nat.lt_of_lt_of_le l_20_0 hb21.size
  have z_22 : Below w.heap.size w w21 := z_20.trans (hb21.mono z_20.size)
  clear he_20 hL_20 hU_20 hu19 c_20_0 c_20_1 l_20_0 z_20 hb21
  go_wp2_with fail
  refine (ints_any _ _ (x :: r) (x :: r) w21 hM_22 hU_22).mono ?_; rintro e w23 ⟨rfl, hb23⟩
  rw [intsB_same]
  have he_24 := he_22.below hb23
  have hL_24 := hL_22.below hb23
  have hU_24 := hU_22.below hb23
  have hM_24 := hM_22.below hb23
  have c_24_0 := (hb23.cell (p := ⟨w.heap.size, 0, none⟩) l_22_0).trans c_22_0
  have c_24_1 := (hb23.cell (p := ⟨w.heap.size, 1, none⟩) l_22_0).trans c_22_1
  have l_24_0 : w.heap.size < w23.heap.size := Nat.lt_of_lt_of_le l_22_0 hb23.size
  have z_24 : Below w.heap.size w w23 := z_22.trans (hb23.mono z_22.size)
  clear he_22 hL_22 hU_22 hM_22 c_22_0 c_22_1 l_22_0 z_22 hb23
  go_wp2_with fail
  refine (world_yes _ L ah t x r w23 hL_24 F.out T.out X.out).mono ?_; rintro e w25 ⟨rfl, hb25⟩
  have he_26 := he_24.below hb25
  have hL_26 := hL_24.below hb25
  have hU_26 := hU_24.below hb25
  have hM_26 := hM_24.below hb25
  have c_26_0 := (hb25.cell (p := ⟨w.heap.size, 0, none⟩) l_24_0).trans c_24_0
  have c_26_1 := (hb25.cell (p := ⟨w.heap.size, 1, none⟩) l_24_0).trans c_24_1
  have l_26_0 : w.heap.size < w25.heap.size := Nat.lt_of_lt_of_le l_24_0 hb25.size
  have z_26 : Below w.heap.size w w25 := z_24.trans (hb25.mono z_24.size)
  clear he_24 hL_24 hU_24 hM_24 c_24_0 c_24_1 l_24_0 z_24 hb25
  go_wp2_with fail
  refine ((error_nil 0 w25 true (by decide))).mono ?_; rintro e w27 ⟨rfl, hb27⟩
  have he_28 := he_26.below hb27
  have hL_28 := hL_26.below hb27
  have hU_28 := hU_26.below hb27
  have hM_28 := hM_26.below hb27
  have c_28_0 := (hb27.cell (p := ⟨w.heap.size, 0, none⟩) l_26_0).trans c_26_0
  have c_28_1 := (hb27.cell (p := ⟨w.heap.size, 1, none⟩) l_26_0).trans c_26_1
  have l_28_0 : w.heap.size < w27.heap.size := Nat.lt_of_lt_of_le l_26_0 hb27.size
  have z_28 : Below w.heap.size w w27 := z_26.trans (hb27.mono z_26.size)
  clear he_26 hL_26 hU_26 hM_26 c_26_0 c_26_1 l_26_0 z_26 hb27
  go_wp2
  go_ret
  exact ⟨by simp, z_28⟩

set_option maxRecDepth 100000 in
set_option maxHeartbeats 8000000 in
theorem zoneTells_off_bad (v : Value) (L : List (Int × Int)) (ah at_ t : Int) (w : World) (he : ErrT w) (hL : PairsR w v L) (F0 : zfault ah L = 0) (A0 : timeB at_ = true) (Q0 : timeB (at_ + zoneOf ah L at_) = false) (T0 : timeB t = false) :
    Calls Tryd.prog 11 #[.agg #[.int .i64 ah, v], .int .i64 at_, .int .i64 t] w fun e w' => e = .returned (.bool true) ∧ Below w.heap.size w w' := by
  have F := Lib.hid F0; clear F0
  obtain ⟨b1, b2⟩ := timeB_yes A0
  have hzb := zoneOf_bd F.out at_
  obtain ⟨zn, hzn⟩ : ∃ zn, zn = zoneOf ah L at_ := ⟨_, rfl⟩
  rw [← hzn] at hzb Q0
  obtain ⟨b3, b4⟩ := hzb
  have ZN := Lib.hid hzn
  have Q := Lib.hid Q0
  have QZ := Lib.hid (show timeB (at_ + zoneOf ah L at_) = false by rw [← hzn]; exact Q0)
  clear hzn Q0
  have A := Lib.hid A0; clear A0
  have T := Lib.hid T0; clear T0
  have hL0 := hL
  obtain ⟨a, cap, rfl, _, _, _⟩ := hL0
  go_enter Tryd.func11, Tryd.ntmps11
  go_wp2_with fail
  obtain ⟨w1, hq1⟩ : ∃ x, x = w.alloc (.cells #[.int .i64 ah, .slice a L.length cap] 100) := ⟨_, rfl⟩
  rw [← hq1]
  have hb1 : Below w.heap.size w w1 := by rw [hq1]; exact (Below.refl _ _).alloc (Nat.le_refl _) _
  have d_1_0 : w1.cell? ⟨w.heap.size, 0, none⟩ = some (.int .i64 ah) := by rw [hq1]; simp
  have d_1_1 : w1.cell? ⟨w.heap.size, 1, none⟩ = some (.slice a L.length cap) := by rw [hq1]; simp
  have m_1 : w.heap.size < w1.heap.size := by rw [hq1]; simp
  clear hq1
  have he_2 := he.below hb1
  have hL_2 := hL.below hb1
  have z_2 : Below w.heap.size w w1 := hb1
  clear he hL hb1
  refine (rzone_any _ L ah w1 hL_2).mono ?_; rintro e w3 ⟨rfl, hb3⟩
  rw [F.out]
  have he_4 := he_2.below hb3
  have hL_4 := hL_2.below hb3
  have c_4_0 := (hb3.cell (p := ⟨w.heap.size, 0, none⟩) m_1).trans d_1_0
  have c_4_1 := (hb3.cell (p := ⟨w.heap.size, 1, none⟩) m_1).trans d_1_1
  have l_4_0 : w.heap.size < w3.heap.size := Nat.lt_of_lt_of_le m_1 hb3.size
  have z_4 : Below w.heap.size w w3 := z_2.trans (hb3.mono z_2.size)
  clear he_2 hL_2 d_1_0 d_1_1 m_1 z_2 hb3
  go_wp2_with fail
  refine (zcheck_any _ L ah w3 hL_4).mono ?_; rintro e w5 ⟨rfl, hb5⟩
  rw [F.out, errV_0]
  have he_6 := he_4.below hb5
  have hL_6 := hL_4.below hb5
  have c_6_0 := (hb5.cell (p := ⟨w.heap.size, 0, none⟩) l_4_0).trans c_4_0
  have c_6_1 := (hb5.cell (p := ⟨w.heap.size, 1, none⟩) l_4_0).trans c_4_1
  have l_6_0 : w.heap.size < w5.heap.size := Nat.lt_of_lt_of_le l_4_0 hb5.size
  have z_6 : Below w.heap.size w w5 := z_4.trans (hb5.mono z_4.size)
  clear he_4 hL_4 c_4_0 c_4_1 l_4_0 z_4 hb5
  go_wp2_with fail
  refine ((error_nil 0 w5 true (by decide))).mono ?_; rintro e w7 ⟨rfl, hb7⟩
  have he_8 := he_6.below hb7
  have hL_8 := hL_6.below hb7
  have c_8_0 := (hb7.cell (p := ⟨w.heap.size, 0, none⟩) l_6_0).trans c_6_0
  have c_8_1 := (hb7.cell (p := ⟨w.heap.size, 1, none⟩) l_6_0).trans c_6_1
  have l_8_0 : w.heap.size < w7.heap.size := Nat.lt_of_lt_of_le l_6_0 hb7.size
  have z_8 : Below w.heap.size w w7 := z_6.trans (hb7.mono z_6.size)
  clear he_6 hL_6 c_6_0 c_6_1 l_6_0 z_6 hb7
  go_wp2_with fail
  refine (rtime_any at_ w7).mono ?_; rintro e w' ⟨rfl, rfl⟩
  rw [A.out]
  go_wp2_with fail
  refine (rzahead_any _ L ah at_ w7 hL_8).mono ?_; rintro e w9 ⟨rfl, hb9⟩
  rw [← ZN.out]
  have he_10 := he_8.below hb9
  have hL_10 := hL_8.below hb9
  have c_10_0 := (hb9.cell (p := ⟨w.heap.size, 0, none⟩) l_8_0).trans c_8_0
  have c_10_1 := (hb9.cell (p := ⟨w.heap.size, 1, none⟩) l_8_0).trans c_8_1
  have l_10_0 : w.heap.size < w9.heap.size := Nat.lt_of_lt_of_le l_8_0 hb9.size
  have z_10 : Below w.heap.size w w9 := z_8.trans (hb9.mono z_8.size)
  clear he_8 hL_8 c_8_0 c_8_1 l_8_0 z_8 hb9
  go_wp2_with fail
  refine (rtime_any (at_ + zn) w9).mono ?_; rintro e w' ⟨rfl, rfl⟩
  rw [Q.out]
  go_wp2_with fail
  refine (ahead_yes _ L ah at_ w9 hL_10 F.out A.out).mono ?_; rintro e w11 ⟨rfl, hb11⟩
  rw [← ZN.out]
  have he_12 := he_10.below hb11
  have hL_12 := hL_10.below hb11
  have c_12_0 := (hb11.cell (p := ⟨w.heap.size, 0, none⟩) l_10_0).trans c_10_0
  have c_12_1 := (hb11.cell (p := ⟨w.heap.size, 1, none⟩) l_10_0).trans c_10_1
  have l_12_0 : w.heap.size < w11.heap.size := Nat.lt_of_lt_of_le l_10_0 hb11.size
  have z_12 : Below w.heap.size w w11 := z_10.trans (hb11.mono z_10.size)
  clear he_10 hL_10 c_10_0 c_10_1 l_10_0 z_10 hb11
  go_wp2_with fail
  refine ((error_nil 0 w11 true (by decide))).mono ?_; rintro e w13 ⟨rfl, hb13⟩
  have he_14 := he_12.below hb13
  have hL_14 := hL_12.below hb13
  have c_14_0 := (hb13.cell (p := ⟨w.heap.size, 0, none⟩) l_12_0).trans c_12_0
  have c_14_1 := (hb13.cell (p := ⟨w.heap.size, 1, none⟩) l_12_0).trans c_12_1
  have l_14_0 : w.heap.size < w13.heap.size := Nat.lt_of_lt_of_le l_12_0 hb13.size
  have z_14 : Below w.heap.size w w13 := z_12.trans (hb13.mono z_12.size)
  clear he_12 hL_12 c_12_0 c_12_1 l_12_0 z_12 hb13
  go_wp2_with fail
  refine (local_no _ L ah at_ 1 w13 hL_14 (by omega) (localE_1 F.out (.inr QZ.out))).mono ?_; rintro e w15 ⟨rfl, hb15⟩
  have he_16 := he_14.below hb15
  have hL_16 := hL_14.below hb15
  have c_16_0 := (hb15.cell (p := ⟨w.heap.size, 0, none⟩) l_14_0).trans c_14_0
  have c_16_1 := (hb15.cell (p := ⟨w.heap.size, 1, none⟩) l_14_0).trans c_14_1
  have l_16_0 : w.heap.size < w15.heap.size := Nat.lt_of_lt_of_le l_14_0 hb15.size
  have z_16 : Below w.heap.size w w15 := z_14.trans (hb15.mono z_14.size)
  clear he_14 hL_14 c_14_0 c_14_1 l_14_0 z_14 hb15
  go_wp2_with fail
  refine ((error_no 1 1 w15 true he_16 (by simp) (by omega) (by omega))).mono ?_; rintro e w17 ⟨rfl, hb17⟩
  have he_18 := he_16.below hb17
  have hL_18 := hL_16.below hb17
  have c_18_0 := (hb17.cell (p := ⟨w.heap.size, 0, none⟩) l_16_0).trans c_16_0
  have c_18_1 := (hb17.cell (p := ⟨w.heap.size, 1, none⟩) l_16_0).trans c_16_1
  have l_18_0 : w.heap.size < w17.heap.size := Nat.lt_of_lt_of_le l_16_0 hb17.size
  have z_18 : Below w.heap.size w w17 := z_16.trans (hb17.mono z_16.size)
  clear he_16 hL_16 c_16_0 c_16_1 l_16_0 z_16 hb17
  go_wp2_with fail
  refine (rtime_any t w17).mono ?_; rintro e w' ⟨rfl, rfl⟩
  rw [T.out]
  go_wp2_with fail
  refine (twice_no _ L ah t 1 w17 hL_18 (by omega) (.inr ⟨F.out, T.out, rfl⟩)).mono ?_; rintro e w19 ⟨rfl, hb19⟩
  have he_20 := he_18.below hb19
  have hL_20 := hL_18.below hb19
  have c_20_0 := (hb19.cell (p := ⟨w.heap.size, 0, none⟩) l_18_0).trans c_18_0
  have c_20_1 := (hb19.cell (p := ⟨w.heap.size, 1, none⟩) l_18_0).trans c_18_1
  have l_20_0 : w.heap.size < w19.heap.size := Nat.lt_of_lt_of_le l_18_0 hb19.size
  have z_20 : Below w.heap.size w w19 := z_18.trans (hb19.mono z_18.size)
  clear he_18 hL_18 c_18_0 c_18_1 l_18_0 z_18 hb19
  go_wp2_with fail
  refine ((error_no 1 1 w19 true he_20 (by simp) (by omega) (by omega))).mono ?_; rintro e w21 ⟨rfl, hb21⟩
  have he_22 := he_20.below hb21
  have hL_22 := hL_20.below hb21
  have c_22_0 := (hb21.cell (p := ⟨w.heap.size, 0, none⟩) l_20_0).trans c_20_0
  have c_22_1 := (hb21.cell (p := ⟨w.heap.size, 1, none⟩) l_20_0).trans c_20_1
  have l_22_0 : w.heap.size < w21.heap.size := Nat.lt_of_lt_of_le l_20_0 hb21.size
  have z_22 : Below w.heap.size w w21 := z_20.trans (hb21.mono z_20.size)
  clear he_20 hL_20 c_20_0 c_20_1 l_20_0 z_20 hb21
  go_wp2_with fail
  refine (ints_any _ _ [] [] w21 (intsR_nil _) (intsR_nil _)).mono ?_; rintro e w23 ⟨rfl, hb23⟩
  rw [intsB_nil]
  have he_24 := he_22.below hb23
  have hL_24 := hL_22.below hb23
  have c_24_0 := (hb23.cell (p := ⟨w.heap.size, 0, none⟩) l_22_0).trans c_22_0
  have c_24_1 := (hb23.cell (p := ⟨w.heap.size, 1, none⟩) l_22_0).trans c_22_1
  have l_24_0 : w.heap.size < w23.heap.size := Nat.lt_of_lt_of_le l_22_0 hb23.size
  have z_24 : Below w.heap.size w w23 := z_22.trans (hb23.mono z_22.size)
  clear he_22 hL_22 c_22_0 c_22_1 l_22_0 z_22 hb23
  go_wp2_with fail
  refine (world_no _ L ah t 1 w23 hL_24 (by omega) (.inr ⟨F.out, T.out, rfl⟩)).mono ?_; rintro e w25 ⟨rfl, hb25⟩
  have he_26 := he_24.below hb25
  have hL_26 := hL_24.below hb25
  have c_26_0 := (hb25.cell (p := ⟨w.heap.size, 0, none⟩) l_24_0).trans c_24_0
  have c_26_1 := (hb25.cell (p := ⟨w.heap.size, 1, none⟩) l_24_0).trans c_24_1
  have l_26_0 : w.heap.size < w25.heap.size := Nat.lt_of_lt_of_le l_24_0 hb25.size
  have z_26 : Below w.heap.size w w25 := z_24.trans (hb25.mono z_24.size)
  clear he_24 hL_24 c_24_0 c_24_1 l_24_0 z_24 hb25
  go_wp2_with fail
  refine ((error_no 1 1 w25 true he_26 (by simp) (by omega) (by omega))).mono ?_; rintro e w27 ⟨rfl, hb27⟩
  have he_28 := he_26.below hb27
  have hL_28 := hL_26.below hb27
  have c_28_0 := (hb27.cell (p := ⟨w.heap.size, 0, none⟩) l_26_0).trans c_26_0
  have c_28_1 := (hb27.cell (p := ⟨w.heap.size, 1, none⟩) l_26_0).trans c_26_1
  have l_28_0 : w.heap.size < w27.heap.size := Nat.lt_of_lt_of_le l_26_0 hb27.size
  have z_28 : Below w.heap.size w w27 := z_26.trans (hb27.mono z_26.size)
  clear he_26 hL_26 c_26_0 c_26_1 l_26_0 z_26 hb27
  go_wp2
  go_ret
  exact ⟨by simp, z_28⟩

set_option maxRecDepth 100000 in
set_option maxHeartbeats 8000000 in
theorem zoneTells_off_gap (v : Value) (L : List (Int × Int)) (ah at_ t : Int) (w : World) (he : ErrT w) (hL : PairsR w v L) (F0 : zfault ah L = 0) (A0 : timeB at_ = true) (Q0 : timeB (at_ + zoneOf ah L at_) = false) (T0 : timeB t = true) (X0 : zoneAll ah L t = []) :
    Calls Tryd.prog 11 #[.agg #[.int .i64 ah, v], .int .i64 at_, .int .i64 t] w fun e w' => e = .returned (.bool true) ∧ Below w.heap.size w w' := by
  have F := Lib.hid F0; clear F0
  obtain ⟨b1, b2⟩ := timeB_yes A0
  have hzb := zoneOf_bd F.out at_
  obtain ⟨zn, hzn⟩ : ∃ zn, zn = zoneOf ah L at_ := ⟨_, rfl⟩
  rw [← hzn] at hzb Q0
  obtain ⟨b3, b4⟩ := hzb
  have ZN := Lib.hid hzn
  have Q := Lib.hid Q0
  have QZ := Lib.hid (show timeB (at_ + zoneOf ah L at_) = false by rw [← hzn]; exact Q0)
  clear hzn Q0
  have A := Lib.hid A0; clear A0
  obtain ⟨t1, t2⟩ := timeB_yes T0
  have X := Lib.hid X0; clear X0
  have T := Lib.hid T0; clear T0
  have hL0 := hL
  obtain ⟨a, cap, rfl, _, _, _⟩ := hL0
  go_enter Tryd.func11, Tryd.ntmps11
  go_wp2_with fail
  obtain ⟨w1, hq1⟩ : ∃ x, x = w.alloc (.cells #[.int .i64 ah, .slice a L.length cap] 100) := ⟨_, rfl⟩
  rw [← hq1]
  have hb1 : Below w.heap.size w w1 := by rw [hq1]; exact (Below.refl _ _).alloc (Nat.le_refl _) _
  have d_1_0 : w1.cell? ⟨w.heap.size, 0, none⟩ = some (.int .i64 ah) := by rw [hq1]; simp
  have d_1_1 : w1.cell? ⟨w.heap.size, 1, none⟩ = some (.slice a L.length cap) := by rw [hq1]; simp
  have m_1 : w.heap.size < w1.heap.size := by rw [hq1]; simp
  clear hq1
  have he_2 := he.below hb1
  have hL_2 := hL.below hb1
  have z_2 : Below w.heap.size w w1 := hb1
  clear he hL hb1
  refine (rzone_any _ L ah w1 hL_2).mono ?_; rintro e w3 ⟨rfl, hb3⟩
  rw [F.out]
  have he_4 := he_2.below hb3
  have hL_4 := hL_2.below hb3
  have c_4_0 := (hb3.cell (p := ⟨w.heap.size, 0, none⟩) m_1).trans d_1_0
  have c_4_1 := (hb3.cell (p := ⟨w.heap.size, 1, none⟩) m_1).trans d_1_1
  have l_4_0 : w.heap.size < w3.heap.size := Nat.lt_of_lt_of_le m_1 hb3.size
  have z_4 : Below w.heap.size w w3 := z_2.trans (hb3.mono z_2.size)
  clear he_2 hL_2 d_1_0 d_1_1 m_1 z_2 hb3
  go_wp2_with fail
  refine (zcheck_any _ L ah w3 hL_4).mono ?_; rintro e w5 ⟨rfl, hb5⟩
  rw [F.out, errV_0]
  have he_6 := he_4.below hb5
  have hL_6 := hL_4.below hb5
  have c_6_0 := (hb5.cell (p := ⟨w.heap.size, 0, none⟩) l_4_0).trans c_4_0
  have c_6_1 := (hb5.cell (p := ⟨w.heap.size, 1, none⟩) l_4_0).trans c_4_1
  have l_6_0 : w.heap.size < w5.heap.size := Nat.lt_of_lt_of_le l_4_0 hb5.size
  have z_6 : Below w.heap.size w w5 := z_4.trans (hb5.mono z_4.size)
  clear he_4 hL_4 c_4_0 c_4_1 l_4_0 z_4 hb5
  go_wp2_with fail
  refine ((error_nil 0 w5 true (by decide))).mono ?_; rintro e w7 ⟨rfl, hb7⟩
  have he_8 := he_6.below hb7
  have hL_8 := hL_6.below hb7
  have c_8_0 := (hb7.cell (p := ⟨w.heap.size, 0, none⟩) l_6_0).trans c_6_0
  have c_8_1 := (hb7.cell (p := ⟨w.heap.size, 1, none⟩) l_6_0).trans c_6_1
  have l_8_0 : w.heap.size < w7.heap.size := Nat.lt_of_lt_of_le l_6_0 hb7.size
  have z_8 : Below w.heap.size w w7 := z_6.trans (hb7.mono z_6.size)
  clear he_6 hL_6 c_6_0 c_6_1 l_6_0 z_6 hb7
  go_wp2_with fail
  refine (rtime_any at_ w7).mono ?_; rintro e w' ⟨rfl, rfl⟩
  rw [A.out]
  go_wp2_with fail
  refine (rzahead_any _ L ah at_ w7 hL_8).mono ?_; rintro e w9 ⟨rfl, hb9⟩
  rw [← ZN.out]
  have he_10 := he_8.below hb9
  have hL_10 := hL_8.below hb9
  have c_10_0 := (hb9.cell (p := ⟨w.heap.size, 0, none⟩) l_8_0).trans c_8_0
  have c_10_1 := (hb9.cell (p := ⟨w.heap.size, 1, none⟩) l_8_0).trans c_8_1
  have l_10_0 : w.heap.size < w9.heap.size := Nat.lt_of_lt_of_le l_8_0 hb9.size
  have z_10 : Below w.heap.size w w9 := z_8.trans (hb9.mono z_8.size)
  clear he_8 hL_8 c_8_0 c_8_1 l_8_0 z_8 hb9
  go_wp2_with fail
  refine (rtime_any (at_ + zn) w9).mono ?_; rintro e w' ⟨rfl, rfl⟩
  rw [Q.out]
  go_wp2_with fail
  refine (ahead_yes _ L ah at_ w9 hL_10 F.out A.out).mono ?_; rintro e w11 ⟨rfl, hb11⟩
  rw [← ZN.out]
  have he_12 := he_10.below hb11
  have hL_12 := hL_10.below hb11
  have c_12_0 := (hb11.cell (p := ⟨w.heap.size, 0, none⟩) l_10_0).trans c_10_0
  have c_12_1 := (hb11.cell (p := ⟨w.heap.size, 1, none⟩) l_10_0).trans c_10_1
  have l_12_0 : w.heap.size < w11.heap.size := Nat.lt_of_lt_of_le l_10_0 hb11.size
  have z_12 : Below w.heap.size w w11 := z_10.trans (hb11.mono z_10.size)
  clear he_10 hL_10 c_10_0 c_10_1 l_10_0 z_10 hb11
  go_wp2_with fail
  refine ((error_nil 0 w11 true (by decide))).mono ?_; rintro e w13 ⟨rfl, hb13⟩
  have he_14 := he_12.below hb13
  have hL_14 := hL_12.below hb13
  have c_14_0 := (hb13.cell (p := ⟨w.heap.size, 0, none⟩) l_12_0).trans c_12_0
  have c_14_1 := (hb13.cell (p := ⟨w.heap.size, 1, none⟩) l_12_0).trans c_12_1
  have l_14_0 : w.heap.size < w13.heap.size := Nat.lt_of_lt_of_le l_12_0 hb13.size
  have z_14 : Below w.heap.size w w13 := z_12.trans (hb13.mono z_12.size)
  clear he_12 hL_12 c_12_0 c_12_1 l_12_0 z_12 hb13
  go_wp2_with fail
  refine (local_no _ L ah at_ 1 w13 hL_14 (by omega) (localE_1 F.out (.inr QZ.out))).mono ?_; rintro e w15 ⟨rfl, hb15⟩
  have he_16 := he_14.below hb15
  have hL_16 := hL_14.below hb15
  have c_16_0 := (hb15.cell (p := ⟨w.heap.size, 0, none⟩) l_14_0).trans c_14_0
  have c_16_1 := (hb15.cell (p := ⟨w.heap.size, 1, none⟩) l_14_0).trans c_14_1
  have l_16_0 : w.heap.size < w15.heap.size := Nat.lt_of_lt_of_le l_14_0 hb15.size
  have z_16 : Below w.heap.size w w15 := z_14.trans (hb15.mono z_14.size)
  clear he_14 hL_14 c_14_0 c_14_1 l_14_0 z_14 hb15
  go_wp2_with fail
  refine ((error_no 1 1 w15 true he_16 (by simp) (by omega) (by omega))).mono ?_; rintro e w17 ⟨rfl, hb17⟩
  have he_18 := he_16.below hb17
  have hL_18 := hL_16.below hb17
  have c_18_0 := (hb17.cell (p := ⟨w.heap.size, 0, none⟩) l_16_0).trans c_16_0
  have c_18_1 := (hb17.cell (p := ⟨w.heap.size, 1, none⟩) l_16_0).trans c_16_1
  have l_18_0 : w.heap.size < w17.heap.size := Nat.lt_of_lt_of_le l_16_0 hb17.size
  have z_18 : Below w.heap.size w w17 := z_16.trans (hb17.mono z_16.size)
  clear he_16 hL_16 c_16_0 c_16_1 l_16_0 z_16 hb17
  go_wp2_with fail
  refine (rtime_any t w17).mono ?_; rintro e w' ⟨rfl, rfl⟩
  rw [T.out]
  go_wp2_with fail
  refine (rtwice_any _ L ah t w17 hL_18 F.out (by omega) t2).mono ?_; rintro e w19 ⟨u19, rfl, hu19, hb19⟩
  have hU19 := intsR_of_owns hu19; clear hu19
  rw [X.out] at hU19
  have he_20 := he_18.below hb19
  have hL_20 := hL_18.below hb19
  have c_20_0 := (hb19.cell (p := ⟨w.heap.size, 0, none⟩) l_18_0).trans c_18_0
  have c_20_1 := (hb19.cell (p := ⟨w.heap.size, 1, none⟩) l_18_0).trans c_18_1
  have l_20_0 : w.heap.size < w19.heap.size := Nat.lt_of_lt_of_le l_18_0 hb19.size
  have z_20 : Below w.heap.size w w19 := z_18.trans (hb19.mono z_18.size)
  clear he_18 hL_18 c_18_0 c_18_1 l_18_0 z_18 hb19
  obtain ⟨au, capu, rfl, p1, p2, hcu⟩ := intsR_open hU19
  clear hcu
  unfold maxLen at p2
  go_wp2_with fail
  refine (twice_yes _ L ah t w19 hL_20 F.out T.out).mono ?_; rintro e w21 ⟨u21, rfl, hu21, hb21⟩
  rw [X.out] at hu21
  have he_22 := he_20.below hb21
  have hL_22 := hL_20.below hb21
  have hU_22 := hU19.below hb21
  have c_22_0 := (hb21.cell (p := ⟨w.heap.size, 0, none⟩) l_20_0).trans c_20_0
  have c_22_1 := (hb21.cell (p := ⟨w.heap.size, 1, none⟩) l_20_0).trans c_20_1
  have l_22_0 : w.heap.size < w21.heap.size := Nat.lt_of_lt_of_le l_20_0 hb21.size
  have z_22 : Below w.heap.size w w21 := z_20.trans (hb21.mono z_20.size)
  clear he_20 hL_20 hU19 c_20_0 c_20_1 l_20_0 z_20 hb21
  go_wp2_with fail
  refine ((error_nil 0 w21 true (by decide))).mono ?_; rintro e w23 ⟨rfl, hb23⟩
  have he_24 := he_22.below hb23
  have hL_24 := hL_22.below hb23
  have hU_24 := hU_22.below hb23
  have hM_24 := hu21.below hb23
  have c_24_0 := (hb23.cell (p := ⟨w.heap.size, 0, none⟩) l_22_0).trans c_22_0
  have c_24_1 := (hb23.cell (p := ⟨w.heap.size, 1, none⟩) l_22_0).trans c_22_1
  have l_24_0 : w.heap.size < w23.heap.size := Nat.lt_of_lt_of_le l_22_0 hb23.size
  have z_24 : Below w.heap.size w w23 := z_22.trans (hb23.mono z_22.size)
  clear he_22 hL_22 hU_22 hu21 c_22_0 c_22_1 l_22_0 z_22 hb23
  go_wp2_with fail
  refine (ints_any _ _ [] [] w23 hM_24 hU_24).mono ?_; rintro e w25 ⟨rfl, hb25⟩
  rw [intsB_same]
  have he_26 := he_24.below hb25
  have hL_26 := hL_24.below hb25
  have hU_26 := hU_24.below hb25
  have hM_26 := hM_24.below hb25
  have c_26_0 := (hb25.cell (p := ⟨w.heap.size, 0, none⟩) l_24_0).trans c_24_0
  have c_26_1 := (hb25.cell (p := ⟨w.heap.size, 1, none⟩) l_24_0).trans c_24_1
  have l_26_0 : w.heap.size < w25.heap.size := Nat.lt_of_lt_of_le l_24_0 hb25.size
  have z_26 : Below w.heap.size w w25 := z_24.trans (hb25.mono z_24.size)
  clear he_24 hL_24 hU_24 hM_24 c_24_0 c_24_1 l_24_0 z_24 hb25
  go_wp2_with fail
  refine (world_gap _ L ah t w25 hL_26 F.out T.out X.out).mono ?_; rintro e w27 ⟨rfl, hb27⟩
  have he_28 := he_26.below hb27
  have hL_28 := hL_26.below hb27
  have hU_28 := hU_26.below hb27
  have hM_28 := hM_26.below hb27
  have c_28_0 := (hb27.cell (p := ⟨w.heap.size, 0, none⟩) l_26_0).trans c_26_0
  have c_28_1 := (hb27.cell (p := ⟨w.heap.size, 1, none⟩) l_26_0).trans c_26_1
  have l_28_0 : w.heap.size < w27.heap.size := Nat.lt_of_lt_of_le l_26_0 hb27.size
  have z_28 : Below w.heap.size w w27 := z_26.trans (hb27.mono z_26.size)
  clear he_26 hL_26 hU_26 hM_26 c_26_0 c_26_1 l_26_0 z_26 hb27
  go_wp2_with fail
  refine ((error_no 8 8 w27 true he_28 (by simp) (by omega) (by omega))).mono ?_; rintro e w29 ⟨rfl, hb29⟩
  have he_30 := he_28.below hb29
  have hL_30 := hL_28.below hb29
  have hU_30 := hU_28.below hb29
  have hM_30 := hM_28.below hb29
  have c_30_0 := (hb29.cell (p := ⟨w.heap.size, 0, none⟩) l_28_0).trans c_28_0
  have c_30_1 := (hb29.cell (p := ⟨w.heap.size, 1, none⟩) l_28_0).trans c_28_1
  have l_30_0 : w.heap.size < w29.heap.size := Nat.lt_of_lt_of_le l_28_0 hb29.size
  have z_30 : Below w.heap.size w w29 := z_28.trans (hb29.mono z_28.size)
  clear he_28 hL_28 hU_28 hM_28 c_28_0 c_28_1 l_28_0 z_28 hb29
  go_wp2
  go_ret
  exact ⟨by simp, z_30⟩

set_option maxRecDepth 100000 in
set_option maxHeartbeats 8000000 in
theorem zoneTells_off_yes (v : Value) (L : List (Int × Int)) (ah at_ t : Int) (w : World) (he : ErrT w) (hL : PairsR w v L) (F0 : zfault ah L = 0) (A0 : timeB at_ = true) (Q0 : timeB (at_ + zoneOf ah L at_) = false) (T0 : timeB t = true) (x : Int) (r : List Int) (X0 : zoneAll ah L t = x :: r) :
    Calls Tryd.prog 11 #[.agg #[.int .i64 ah, v], .int .i64 at_, .int .i64 t] w fun e w' => e = .returned (.bool true) ∧ Below w.heap.size w w' := by
  have F := Lib.hid F0; clear F0
  obtain ⟨b1, b2⟩ := timeB_yes A0
  have hzb := zoneOf_bd F.out at_
  obtain ⟨zn, hzn⟩ : ∃ zn, zn = zoneOf ah L at_ := ⟨_, rfl⟩
  rw [← hzn] at hzb Q0
  obtain ⟨b3, b4⟩ := hzb
  have ZN := Lib.hid hzn
  have Q := Lib.hid Q0
  have QZ := Lib.hid (show timeB (at_ + zoneOf ah L at_) = false by rw [← hzn]; exact Q0)
  clear hzn Q0
  have A := Lib.hid A0; clear A0
  obtain ⟨t1, t2⟩ := timeB_yes T0
  have X := Lib.hid X0; clear X0
  have T := Lib.hid T0; clear T0
  have hL0 := hL
  obtain ⟨a, cap, rfl, _, _, _⟩ := hL0
  go_enter Tryd.func11, Tryd.ntmps11
  go_wp2_with fail
  obtain ⟨w1, hq1⟩ : ∃ x, x = w.alloc (.cells #[.int .i64 ah, .slice a L.length cap] 100) := ⟨_, rfl⟩
  rw [← hq1]
  have hb1 : Below w.heap.size w w1 := by rw [hq1]; exact (Below.refl _ _).alloc (Nat.le_refl _) _
  have d_1_0 : w1.cell? ⟨w.heap.size, 0, none⟩ = some (.int .i64 ah) := by rw [hq1]; simp
  have d_1_1 : w1.cell? ⟨w.heap.size, 1, none⟩ = some (.slice a L.length cap) := by rw [hq1]; simp
  have m_1 : w.heap.size < w1.heap.size := by rw [hq1]; simp
  clear hq1
  have he_2 := he.below hb1
  have hL_2 := hL.below hb1
  have z_2 : Below w.heap.size w w1 := hb1
  clear he hL hb1
  refine (rzone_any _ L ah w1 hL_2).mono ?_; rintro e w3 ⟨rfl, hb3⟩
  rw [F.out]
  have he_4 := he_2.below hb3
  have hL_4 := hL_2.below hb3
  have c_4_0 := (hb3.cell (p := ⟨w.heap.size, 0, none⟩) m_1).trans d_1_0
  have c_4_1 := (hb3.cell (p := ⟨w.heap.size, 1, none⟩) m_1).trans d_1_1
  have l_4_0 : w.heap.size < w3.heap.size := Nat.lt_of_lt_of_le m_1 hb3.size
  have z_4 : Below w.heap.size w w3 := z_2.trans (hb3.mono z_2.size)
  clear he_2 hL_2 d_1_0 d_1_1 m_1 z_2 hb3
  go_wp2_with fail
  refine (zcheck_any _ L ah w3 hL_4).mono ?_; rintro e w5 ⟨rfl, hb5⟩
  rw [F.out, errV_0]
  have he_6 := he_4.below hb5
  have hL_6 := hL_4.below hb5
  have c_6_0 := (hb5.cell (p := ⟨w.heap.size, 0, none⟩) l_4_0).trans c_4_0
  have c_6_1 := (hb5.cell (p := ⟨w.heap.size, 1, none⟩) l_4_0).trans c_4_1
  have l_6_0 : w.heap.size < w5.heap.size := Nat.lt_of_lt_of_le l_4_0 hb5.size
  have z_6 : Below w.heap.size w w5 := z_4.trans (hb5.mono z_4.size)
  clear he_4 hL_4 c_4_0 c_4_1 l_4_0 z_4 hb5
  go_wp2_with fail
  refine ((error_nil 0 w5 true (by decide))).mono ?_; rintro e w7 ⟨rfl, hb7⟩
  have he_8 := he_6.below hb7
  have hL_8 := hL_6.below hb7
  have c_8_0 := (hb7.cell (p := ⟨w.heap.size, 0, none⟩) l_6_0).trans c_6_0
  have c_8_1 := (hb7.cell (p := ⟨w.heap.size, 1, none⟩) l_6_0).trans c_6_1
  have l_8_0 : w.heap.size < w7.heap.size := Nat.lt_of_lt_of_le l_6_0 hb7.size
  have z_8 : Below w.heap.size w w7 := z_6.trans (hb7.mono z_6.size)
  clear he_6 hL_6 c_6_0 c_6_1 l_6_0 z_6 hb7
  go_wp2_with fail
  refine (rtime_any at_ w7).mono ?_; rintro e w' ⟨rfl, rfl⟩
  rw [A.out]
  go_wp2_with fail
  refine (rzahead_any _ L ah at_ w7 hL_8).mono ?_; rintro e w9 ⟨rfl, hb9⟩
  rw [← ZN.out]
  have he_10 := he_8.below hb9
  have hL_10 := hL_8.below hb9
  have c_10_0 := (hb9.cell (p := ⟨w.heap.size, 0, none⟩) l_8_0).trans c_8_0
  have c_10_1 := (hb9.cell (p := ⟨w.heap.size, 1, none⟩) l_8_0).trans c_8_1
  have l_10_0 : w.heap.size < w9.heap.size := Nat.lt_of_lt_of_le l_8_0 hb9.size
  have z_10 : Below w.heap.size w w9 := z_8.trans (hb9.mono z_8.size)
  clear he_8 hL_8 c_8_0 c_8_1 l_8_0 z_8 hb9
  go_wp2_with fail
  refine (rtime_any (at_ + zn) w9).mono ?_; rintro e w' ⟨rfl, rfl⟩
  rw [Q.out]
  go_wp2_with fail
  refine (ahead_yes _ L ah at_ w9 hL_10 F.out A.out).mono ?_; rintro e w11 ⟨rfl, hb11⟩
  rw [← ZN.out]
  have he_12 := he_10.below hb11
  have hL_12 := hL_10.below hb11
  have c_12_0 := (hb11.cell (p := ⟨w.heap.size, 0, none⟩) l_10_0).trans c_10_0
  have c_12_1 := (hb11.cell (p := ⟨w.heap.size, 1, none⟩) l_10_0).trans c_10_1
  have l_12_0 : w.heap.size < w11.heap.size := Nat.lt_of_lt_of_le l_10_0 hb11.size
  have z_12 : Below w.heap.size w w11 := z_10.trans (hb11.mono z_10.size)
  clear he_10 hL_10 c_10_0 c_10_1 l_10_0 z_10 hb11
  go_wp2_with fail
  refine ((error_nil 0 w11 true (by decide))).mono ?_; rintro e w13 ⟨rfl, hb13⟩
  have he_14 := he_12.below hb13
  have hL_14 := hL_12.below hb13
  have c_14_0 := (hb13.cell (p := ⟨w.heap.size, 0, none⟩) l_12_0).trans c_12_0
  have c_14_1 := (hb13.cell (p := ⟨w.heap.size, 1, none⟩) l_12_0).trans c_12_1
  have l_14_0 : w.heap.size < w13.heap.size := Nat.lt_of_lt_of_le l_12_0 hb13.size
  have z_14 : Below w.heap.size w w13 := z_12.trans (hb13.mono z_12.size)
  clear he_12 hL_12 c_12_0 c_12_1 l_12_0 z_12 hb13
  go_wp2_with fail
  refine (local_no _ L ah at_ 1 w13 hL_14 (by omega) (localE_1 F.out (.inr QZ.out))).mono ?_; rintro e w15 ⟨rfl, hb15⟩
  have he_16 := he_14.below hb15
  have hL_16 := hL_14.below hb15
  have c_16_0 := (hb15.cell (p := ⟨w.heap.size, 0, none⟩) l_14_0).trans c_14_0
  have c_16_1 := (hb15.cell (p := ⟨w.heap.size, 1, none⟩) l_14_0).trans c_14_1
  have l_16_0 : w.heap.size < w15.heap.size := Nat.lt_of_lt_of_le l_14_0 hb15.size
  have z_16 : Below w.heap.size w w15 := z_14.trans (hb15.mono z_14.size)
  clear he_14 hL_14 c_14_0 c_14_1 l_14_0 z_14 hb15
  go_wp2_with fail
  refine ((error_no 1 1 w15 true he_16 (by simp) (by omega) (by omega))).mono ?_; rintro e w17 ⟨rfl, hb17⟩
  have he_18 := he_16.below hb17
  have hL_18 := hL_16.below hb17
  have c_18_0 := (hb17.cell (p := ⟨w.heap.size, 0, none⟩) l_16_0).trans c_16_0
  have c_18_1 := (hb17.cell (p := ⟨w.heap.size, 1, none⟩) l_16_0).trans c_16_1
  have l_18_0 : w.heap.size < w17.heap.size := Nat.lt_of_lt_of_le l_16_0 hb17.size
  have z_18 : Below w.heap.size w w17 := z_16.trans (hb17.mono z_16.size)
  clear he_16 hL_16 c_16_0 c_16_1 l_16_0 z_16 hb17
  go_wp2_with fail
  refine (rtime_any t w17).mono ?_; rintro e w' ⟨rfl, rfl⟩
  rw [T.out]
  go_wp2_with fail
  refine (rtwice_any _ L ah t w17 hL_18 F.out (by omega) t2).mono ?_; rintro e w19 ⟨u19, rfl, hu19, hb19⟩
  have hU19 := intsR_of_owns hu19; clear hu19
  rw [X.out] at hU19
  have he_20 := he_18.below hb19
  have hL_20 := hL_18.below hb19
  have c_20_0 := (hb19.cell (p := ⟨w.heap.size, 0, none⟩) l_18_0).trans c_18_0
  have c_20_1 := (hb19.cell (p := ⟨w.heap.size, 1, none⟩) l_18_0).trans c_18_1
  have l_20_0 : w.heap.size < w19.heap.size := Nat.lt_of_lt_of_le l_18_0 hb19.size
  have z_20 : Below w.heap.size w w19 := z_18.trans (hb19.mono z_18.size)
  clear he_18 hL_18 c_18_0 c_18_1 l_18_0 z_18 hb19
  obtain ⟨au, capu, rfl, p1, p2, hcu⟩ := intsR_open hU19
  obtain ⟨bu, ou, rfl, hcs⟩ := hcu (by simp)
  have cu := hcs 0 (by simp)
  simp at cu
  have hr : (((x :: r).length : Int) == 0) = false := by first | (simp; done) | (simp; omega)
  have hr2 : (0 : Int) < ((x :: r).length : Int) := by first | (simp; done) | (simp; omega)
  clear hcs hcu
  unfold maxLen at p2
  obtain ⟨nn, hnn⟩ : ∃ nn, nn = (x :: r).length := ⟨_, rfl⟩
  rw [← hnn] at hr hr2 p1 hU19 ⊢
  have hn0 : 0 < nn := by omega
  clear hnn
  go_wp2_with fail
  clear cu
  refine (twice_yes _ L ah t w19 hL_20 F.out T.out).mono ?_; rintro e w21 ⟨u21, rfl, hu21, hb21⟩
  rw [X.out] at hu21
  have he_22 := he_20.below hb21
  have hL_22 := hL_20.below hb21
  have hU_22 := hU19.below hb21
  have c_22_0 := (hb21.cell (p := ⟨w.heap.size, 0, none⟩) l_20_0).trans c_20_0
  have c_22_1 := (hb21.cell (p := ⟨w.heap.size, 1, none⟩) l_20_0).trans c_20_1
  have l_22_0 : w.heap.size < w21.heap.size := Nat.lt_of_lt_of_le l_20_0 hb21.size
  have z_22 : Below w.heap.size w w21 := z_20.trans (hb21.mono z_20.size)
  clear he_20 hL_20 hU19 c_20_0 c_20_1 l_20_0 z_20 hb21
  go_wp2_with fail
  refine ((error_nil 0 w21 true (by decide))).mono ?_; rintro e w23 ⟨rfl, hb23⟩
  have he_24 := he_22.below hb23
  have hL_24 := hL_22.below hb23
  have hU_24 := hU_22.below hb23
  have hM_24 := hu21.below hb23
  have c_24_0 := (hb23.cell (p := ⟨w.heap.size, 0, none⟩) l_22_0).trans c_22_0
  have c_24_1 := (hb23.cell (p := ⟨w.heap.size, 1, none⟩) l_22_0).trans c_22_1
  have l_24_0 : w.heap.size < w23.heap.size := Nat.lt_of_lt_of_le l_22_0 hb23.size
  have z_24 : Below w.heap.size w w23 := z_22.trans (hb23.mono z_22.size)
  clear he_22 hL_22 hU_22 hu21 c_22_0 c_22_1 l_22_0 z_22 hb23
  go_wp2_with fail
  refine (ints_any _ _ (x :: r) (x :: r) w23 hM_24 hU_24).mono ?_; rintro e w25 ⟨rfl, hb25⟩
  rw [intsB_same]
  have he_26 := he_24.below hb25
  have hL_26 := hL_24.below hb25
  have hU_26 := hU_24.below hb25
  have hM_26 := hM_24.below hb25
  have c_26_0 := (hb25.cell (p := ⟨w.heap.size, 0, none⟩) l_24_0).trans c_24_0
  have c_26_1 := (hb25.cell (p := ⟨w.heap.size, 1, none⟩) l_24_0).trans c_24_1
  have l_26_0 : w.heap.size < w25.heap.size := Nat.lt_of_lt_of_le l_24_0 hb25.size
  have z_26 : Below w.heap.size w w25 := z_24.trans (hb25.mono z_24.size)
  clear he_24 hL_24 hU_24 hM_24 c_24_0 c_24_1 l_24_0 z_24 hb25
  go_wp2_with fail
  refine (world_yes _ L ah t x r w25 hL_26 F.out T.out X.out).mono ?_; rintro e w27 ⟨rfl, hb27⟩
  have he_28 := he_26.below hb27
  have hL_28 := hL_26.below hb27
  have hU_28 := hU_26.below hb27
  have hM_28 := hM_26.below hb27
  have c_28_0 := (hb27.cell (p := ⟨w.heap.size, 0, none⟩) l_26_0).trans c_26_0
  have c_28_1 := (hb27.cell (p := ⟨w.heap.size, 1, none⟩) l_26_0).trans c_26_1
  have l_28_0 : w.heap.size < w27.heap.size := Nat.lt_of_lt_of_le l_26_0 hb27.size
  have z_28 : Below w.heap.size w w27 := z_26.trans (hb27.mono z_26.size)
  clear he_26 hL_26 hU_26 hM_26 c_26_0 c_26_1 l_26_0 z_26 hb27
  go_wp2_with fail
  refine ((error_nil 0 w27 true (by decide))).mono ?_; rintro e w29 ⟨rfl, hb29⟩
  have he_30 := he_28.below hb29
  have hL_30 := hL_28.below hb29
  have hU_30 := hU_28.below hb29
  have hM_30 := hM_28.below hb29
  have c_30_0 := (hb29.cell (p := ⟨w.heap.size, 0, none⟩) l_28_0).trans c_28_0
  have c_30_1 := (hb29.cell (p := ⟨w.heap.size, 1, none⟩) l_28_0).trans c_28_1
  have l_30_0 : w.heap.size < w29.heap.size := Nat.lt_of_lt_of_le l_28_0 hb29.size
  have z_30 : Below w.heap.size w w29 := z_28.trans (hb29.mono z_28.size)
  clear he_28 hL_28 hU_28 hM_28 c_28_0 c_28_1 l_28_0 z_28 hb29
  go_wp2
  go_ret
  exact ⟨by simp, z_30⟩

set_option maxRecDepth 100000 in
set_option maxHeartbeats 8000000 in
theorem zoneTells_ok_bad (v : Value) (L : List (Int × Int)) (ah at_ t : Int) (w : World) (he : ErrT w) (hL : PairsR w v L) (F0 : zfault ah L = 0) (A0 : timeB at_ = true) (Q0 : timeB (at_ + zoneOf ah L at_) = true) (T0 : timeB t = false) :
    Calls Tryd.prog 11 #[.agg #[.int .i64 ah, v], .int .i64 at_, .int .i64 t] w fun e w' => e = .returned (.bool true) ∧ Below w.heap.size w w' := by
  have F := Lib.hid F0; clear F0
  obtain ⟨b1, b2⟩ := timeB_yes A0
  have hzb := zoneOf_bd F.out at_
  obtain ⟨zn, hzn⟩ : ∃ zn, zn = zoneOf ah L at_ := ⟨_, rfl⟩
  rw [← hzn] at hzb Q0
  obtain ⟨b3, b4⟩ := hzb
  have ZN := Lib.hid hzn
  have Q := Lib.hid Q0
  have QZ := Lib.hid (show timeB (at_ + zoneOf ah L at_) = true by rw [← hzn]; exact Q0)
  clear hzn Q0
  have A := Lib.hid A0; clear A0
  have T := Lib.hid T0; clear T0
  have hL0 := hL
  obtain ⟨a, cap, rfl, _, _, _⟩ := hL0
  go_enter Tryd.func11, Tryd.ntmps11
  go_wp2_with fail
  obtain ⟨w1, hq1⟩ : ∃ x, x = w.alloc (.cells #[.int .i64 ah, .slice a L.length cap] 100) := ⟨_, rfl⟩
  rw [← hq1]
  have hb1 : Below w.heap.size w w1 := by rw [hq1]; exact (Below.refl _ _).alloc (Nat.le_refl _) _
  have d_1_0 : w1.cell? ⟨w.heap.size, 0, none⟩ = some (.int .i64 ah) := by rw [hq1]; simp
  have d_1_1 : w1.cell? ⟨w.heap.size, 1, none⟩ = some (.slice a L.length cap) := by rw [hq1]; simp
  have m_1 : w.heap.size < w1.heap.size := by rw [hq1]; simp
  clear hq1
  have he_2 := he.below hb1
  have hL_2 := hL.below hb1
  have z_2 : Below w.heap.size w w1 := hb1
  clear he hL hb1
  refine (rzone_any _ L ah w1 hL_2).mono ?_; rintro e w3 ⟨rfl, hb3⟩
  rw [F.out]
  have he_4 := he_2.below hb3
  have hL_4 := hL_2.below hb3
  have c_4_0 := (hb3.cell (p := ⟨w.heap.size, 0, none⟩) m_1).trans d_1_0
  have c_4_1 := (hb3.cell (p := ⟨w.heap.size, 1, none⟩) m_1).trans d_1_1
  have l_4_0 : w.heap.size < w3.heap.size := Nat.lt_of_lt_of_le m_1 hb3.size
  have z_4 : Below w.heap.size w w3 := z_2.trans (hb3.mono z_2.size)
  clear he_2 hL_2 d_1_0 d_1_1 m_1 z_2 hb3
  go_wp2_with fail
  refine (zcheck_any _ L ah w3 hL_4).mono ?_; rintro e w5 ⟨rfl, hb5⟩
  rw [F.out, errV_0]
  have he_6 := he_4.below hb5
  have hL_6 := hL_4.below hb5
  have c_6_0 := (hb5.cell (p := ⟨w.heap.size, 0, none⟩) l_4_0).trans c_4_0
  have c_6_1 := (hb5.cell (p := ⟨w.heap.size, 1, none⟩) l_4_0).trans c_4_1
  have l_6_0 : w.heap.size < w5.heap.size := Nat.lt_of_lt_of_le l_4_0 hb5.size
  have z_6 : Below w.heap.size w w5 := z_4.trans (hb5.mono z_4.size)
  clear he_4 hL_4 c_4_0 c_4_1 l_4_0 z_4 hb5
  go_wp2_with fail
  refine ((error_nil 0 w5 true (by decide))).mono ?_; rintro e w7 ⟨rfl, hb7⟩
  have he_8 := he_6.below hb7
  have hL_8 := hL_6.below hb7
  have c_8_0 := (hb7.cell (p := ⟨w.heap.size, 0, none⟩) l_6_0).trans c_6_0
  have c_8_1 := (hb7.cell (p := ⟨w.heap.size, 1, none⟩) l_6_0).trans c_6_1
  have l_8_0 : w.heap.size < w7.heap.size := Nat.lt_of_lt_of_le l_6_0 hb7.size
  have z_8 : Below w.heap.size w w7 := z_6.trans (hb7.mono z_6.size)
  clear he_6 hL_6 c_6_0 c_6_1 l_6_0 z_6 hb7
  go_wp2_with fail
  refine (rtime_any at_ w7).mono ?_; rintro e w' ⟨rfl, rfl⟩
  rw [A.out]
  go_wp2_with fail
  refine (rzahead_any _ L ah at_ w7 hL_8).mono ?_; rintro e w9 ⟨rfl, hb9⟩
  rw [← ZN.out]
  have he_10 := he_8.below hb9
  have hL_10 := hL_8.below hb9
  have c_10_0 := (hb9.cell (p := ⟨w.heap.size, 0, none⟩) l_8_0).trans c_8_0
  have c_10_1 := (hb9.cell (p := ⟨w.heap.size, 1, none⟩) l_8_0).trans c_8_1
  have l_10_0 : w.heap.size < w9.heap.size := Nat.lt_of_lt_of_le l_8_0 hb9.size
  have z_10 : Below w.heap.size w w9 := z_8.trans (hb9.mono z_8.size)
  clear he_8 hL_8 c_8_0 c_8_1 l_8_0 z_8 hb9
  go_wp2_with fail
  refine (rtime_any (at_ + zn) w9).mono ?_; rintro e w' ⟨rfl, rfl⟩
  rw [Q.out]
  go_wp2_with fail
  refine (ahead_yes _ L ah at_ w9 hL_10 F.out A.out).mono ?_; rintro e w11 ⟨rfl, hb11⟩
  rw [← ZN.out]
  have he_12 := he_10.below hb11
  have hL_12 := hL_10.below hb11
  have c_12_0 := (hb11.cell (p := ⟨w.heap.size, 0, none⟩) l_10_0).trans c_10_0
  have c_12_1 := (hb11.cell (p := ⟨w.heap.size, 1, none⟩) l_10_0).trans c_10_1
  have l_12_0 : w.heap.size < w11.heap.size := Nat.lt_of_lt_of_le l_10_0 hb11.size
  have z_12 : Below w.heap.size w w11 := z_10.trans (hb11.mono z_10.size)
  clear he_10 hL_10 c_10_0 c_10_1 l_10_0 z_10 hb11
  go_wp2_with fail
  refine ((error_nil 0 w11 true (by decide))).mono ?_; rintro e w13 ⟨rfl, hb13⟩
  have he_14 := he_12.below hb13
  have hL_14 := hL_12.below hb13
  have c_14_0 := (hb13.cell (p := ⟨w.heap.size, 0, none⟩) l_12_0).trans c_12_0
  have c_14_1 := (hb13.cell (p := ⟨w.heap.size, 1, none⟩) l_12_0).trans c_12_1
  have l_14_0 : w.heap.size < w13.heap.size := Nat.lt_of_lt_of_le l_12_0 hb13.size
  have z_14 : Below w.heap.size w w13 := z_12.trans (hb13.mono z_12.size)
  clear he_12 hL_12 c_12_0 c_12_1 l_12_0 z_12 hb13
  go_wp2_with fail
  refine (local_yes _ L ah at_ w13 hL_14 F.out A.out QZ.out).mono ?_; rintro e w15 ⟨rfl, hb15⟩
  rw [← ZN.out]
  have he_16 := he_14.below hb15
  have hL_16 := hL_14.below hb15
  have c_16_0 := (hb15.cell (p := ⟨w.heap.size, 0, none⟩) l_14_0).trans c_14_0
  have c_16_1 := (hb15.cell (p := ⟨w.heap.size, 1, none⟩) l_14_0).trans c_14_1
  have l_16_0 : w.heap.size < w15.heap.size := Nat.lt_of_lt_of_le l_14_0 hb15.size
  have z_16 : Below w.heap.size w w15 := z_14.trans (hb15.mono z_14.size)
  clear he_14 hL_14 c_14_0 c_14_1 l_14_0 z_14 hb15
  go_wp2_with fail
  refine ((error_nil 0 w15 true (by decide))).mono ?_; rintro e w17 ⟨rfl, hb17⟩
  have he_18 := he_16.below hb17
  have hL_18 := hL_16.below hb17
  have c_18_0 := (hb17.cell (p := ⟨w.heap.size, 0, none⟩) l_16_0).trans c_16_0
  have c_18_1 := (hb17.cell (p := ⟨w.heap.size, 1, none⟩) l_16_0).trans c_16_1
  have l_18_0 : w.heap.size < w17.heap.size := Nat.lt_of_lt_of_le l_16_0 hb17.size
  have z_18 : Below w.heap.size w w17 := z_16.trans (hb17.mono z_16.size)
  clear he_16 hL_16 c_16_0 c_16_1 l_16_0 z_16 hb17
  go_wp2_with fail
  refine (rtime_any t w17).mono ?_; rintro e w' ⟨rfl, rfl⟩
  rw [T.out]
  go_wp2_with fail
  refine (twice_no _ L ah t 1 w17 hL_18 (by omega) (.inr ⟨F.out, T.out, rfl⟩)).mono ?_; rintro e w19 ⟨rfl, hb19⟩
  have he_20 := he_18.below hb19
  have hL_20 := hL_18.below hb19
  have c_20_0 := (hb19.cell (p := ⟨w.heap.size, 0, none⟩) l_18_0).trans c_18_0
  have c_20_1 := (hb19.cell (p := ⟨w.heap.size, 1, none⟩) l_18_0).trans c_18_1
  have l_20_0 : w.heap.size < w19.heap.size := Nat.lt_of_lt_of_le l_18_0 hb19.size
  have z_20 : Below w.heap.size w w19 := z_18.trans (hb19.mono z_18.size)
  clear he_18 hL_18 c_18_0 c_18_1 l_18_0 z_18 hb19
  go_wp2_with fail
  refine ((error_no 1 1 w19 true he_20 (by simp) (by omega) (by omega))).mono ?_; rintro e w21 ⟨rfl, hb21⟩
  have he_22 := he_20.below hb21
  have hL_22 := hL_20.below hb21
  have c_22_0 := (hb21.cell (p := ⟨w.heap.size, 0, none⟩) l_20_0).trans c_20_0
  have c_22_1 := (hb21.cell (p := ⟨w.heap.size, 1, none⟩) l_20_0).trans c_20_1
  have l_22_0 : w.heap.size < w21.heap.size := Nat.lt_of_lt_of_le l_20_0 hb21.size
  have z_22 : Below w.heap.size w w21 := z_20.trans (hb21.mono z_20.size)
  clear he_20 hL_20 c_20_0 c_20_1 l_20_0 z_20 hb21
  go_wp2_with fail
  refine (ints_any _ _ [] [] w21 (intsR_nil _) (intsR_nil _)).mono ?_; rintro e w23 ⟨rfl, hb23⟩
  rw [intsB_nil]
  have he_24 := he_22.below hb23
  have hL_24 := hL_22.below hb23
  have c_24_0 := (hb23.cell (p := ⟨w.heap.size, 0, none⟩) l_22_0).trans c_22_0
  have c_24_1 := (hb23.cell (p := ⟨w.heap.size, 1, none⟩) l_22_0).trans c_22_1
  have l_24_0 : w.heap.size < w23.heap.size := Nat.lt_of_lt_of_le l_22_0 hb23.size
  have z_24 : Below w.heap.size w w23 := z_22.trans (hb23.mono z_22.size)
  clear he_22 hL_22 c_22_0 c_22_1 l_22_0 z_22 hb23
  go_wp2_with fail
  refine (world_no _ L ah t 1 w23 hL_24 (by omega) (.inr ⟨F.out, T.out, rfl⟩)).mono ?_; rintro e w25 ⟨rfl, hb25⟩
  have he_26 := he_24.below hb25
  have hL_26 := hL_24.below hb25
  have c_26_0 := (hb25.cell (p := ⟨w.heap.size, 0, none⟩) l_24_0).trans c_24_0
  have c_26_1 := (hb25.cell (p := ⟨w.heap.size, 1, none⟩) l_24_0).trans c_24_1
  have l_26_0 : w.heap.size < w25.heap.size := Nat.lt_of_lt_of_le l_24_0 hb25.size
  have z_26 : Below w.heap.size w w25 := z_24.trans (hb25.mono z_24.size)
  clear he_24 hL_24 c_24_0 c_24_1 l_24_0 z_24 hb25
  go_wp2_with fail
  refine ((error_no 1 1 w25 true he_26 (by simp) (by omega) (by omega))).mono ?_; rintro e w27 ⟨rfl, hb27⟩
  have he_28 := he_26.below hb27
  have hL_28 := hL_26.below hb27
  have c_28_0 := (hb27.cell (p := ⟨w.heap.size, 0, none⟩) l_26_0).trans c_26_0
  have c_28_1 := (hb27.cell (p := ⟨w.heap.size, 1, none⟩) l_26_0).trans c_26_1
  have l_28_0 : w.heap.size < w27.heap.size := Nat.lt_of_lt_of_le l_26_0 hb27.size
  have z_28 : Below w.heap.size w w27 := z_26.trans (hb27.mono z_26.size)
  clear he_26 hL_26 c_26_0 c_26_1 l_26_0 z_26 hb27
  go_wp2
  go_ret
  exact ⟨by simp, z_28⟩

set_option maxRecDepth 100000 in
set_option maxHeartbeats 8000000 in
theorem zoneTells_ok_gap (v : Value) (L : List (Int × Int)) (ah at_ t : Int) (w : World) (he : ErrT w) (hL : PairsR w v L) (F0 : zfault ah L = 0) (A0 : timeB at_ = true) (Q0 : timeB (at_ + zoneOf ah L at_) = true) (T0 : timeB t = true) (X0 : zoneAll ah L t = []) :
    Calls Tryd.prog 11 #[.agg #[.int .i64 ah, v], .int .i64 at_, .int .i64 t] w fun e w' => e = .returned (.bool true) ∧ Below w.heap.size w w' := by
  have F := Lib.hid F0; clear F0
  obtain ⟨b1, b2⟩ := timeB_yes A0
  have hzb := zoneOf_bd F.out at_
  obtain ⟨zn, hzn⟩ : ∃ zn, zn = zoneOf ah L at_ := ⟨_, rfl⟩
  rw [← hzn] at hzb Q0
  obtain ⟨b3, b4⟩ := hzb
  have ZN := Lib.hid hzn
  have Q := Lib.hid Q0
  have QZ := Lib.hid (show timeB (at_ + zoneOf ah L at_) = true by rw [← hzn]; exact Q0)
  clear hzn Q0
  have A := Lib.hid A0; clear A0
  obtain ⟨t1, t2⟩ := timeB_yes T0
  have X := Lib.hid X0; clear X0
  have T := Lib.hid T0; clear T0
  have hL0 := hL
  obtain ⟨a, cap, rfl, _, _, _⟩ := hL0
  go_enter Tryd.func11, Tryd.ntmps11
  go_wp2_with fail
  obtain ⟨w1, hq1⟩ : ∃ x, x = w.alloc (.cells #[.int .i64 ah, .slice a L.length cap] 100) := ⟨_, rfl⟩
  rw [← hq1]
  have hb1 : Below w.heap.size w w1 := by rw [hq1]; exact (Below.refl _ _).alloc (Nat.le_refl _) _
  have d_1_0 : w1.cell? ⟨w.heap.size, 0, none⟩ = some (.int .i64 ah) := by rw [hq1]; simp
  have d_1_1 : w1.cell? ⟨w.heap.size, 1, none⟩ = some (.slice a L.length cap) := by rw [hq1]; simp
  have m_1 : w.heap.size < w1.heap.size := by rw [hq1]; simp
  clear hq1
  have he_2 := he.below hb1
  have hL_2 := hL.below hb1
  have z_2 : Below w.heap.size w w1 := hb1
  clear he hL hb1
  refine (rzone_any _ L ah w1 hL_2).mono ?_; rintro e w3 ⟨rfl, hb3⟩
  rw [F.out]
  have he_4 := he_2.below hb3
  have hL_4 := hL_2.below hb3
  have c_4_0 := (hb3.cell (p := ⟨w.heap.size, 0, none⟩) m_1).trans d_1_0
  have c_4_1 := (hb3.cell (p := ⟨w.heap.size, 1, none⟩) m_1).trans d_1_1
  have l_4_0 : w.heap.size < w3.heap.size := Nat.lt_of_lt_of_le m_1 hb3.size
  have z_4 : Below w.heap.size w w3 := z_2.trans (hb3.mono z_2.size)
  clear he_2 hL_2 d_1_0 d_1_1 m_1 z_2 hb3
  go_wp2_with fail
  refine (zcheck_any _ L ah w3 hL_4).mono ?_; rintro e w5 ⟨rfl, hb5⟩
  rw [F.out, errV_0]
  have he_6 := he_4.below hb5
  have hL_6 := hL_4.below hb5
  have c_6_0 := (hb5.cell (p := ⟨w.heap.size, 0, none⟩) l_4_0).trans c_4_0
  have c_6_1 := (hb5.cell (p := ⟨w.heap.size, 1, none⟩) l_4_0).trans c_4_1
  have l_6_0 : w.heap.size < w5.heap.size := Nat.lt_of_lt_of_le l_4_0 hb5.size
  have z_6 : Below w.heap.size w w5 := z_4.trans (hb5.mono z_4.size)
  clear he_4 hL_4 c_4_0 c_4_1 l_4_0 z_4 hb5
  go_wp2_with fail
  refine ((error_nil 0 w5 true (by decide))).mono ?_; rintro e w7 ⟨rfl, hb7⟩
  have he_8 := he_6.below hb7
  have hL_8 := hL_6.below hb7
  have c_8_0 := (hb7.cell (p := ⟨w.heap.size, 0, none⟩) l_6_0).trans c_6_0
  have c_8_1 := (hb7.cell (p := ⟨w.heap.size, 1, none⟩) l_6_0).trans c_6_1
  have l_8_0 : w.heap.size < w7.heap.size := Nat.lt_of_lt_of_le l_6_0 hb7.size
  have z_8 : Below w.heap.size w w7 := z_6.trans (hb7.mono z_6.size)
  clear he_6 hL_6 c_6_0 c_6_1 l_6_0 z_6 hb7
  go_wp2_with fail
  refine (rtime_any at_ w7).mono ?_; rintro e w' ⟨rfl, rfl⟩
  rw [A.out]
  go_wp2_with fail
  refine (rzahead_any _ L ah at_ w7 hL_8).mono ?_; rintro e w9 ⟨rfl, hb9⟩
  rw [← ZN.out]
  have he_10 := he_8.below hb9
  have hL_10 := hL_8.below hb9
  have c_10_0 := (hb9.cell (p := ⟨w.heap.size, 0, none⟩) l_8_0).trans c_8_0
  have c_10_1 := (hb9.cell (p := ⟨w.heap.size, 1, none⟩) l_8_0).trans c_8_1
  have l_10_0 : w.heap.size < w9.heap.size := Nat.lt_of_lt_of_le l_8_0 hb9.size
  have z_10 : Below w.heap.size w w9 := z_8.trans (hb9.mono z_8.size)
  clear he_8 hL_8 c_8_0 c_8_1 l_8_0 z_8 hb9
  go_wp2_with fail
  refine (rtime_any (at_ + zn) w9).mono ?_; rintro e w' ⟨rfl, rfl⟩
  rw [Q.out]
  go_wp2_with fail
  refine (ahead_yes _ L ah at_ w9 hL_10 F.out A.out).mono ?_; rintro e w11 ⟨rfl, hb11⟩
  rw [← ZN.out]
  have he_12 := he_10.below hb11
  have hL_12 := hL_10.below hb11
  have c_12_0 := (hb11.cell (p := ⟨w.heap.size, 0, none⟩) l_10_0).trans c_10_0
  have c_12_1 := (hb11.cell (p := ⟨w.heap.size, 1, none⟩) l_10_0).trans c_10_1
  have l_12_0 : w.heap.size < w11.heap.size := Nat.lt_of_lt_of_le l_10_0 hb11.size
  have z_12 : Below w.heap.size w w11 := z_10.trans (hb11.mono z_10.size)
  clear he_10 hL_10 c_10_0 c_10_1 l_10_0 z_10 hb11
  go_wp2_with fail
  refine ((error_nil 0 w11 true (by decide))).mono ?_; rintro e w13 ⟨rfl, hb13⟩
  have he_14 := he_12.below hb13
  have hL_14 := hL_12.below hb13
  have c_14_0 := (hb13.cell (p := ⟨w.heap.size, 0, none⟩) l_12_0).trans c_12_0
  have c_14_1 := (hb13.cell (p := ⟨w.heap.size, 1, none⟩) l_12_0).trans c_12_1
  have l_14_0 : w.heap.size < w13.heap.size := Nat.lt_of_lt_of_le l_12_0 hb13.size
  have z_14 : Below w.heap.size w w13 := z_12.trans (hb13.mono z_12.size)
  clear he_12 hL_12 c_12_0 c_12_1 l_12_0 z_12 hb13
  go_wp2_with fail
  refine (local_yes _ L ah at_ w13 hL_14 F.out A.out QZ.out).mono ?_; rintro e w15 ⟨rfl, hb15⟩
  rw [← ZN.out]
  have he_16 := he_14.below hb15
  have hL_16 := hL_14.below hb15
  have c_16_0 := (hb15.cell (p := ⟨w.heap.size, 0, none⟩) l_14_0).trans c_14_0
  have c_16_1 := (hb15.cell (p := ⟨w.heap.size, 1, none⟩) l_14_0).trans c_14_1
  have l_16_0 : w.heap.size < w15.heap.size := Nat.lt_of_lt_of_le l_14_0 hb15.size
  have z_16 : Below w.heap.size w w15 := z_14.trans (hb15.mono z_14.size)
  clear he_14 hL_14 c_14_0 c_14_1 l_14_0 z_14 hb15
  go_wp2_with fail
  refine ((error_nil 0 w15 true (by decide))).mono ?_; rintro e w17 ⟨rfl, hb17⟩
  have he_18 := he_16.below hb17
  have hL_18 := hL_16.below hb17
  have c_18_0 := (hb17.cell (p := ⟨w.heap.size, 0, none⟩) l_16_0).trans c_16_0
  have c_18_1 := (hb17.cell (p := ⟨w.heap.size, 1, none⟩) l_16_0).trans c_16_1
  have l_18_0 : w.heap.size < w17.heap.size := Nat.lt_of_lt_of_le l_16_0 hb17.size
  have z_18 : Below w.heap.size w w17 := z_16.trans (hb17.mono z_16.size)
  clear he_16 hL_16 c_16_0 c_16_1 l_16_0 z_16 hb17
  go_wp2_with fail
  refine (rtime_any t w17).mono ?_; rintro e w' ⟨rfl, rfl⟩
  rw [T.out]
  go_wp2_with fail
  refine (rtwice_any _ L ah t w17 hL_18 F.out (by omega) t2).mono ?_; rintro e w19 ⟨u19, rfl, hu19, hb19⟩
  have hU19 := intsR_of_owns hu19; clear hu19
  rw [X.out] at hU19
  have he_20 := he_18.below hb19
  have hL_20 := hL_18.below hb19
  have c_20_0 := (hb19.cell (p := ⟨w.heap.size, 0, none⟩) l_18_0).trans c_18_0
  have c_20_1 := (hb19.cell (p := ⟨w.heap.size, 1, none⟩) l_18_0).trans c_18_1
  have l_20_0 : w.heap.size < w19.heap.size := Nat.lt_of_lt_of_le l_18_0 hb19.size
  have z_20 : Below w.heap.size w w19 := z_18.trans (hb19.mono z_18.size)
  clear he_18 hL_18 c_18_0 c_18_1 l_18_0 z_18 hb19
  obtain ⟨au, capu, rfl, p1, p2, hcu⟩ := intsR_open hU19
  clear hcu
  unfold maxLen at p2
  go_wp2_with fail
  refine (twice_yes _ L ah t w19 hL_20 F.out T.out).mono ?_; rintro e w21 ⟨u21, rfl, hu21, hb21⟩
  rw [X.out] at hu21
  have he_22 := he_20.below hb21
  have hL_22 := hL_20.below hb21
  have hU_22 := hU19.below hb21
  have c_22_0 := (hb21.cell (p := ⟨w.heap.size, 0, none⟩) l_20_0).trans c_20_0
  have c_22_1 := (hb21.cell (p := ⟨w.heap.size, 1, none⟩) l_20_0).trans c_20_1
  have l_22_0 : w.heap.size < w21.heap.size := Nat.lt_of_lt_of_le l_20_0 hb21.size
  have z_22 : Below w.heap.size w w21 := z_20.trans (hb21.mono z_20.size)
  clear he_20 hL_20 hU19 c_20_0 c_20_1 l_20_0 z_20 hb21
  go_wp2_with fail
  refine ((error_nil 0 w21 true (by decide))).mono ?_; rintro e w23 ⟨rfl, hb23⟩
  have he_24 := he_22.below hb23
  have hL_24 := hL_22.below hb23
  have hU_24 := hU_22.below hb23
  have hM_24 := hu21.below hb23
  have c_24_0 := (hb23.cell (p := ⟨w.heap.size, 0, none⟩) l_22_0).trans c_22_0
  have c_24_1 := (hb23.cell (p := ⟨w.heap.size, 1, none⟩) l_22_0).trans c_22_1
  have l_24_0 : w.heap.size < w23.heap.size := Nat.lt_of_lt_of_le l_22_0 hb23.size
  have z_24 : Below w.heap.size w w23 := z_22.trans (hb23.mono z_22.size)
  clear he_22 hL_22 hU_22 hu21 c_22_0 c_22_1 l_22_0 z_22 hb23
  go_wp2_with fail
  refine (ints_any _ _ [] [] w23 hM_24 hU_24).mono ?_; rintro e w25 ⟨rfl, hb25⟩
  rw [intsB_same]
  have he_26 := he_24.below hb25
  have hL_26 := hL_24.below hb25
  have hU_26 := hU_24.below hb25
  have hM_26 := hM_24.below hb25
  have c_26_0 := (hb25.cell (p := ⟨w.heap.size, 0, none⟩) l_24_0).trans c_24_0
  have c_26_1 := (hb25.cell (p := ⟨w.heap.size, 1, none⟩) l_24_0).trans c_24_1
  have l_26_0 : w.heap.size < w25.heap.size := Nat.lt_of_lt_of_le l_24_0 hb25.size
  have z_26 : Below w.heap.size w w25 := z_24.trans (hb25.mono z_24.size)
  clear he_24 hL_24 hU_24 hM_24 c_24_0 c_24_1 l_24_0 z_24 hb25
  go_wp2_with fail
  refine (world_gap _ L ah t w25 hL_26 F.out T.out X.out).mono ?_; rintro e w27 ⟨rfl, hb27⟩
  have he_28 := he_26.below hb27
  have hL_28 := hL_26.below hb27
  have hU_28 := hU_26.below hb27
  have hM_28 := hM_26.below hb27
  have c_28_0 := (hb27.cell (p := ⟨w.heap.size, 0, none⟩) l_26_0).trans c_26_0
  have c_28_1 := (hb27.cell (p := ⟨w.heap.size, 1, none⟩) l_26_0).trans c_26_1
  have l_28_0 : w.heap.size < w27.heap.size := Nat.lt_of_lt_of_le l_26_0 hb27.size
  have z_28 : Below w.heap.size w w27 := z_26.trans (hb27.mono z_26.size)
  clear he_26 hL_26 hU_26 hM_26 c_26_0 c_26_1 l_26_0 z_26 hb27
  go_wp2_with fail
  refine ((error_no 8 8 w27 true he_28 (by simp) (by omega) (by omega))).mono ?_; rintro e w29 ⟨rfl, hb29⟩
  have he_30 := he_28.below hb29
  have hL_30 := hL_28.below hb29
  have hU_30 := hU_28.below hb29
  have hM_30 := hM_28.below hb29
  have c_30_0 := (hb29.cell (p := ⟨w.heap.size, 0, none⟩) l_28_0).trans c_28_0
  have c_30_1 := (hb29.cell (p := ⟨w.heap.size, 1, none⟩) l_28_0).trans c_28_1
  have l_30_0 : w.heap.size < w29.heap.size := Nat.lt_of_lt_of_le l_28_0 hb29.size
  have z_30 : Below w.heap.size w w29 := z_28.trans (hb29.mono z_28.size)
  clear he_28 hL_28 hU_28 hM_28 c_28_0 c_28_1 l_28_0 z_28 hb29
  go_wp2
  go_ret
  exact ⟨by simp, z_30⟩

set_option maxRecDepth 100000 in
set_option maxHeartbeats 8000000 in
theorem zoneTells_ok_yes (v : Value) (L : List (Int × Int)) (ah at_ t : Int) (w : World) (he : ErrT w) (hL : PairsR w v L) (F0 : zfault ah L = 0) (A0 : timeB at_ = true) (Q0 : timeB (at_ + zoneOf ah L at_) = true) (T0 : timeB t = true) (x : Int) (r : List Int) (X0 : zoneAll ah L t = x :: r) :
    Calls Tryd.prog 11 #[.agg #[.int .i64 ah, v], .int .i64 at_, .int .i64 t] w fun e w' => e = .returned (.bool true) ∧ Below w.heap.size w w' := by
  have F := Lib.hid F0; clear F0
  obtain ⟨b1, b2⟩ := timeB_yes A0
  have hzb := zoneOf_bd F.out at_
  obtain ⟨zn, hzn⟩ : ∃ zn, zn = zoneOf ah L at_ := ⟨_, rfl⟩
  rw [← hzn] at hzb Q0
  obtain ⟨b3, b4⟩ := hzb
  have ZN := Lib.hid hzn
  have Q := Lib.hid Q0
  have QZ := Lib.hid (show timeB (at_ + zoneOf ah L at_) = true by rw [← hzn]; exact Q0)
  clear hzn Q0
  have A := Lib.hid A0; clear A0
  obtain ⟨t1, t2⟩ := timeB_yes T0
  have X := Lib.hid X0; clear X0
  have T := Lib.hid T0; clear T0
  have hL0 := hL
  obtain ⟨a, cap, rfl, _, _, _⟩ := hL0
  go_enter Tryd.func11, Tryd.ntmps11
  go_wp2_with fail
  obtain ⟨w1, hq1⟩ : ∃ x, x = w.alloc (.cells #[.int .i64 ah, .slice a L.length cap] 100) := ⟨_, rfl⟩
  rw [← hq1]
  have hb1 : Below w.heap.size w w1 := by rw [hq1]; exact (Below.refl _ _).alloc (Nat.le_refl _) _
  have d_1_0 : w1.cell? ⟨w.heap.size, 0, none⟩ = some (.int .i64 ah) := by rw [hq1]; simp
  have d_1_1 : w1.cell? ⟨w.heap.size, 1, none⟩ = some (.slice a L.length cap) := by rw [hq1]; simp
  have m_1 : w.heap.size < w1.heap.size := by rw [hq1]; simp
  clear hq1
  have he_2 := he.below hb1
  have hL_2 := hL.below hb1
  have z_2 : Below w.heap.size w w1 := hb1
  clear he hL hb1
  refine (rzone_any _ L ah w1 hL_2).mono ?_; rintro e w3 ⟨rfl, hb3⟩
  rw [F.out]
  have he_4 := he_2.below hb3
  have hL_4 := hL_2.below hb3
  have c_4_0 := (hb3.cell (p := ⟨w.heap.size, 0, none⟩) m_1).trans d_1_0
  have c_4_1 := (hb3.cell (p := ⟨w.heap.size, 1, none⟩) m_1).trans d_1_1
  have l_4_0 : w.heap.size < w3.heap.size := Nat.lt_of_lt_of_le m_1 hb3.size
  have z_4 : Below w.heap.size w w3 := z_2.trans (hb3.mono z_2.size)
  clear he_2 hL_2 d_1_0 d_1_1 m_1 z_2 hb3
  go_wp2_with fail
  refine (zcheck_any _ L ah w3 hL_4).mono ?_; rintro e w5 ⟨rfl, hb5⟩
  rw [F.out, errV_0]
  have he_6 := he_4.below hb5
  have hL_6 := hL_4.below hb5
  have c_6_0 := (hb5.cell (p := ⟨w.heap.size, 0, none⟩) l_4_0).trans c_4_0
  have c_6_1 := (hb5.cell (p := ⟨w.heap.size, 1, none⟩) l_4_0).trans c_4_1
  have l_6_0 : w.heap.size < w5.heap.size := Nat.lt_of_lt_of_le l_4_0 hb5.size
  have z_6 : Below w.heap.size w w5 := z_4.trans (hb5.mono z_4.size)
  clear he_4 hL_4 c_4_0 c_4_1 l_4_0 z_4 hb5
  go_wp2_with fail
  refine ((error_nil 0 w5 true (by decide))).mono ?_; rintro e w7 ⟨rfl, hb7⟩
  have he_8 := he_6.below hb7
  have hL_8 := hL_6.below hb7
  have c_8_0 := (hb7.cell (p := ⟨w.heap.size, 0, none⟩) l_6_0).trans c_6_0
  have c_8_1 := (hb7.cell (p := ⟨w.heap.size, 1, none⟩) l_6_0).trans c_6_1
  have l_8_0 : w.heap.size < w7.heap.size := Nat.lt_of_lt_of_le l_6_0 hb7.size
  have z_8 : Below w.heap.size w w7 := z_6.trans (hb7.mono z_6.size)
  clear he_6 hL_6 c_6_0 c_6_1 l_6_0 z_6 hb7
  go_wp2_with fail
  refine (rtime_any at_ w7).mono ?_; rintro e w' ⟨rfl, rfl⟩
  rw [A.out]
  go_wp2_with fail
  refine (rzahead_any _ L ah at_ w7 hL_8).mono ?_; rintro e w9 ⟨rfl, hb9⟩
  rw [← ZN.out]
  have he_10 := he_8.below hb9
  have hL_10 := hL_8.below hb9
  have c_10_0 := (hb9.cell (p := ⟨w.heap.size, 0, none⟩) l_8_0).trans c_8_0
  have c_10_1 := (hb9.cell (p := ⟨w.heap.size, 1, none⟩) l_8_0).trans c_8_1
  have l_10_0 : w.heap.size < w9.heap.size := Nat.lt_of_lt_of_le l_8_0 hb9.size
  have z_10 : Below w.heap.size w w9 := z_8.trans (hb9.mono z_8.size)
  clear he_8 hL_8 c_8_0 c_8_1 l_8_0 z_8 hb9
  go_wp2_with fail
  refine (rtime_any (at_ + zn) w9).mono ?_; rintro e w' ⟨rfl, rfl⟩
  rw [Q.out]
  go_wp2_with fail
  refine (ahead_yes _ L ah at_ w9 hL_10 F.out A.out).mono ?_; rintro e w11 ⟨rfl, hb11⟩
  rw [← ZN.out]
  have he_12 := he_10.below hb11
  have hL_12 := hL_10.below hb11
  have c_12_0 := (hb11.cell (p := ⟨w.heap.size, 0, none⟩) l_10_0).trans c_10_0
  have c_12_1 := (hb11.cell (p := ⟨w.heap.size, 1, none⟩) l_10_0).trans c_10_1
  have l_12_0 : w.heap.size < w11.heap.size := Nat.lt_of_lt_of_le l_10_0 hb11.size
  have z_12 : Below w.heap.size w w11 := z_10.trans (hb11.mono z_10.size)
  clear he_10 hL_10 c_10_0 c_10_1 l_10_0 z_10 hb11
  go_wp2_with fail
  refine ((error_nil 0 w11 true (by decide))).mono ?_; rintro e w13 ⟨rfl, hb13⟩
  have he_14 := he_12.below hb13
  have hL_14 := hL_12.below hb13
  have c_14_0 := (hb13.cell (p := ⟨w.heap.size, 0, none⟩) l_12_0).trans c_12_0
  have c_14_1 := (hb13.cell (p := ⟨w.heap.size, 1, none⟩) l_12_0).trans c_12_1
  have l_14_0 : w.heap.size < w13.heap.size := Nat.lt_of_lt_of_le l_12_0 hb13.size
  have z_14 : Below w.heap.size w w13 := z_12.trans (hb13.mono z_12.size)
  clear he_12 hL_12 c_12_0 c_12_1 l_12_0 z_12 hb13
  go_wp2_with fail
  refine (local_yes _ L ah at_ w13 hL_14 F.out A.out QZ.out).mono ?_; rintro e w15 ⟨rfl, hb15⟩
  rw [← ZN.out]
  have he_16 := he_14.below hb15
  have hL_16 := hL_14.below hb15
  have c_16_0 := (hb15.cell (p := ⟨w.heap.size, 0, none⟩) l_14_0).trans c_14_0
  have c_16_1 := (hb15.cell (p := ⟨w.heap.size, 1, none⟩) l_14_0).trans c_14_1
  have l_16_0 : w.heap.size < w15.heap.size := Nat.lt_of_lt_of_le l_14_0 hb15.size
  have z_16 : Below w.heap.size w w15 := z_14.trans (hb15.mono z_14.size)
  clear he_14 hL_14 c_14_0 c_14_1 l_14_0 z_14 hb15
  go_wp2_with fail
  refine ((error_nil 0 w15 true (by decide))).mono ?_; rintro e w17 ⟨rfl, hb17⟩
  have he_18 := he_16.below hb17
  have hL_18 := hL_16.below hb17
  have c_18_0 := (hb17.cell (p := ⟨w.heap.size, 0, none⟩) l_16_0).trans c_16_0
  have c_18_1 := (hb17.cell (p := ⟨w.heap.size, 1, none⟩) l_16_0).trans c_16_1
  have l_18_0 : w.heap.size < w17.heap.size := Nat.lt_of_lt_of_le l_16_0 hb17.size
  have z_18 : Below w.heap.size w w17 := z_16.trans (hb17.mono z_16.size)
  clear he_16 hL_16 c_16_0 c_16_1 l_16_0 z_16 hb17
  go_wp2_with fail
  refine (rtime_any t w17).mono ?_; rintro e w' ⟨rfl, rfl⟩
  rw [T.out]
  go_wp2_with fail
  refine (rtwice_any _ L ah t w17 hL_18 F.out (by omega) t2).mono ?_; rintro e w19 ⟨u19, rfl, hu19, hb19⟩
  have hU19 := intsR_of_owns hu19; clear hu19
  rw [X.out] at hU19
  have he_20 := he_18.below hb19
  have hL_20 := hL_18.below hb19
  have c_20_0 := (hb19.cell (p := ⟨w.heap.size, 0, none⟩) l_18_0).trans c_18_0
  have c_20_1 := (hb19.cell (p := ⟨w.heap.size, 1, none⟩) l_18_0).trans c_18_1
  have l_20_0 : w.heap.size < w19.heap.size := Nat.lt_of_lt_of_le l_18_0 hb19.size
  have z_20 : Below w.heap.size w w19 := z_18.trans (hb19.mono z_18.size)
  clear he_18 hL_18 c_18_0 c_18_1 l_18_0 z_18 hb19
  obtain ⟨au, capu, rfl, p1, p2, hcu⟩ := intsR_open hU19
  obtain ⟨bu, ou, rfl, hcs⟩ := hcu (by simp)
  have cu := hcs 0 (by simp)
  simp at cu
  have hr : (((x :: r).length : Int) == 0) = false := by first | (simp; done) | (simp; omega)
  have hr2 : (0 : Int) < ((x :: r).length : Int) := by first | (simp; done) | (simp; omega)
  clear hcs hcu
  unfold maxLen at p2
  obtain ⟨nn, hnn⟩ : ∃ nn, nn = (x :: r).length := ⟨_, rfl⟩
  rw [← hnn] at hr hr2 p1 hU19 ⊢
  have hn0 : 0 < nn := by omega
  clear hnn
  go_wp2_with fail
  clear cu
  refine (twice_yes _ L ah t w19 hL_20 F.out T.out).mono ?_; rintro e w21 ⟨u21, rfl, hu21, hb21⟩
  rw [X.out] at hu21
  have he_22 := he_20.below hb21
  have hL_22 := hL_20.below hb21
  have hU_22 := hU19.below hb21
  have c_22_0 := (hb21.cell (p := ⟨w.heap.size, 0, none⟩) l_20_0).trans c_20_0
  have c_22_1 := (hb21.cell (p := ⟨w.heap.size, 1, none⟩) l_20_0).trans c_20_1
  have l_22_0 : w.heap.size < w21.heap.size := Nat.lt_of_lt_of_le l_20_0 hb21.size
  have z_22 : Below w.heap.size w w21 := z_20.trans (hb21.mono z_20.size)
  clear he_20 hL_20 hU19 c_20_0 c_20_1 l_20_0 z_20 hb21
  go_wp2_with fail
  refine ((error_nil 0 w21 true (by decide))).mono ?_; rintro e w23 ⟨rfl, hb23⟩
  have he_24 := he_22.below hb23
  have hL_24 := hL_22.below hb23
  have hU_24 := hU_22.below hb23
  have hM_24 := hu21.below hb23
  have c_24_0 := (hb23.cell (p := ⟨w.heap.size, 0, none⟩) l_22_0).trans c_22_0
  have c_24_1 := (hb23.cell (p := ⟨w.heap.size, 1, none⟩) l_22_0).trans c_22_1
  have l_24_0 : w.heap.size < w23.heap.size := Nat.lt_of_lt_of_le l_22_0 hb23.size
  have z_24 : Below w.heap.size w w23 := z_22.trans (hb23.mono z_22.size)
  clear he_22 hL_22 hU_22 hu21 c_22_0 c_22_1 l_22_0 z_22 hb23
  go_wp2_with fail
  refine (ints_any _ _ (x :: r) (x :: r) w23 hM_24 hU_24).mono ?_; rintro e w25 ⟨rfl, hb25⟩
  rw [intsB_same]
  have he_26 := he_24.below hb25
  have hL_26 := hL_24.below hb25
  have hU_26 := hU_24.below hb25
  have hM_26 := hM_24.below hb25
  have c_26_0 := (hb25.cell (p := ⟨w.heap.size, 0, none⟩) l_24_0).trans c_24_0
  have c_26_1 := (hb25.cell (p := ⟨w.heap.size, 1, none⟩) l_24_0).trans c_24_1
  have l_26_0 : w.heap.size < w25.heap.size := Nat.lt_of_lt_of_le l_24_0 hb25.size
  have z_26 : Below w.heap.size w w25 := z_24.trans (hb25.mono z_24.size)
  clear he_24 hL_24 hU_24 hM_24 c_24_0 c_24_1 l_24_0 z_24 hb25
  go_wp2_with fail
  refine (world_yes _ L ah t x r w25 hL_26 F.out T.out X.out).mono ?_; rintro e w27 ⟨rfl, hb27⟩
  have he_28 := he_26.below hb27
  have hL_28 := hL_26.below hb27
  have hU_28 := hU_26.below hb27
  have hM_28 := hM_26.below hb27
  have c_28_0 := (hb27.cell (p := ⟨w.heap.size, 0, none⟩) l_26_0).trans c_26_0
  have c_28_1 := (hb27.cell (p := ⟨w.heap.size, 1, none⟩) l_26_0).trans c_26_1
  have l_28_0 : w.heap.size < w27.heap.size := Nat.lt_of_lt_of_le l_26_0 hb27.size
  have z_28 : Below w.heap.size w w27 := z_26.trans (hb27.mono z_26.size)
  clear he_26 hL_26 hU_26 hM_26 c_26_0 c_26_1 l_26_0 z_26 hb27
  go_wp2_with fail
  refine ((error_nil 0 w27 true (by decide))).mono ?_; rintro e w29 ⟨rfl, hb29⟩
  have he_30 := he_28.below hb29
  have hL_30 := hL_28.below hb29
  have hU_30 := hU_28.below hb29
  have hM_30 := hM_28.below hb29
  have c_30_0 := (hb29.cell (p := ⟨w.heap.size, 0, none⟩) l_28_0).trans c_28_0
  have c_30_1 := (hb29.cell (p := ⟨w.heap.size, 1, none⟩) l_28_0).trans c_28_1
  have l_30_0 : w.heap.size < w29.heap.size := Nat.lt_of_lt_of_le l_28_0 hb29.size
  have z_30 : Below w.heap.size w w29 := z_28.trans (hb29.mono z_28.size)
  clear he_28 hL_28 hU_28 hM_28 c_28_0 c_28_1 l_28_0 z_28 hb29
  go_wp2
  go_ret
  exact ⟨by simp, z_30⟩

theorem zoneTells_top (ah : Int) (v : Value) (L : List (Int × Int)) (at_ t : Int) (w : World) (he : ErrT w) (_ : (Lit.int .i64 ah).wf = true) (hL : PairsR w v L) (_ : (Lit.int .i64 at_).wf = true) (_ : (Lit.int .i64 t).wf = true) :
    Calls Tryd.prog 11 #[.agg #[.int .i64 ah, v], .int .i64 at_, .int .i64 t] w fun e w' => e = .returned (.bool true) ∧ Below w.heap.size w w' := by
  by_cases F : zfault ah L = 0
  · cases A : timeB at_
    · cases T : timeB t
      · exact zoneTells_bad_bad v L ah at_ t w he hL F A T
      · cases X : zoneAll ah L t with
        | nil => exact zoneTells_bad_gap v L ah at_ t w he hL F A T X
        | cons x r => exact zoneTells_bad_yes v L ah at_ t w he hL F A T x r X
    · cases Q : timeB (at_ + zoneOf ah L at_)
      · cases T : timeB t
        · exact zoneTells_off_bad v L ah at_ t w he hL F A Q T
        · cases X : zoneAll ah L t with
          | nil => exact zoneTells_off_gap v L ah at_ t w he hL F A Q T X
          | cons x r => exact zoneTells_off_yes v L ah at_ t w he hL F A Q T x r X
      · cases T : timeB t
        · exact zoneTells_ok_bad v L ah at_ t w he hL F A Q T
        · cases X : zoneAll ah L t with
          | nil => exact zoneTells_ok_gap v L ah at_ t w he hL F A Q T X
          | cons x r => exact zoneTells_ok_yes v L ah at_ t w he hL F A Q T x r X
  · exact zoneTells_fault v L ah at_ t w he hL _ rfl F

end Go.Proofs.YtdamncbgobjpdaaDoor

