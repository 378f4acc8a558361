/- The law DayBack: a day's date is that day, the next day is the next one, for every date and number. The walk: two ways of its first part, five of its second. -/
import Derived.Test.YtonoiaimknkpfaaDoorDayD
namespace Go.Proofs.YtonoiaimknkpfaaDoor
open Go.RowKit

set_option maxRecDepth 100000 in
set_option maxHeartbeats 4000000 in
theorem dayBack_yes_none (y m d n : Int) (w : World) (hw : Months w) (hd : Cal.dateB y m d = true) (hn : n < 1 ∨ 109573 < n) :
    Calls Tryd.prog 4 #[.agg #[.int .i64 y, .int .i64 m, .int .i64 d], .int .i64 n] w fun e w' => e = .returned (.bool true) ∧ Below w.heap.size w w' := by
  have k1 : Cal.dateB 2026 11 15 = true := by decide
  have k2 : Cal.num 2026 11 15 = 46340 := by decide
  have hwa := hw.alloc (.cells #[.int .i64 y, .int .i64 m, .int .i64 d] 28)
  go_enter Tryd.func4, Tryd.ntmps4
  go_wp2_with fail
  refine (of_yes 2026 11 15 _ hwa k1).mono ?_; rintro e w1 ⟨rfl, hb1⟩
  rw [k2]
  have hw1 := hwa.below hb1
  go_wp2_with fail
  refine (weekday_yes 46340 _ (by omega) (by omega)).mono ?_; rintro e w1' ⟨rfl, rfl⟩
  have hs1 := hb1.size; simp at hs1
  have c0 := hb1.cell (p := ⟨w.heap.size, 0, none⟩) (by simp)
  have c1 := hb1.cell (p := ⟨w.heap.size, 1, none⟩) (by simp)
  have c2 := hb1.cell (p := ⟨w.heap.size, 2, none⟩) (by simp)
  simp at c0 c1 c2
  have hb01 : Below w.heap.size w w1 := ((Below.refl _ _).alloc (Nat.le_refl _) _).trans (hb1.mono (by simp))
  go_wp2_with fail
  refine (of_yes y m d _ hw1 hd).mono ?_; rintro e w2 ⟨rfl, hb2⟩
  have hw2 := hw1.below hb2
  go_wp2_with fail
  refine (date_num y m d _ hw2 hd).mono ?_; rintro e w3 ⟨rfl, hb3⟩
  have hb13 := hb2.trans (hb3.mono hb2.size)
  have hs3 := hb13.size
  have d0 := (hb13.cell (p := ⟨w.heap.size, 0, none⟩) (by simp; omega)).trans c0
  have d1 := (hb13.cell (p := ⟨w.heap.size, 1, none⟩) (by simp; omega)).trans c1
  have d2 := (hb13.cell (p := ⟨w.heap.size, 2, none⟩) (by simp; omega)).trans c2
  have hl3 : w.heap.size < w3.heap.size := by omega
  go_wp2_with fail
  obtain ⟨wz, hz⟩ : ∃ wz, wz = w3.alloc (.cells #[.int .i64 y, .int .i64 m, .int .i64 d] 28) := ⟨_, rfl⟩
  rw [← hz]
  have hbz : Below w.heap.size w wz := by rw [hz]; exact (hb01.trans (hb13.mono hb01.size)).alloc (by omega) _
  have hwz : Months wz := by rw [hz]; exact (hw1.below hb13).alloc _
  clear hz d0 d1 d2 c0 c1 c2 hb1 hb2 hb3 hb13 hb01 hwa hw1 hw2 hs1 hs3 hl3
  refine (date_no n _ hn).mono ?_; rintro e w4 ⟨rfl, hb4⟩
  go_wp2
  go_ret
  exact ⟨rfl, (hbz.trans (hb4.mono hbz.size)).alloc (by have := hbz.size; have := hb4.size; omega) _⟩

set_option maxRecDepth 100000 in
set_option maxHeartbeats 4000000 in
theorem dayBack_yes_last (y m d y1 m1 d1 : Int) (w : World) (hw : Months w) (hd : Cal.dateB y m d = true) (h1 : Cal.dateB y1 m1 d1 = true) (hl : Cal.num y1 m1 d1 = 109573) :
    Calls Tryd.prog 4 #[.agg #[.int .i64 y, .int .i64 m, .int .i64 d], .int .i64 (Cal.num y1 m1 d1)] w fun e w' => e = .returned (.bool true) ∧ Below w.heap.size w w' := by
  have k1 : Cal.dateB 2026 11 15 = true := by decide
  have k2 : Cal.num 2026 11 15 = 46340 := by decide
  have hwa := hw.alloc (.cells #[.int .i64 y, .int .i64 m, .int .i64 d] 28)
  obtain ⟨hm1, hd1, hd2⟩ := Cal.date_yes h1
  obtain ⟨a1, a2, a3, a4⟩ := Cal.month_yes hm1
  obtain ⟨_, _, b1, b2⟩ := Cal.num_bd h1
  have hdb := Cal.dim_bd y1 m1
  have e1 : (Cal.num y1 m1 d1 == 109573) = true := by rw [hl]; rfl
  have hn1 : 109573 < Cal.num y1 m1 d1 + 1 := by omega
  clear hl
  go_enter Tryd.func4, Tryd.ntmps4
  go_wp2_with fail
  refine (of_yes 2026 11 15 _ hwa k1).mono ?_; rintro e w1 ⟨rfl, hb1⟩
  rw [k2]
  have hw1 := hwa.below hb1
  go_wp2_with fail
  refine (weekday_yes 46340 _ (by omega) (by omega)).mono ?_; rintro e w1' ⟨rfl, rfl⟩
  have hs1 := hb1.size; simp at hs1
  have c0 := hb1.cell (p := ⟨w.heap.size, 0, none⟩) (by simp)
  have c1 := hb1.cell (p := ⟨w.heap.size, 1, none⟩) (by simp)
  have c2 := hb1.cell (p := ⟨w.heap.size, 2, none⟩) (by simp)
  simp at c0 c1 c2
  have hb01 : Below w.heap.size w w1 := ((Below.refl _ _).alloc (Nat.le_refl _) _).trans (hb1.mono (by simp))
  go_wp2_with fail
  refine (of_yes y m d _ hw1 hd).mono ?_; rintro e w2 ⟨rfl, hb2⟩
  have hw2 := hw1.below hb2
  go_wp2_with fail
  refine (date_num y m d _ hw2 hd).mono ?_; rintro e w3 ⟨rfl, hb3⟩
  have hb13 := hb2.trans (hb3.mono hb2.size)
  have hs3 := hb13.size
  have d0 := (hb13.cell (p := ⟨w.heap.size, 0, none⟩) (by simp; omega)).trans c0
  have d1 := (hb13.cell (p := ⟨w.heap.size, 1, none⟩) (by simp; omega)).trans c1
  have d2 := (hb13.cell (p := ⟨w.heap.size, 2, none⟩) (by simp; omega)).trans c2
  have hl3 : w.heap.size < w3.heap.size := by omega
  go_wp2_with fail
  obtain ⟨wz, hz⟩ : ∃ wz, wz = w3.alloc (.cells #[.int .i64 y, .int .i64 m, .int .i64 d] 28) := ⟨_, rfl⟩
  rw [← hz]
  have hbz : Below w.heap.size w wz := by rw [hz]; exact (hb01.trans (hb13.mono hb01.size)).alloc (by omega) _
  have hwz : Months wz := by rw [hz]; exact (hw1.below hb13).alloc _
  clear hz d0 d1 d2 c0 c1 c2 hb1 hb2 hb3 hb13 hb01 hwa hw1 hw2 hs1 hs3 hl3
  refine (date_num y1 m1 d1 _ hwz h1).mono ?_; rintro e w4 ⟨rfl, hb4⟩
  have hw4 := (hwz.below hb4).alloc (.cells #[.int .i64 y1, .int .i64 m1, .int .i64 d1] 28)
  have hbz4 : Below w.heap.size w w4 := hbz.trans (hb4.mono hbz.size)
  have hs4 := hbz4.size
  clear hwz hbz hb4
  go_wp2_with fail
  refine (of_yes y1 m1 d1 _ hw4 h1).mono ?_; rintro e w5 ⟨rfl, hb5⟩
  have hs5 := hb5.size; simp at hs5
  have c0 := hb5.cell (p := ⟨w4.heap.size, 0, none⟩) (by simp)
  have c1 := hb5.cell (p := ⟨w4.heap.size, 1, none⟩) (by simp)
  have c2 := hb5.cell (p := ⟨w4.heap.size, 2, none⟩) (by simp)
  simp at c0 c1 c2
  have hw5 := hw4.below hb5
  have hb05 : Below w.heap.size w w5 := (hbz4.alloc hs4 _).trans (hb5.mono (by simp; omega))
  have hl5 : w4.heap.size < w5.heap.size := by omega
  clear hb5 hw4 hbz4
  go_wp2_with fail
  refine (days_yes y1 m1 _ hw5 hm1).mono ?_; rintro e w5' ⟨rfl, rfl⟩
  go_wp2_with fail
  refine (date_no (Cal.num y1 m1 d1 + 1) _ (.inr hn1)).mono ?_; rintro e w6 ⟨rfl, hb6⟩
  go_wp2_with (go_at_call 15; refine (last_any _).mono ?_; rintro e w' ⟨rfl, rfl⟩)
  go_ret
  exact ⟨rfl, (hb05.trans (hb6.mono hb05.size)).alloc (by have := hb05.size; have := hb6.size; omega) _⟩

set_option maxRecDepth 100000 in
set_option maxHeartbeats 4000000 in
theorem dayBack_yes_in (y m d y1 m1 d1 : Int) (w : World) (hw : Months w) (hd : Cal.dateB y m d = true) (h1 : Cal.dateB y1 m1 d1 = true) (hl : d1 < Cal.dim y1 m1) :
    Calls Tryd.prog 4 #[.agg #[.int .i64 y, .int .i64 m, .int .i64 d], .int .i64 (Cal.num y1 m1 d1)] w fun e w' => e = .returned (.bool true) ∧ Below w.heap.size w w' := by
  have k1 : Cal.dateB 2026 11 15 = true := by decide
  have k2 : Cal.num 2026 11 15 = 46340 := by decide
  have hwa := hw.alloc (.cells #[.int .i64 y, .int .i64 m, .int .i64 d] 28)
  obtain ⟨hm1, hd1, hd2⟩ := Cal.date_yes h1
  obtain ⟨a1, a2, a3, a4⟩ := Cal.month_yes hm1
  obtain ⟨_, _, b1, b2⟩ := Cal.num_bd h1
  have hdb := Cal.dim_bd y1 m1
  obtain ⟨h2, hn2⟩ := Cal.next_in h1 hl
  have N := Lib.hid hn2; clear hn2
  obtain ⟨_, _, b3, b4⟩ := Cal.num_bd h2
  rw [N.out] at b3 b4
  have e3 : ((Cal.num y1 m1 d1 + 1 - 1) % 7 + 1 != (((Cal.num y1 m1 d1 - 1) % 7 + 1)) % 7 + 1) = false := by rw [bne_eq_false_iff_eq]; omega
  have e4 : (Cal.num y1 m1 d1 % 7 + 1 != ((Cal.num y1 m1 d1 - 1) % 7 + 1) % 7 + 1) = false := by rw [bne_eq_false_iff_eq]; omega
  go_enter Tryd.func4, Tryd.ntmps4
  go_wp2_with fail
  refine (of_yes 2026 11 15 _ hwa k1).mono ?_; rintro e w1 ⟨rfl, hb1⟩
  rw [k2]
  have hw1 := hwa.below hb1
  go_wp2_with fail
  refine (weekday_yes 46340 _ (by omega) (by omega)).mono ?_; rintro e w1' ⟨rfl, rfl⟩
  have hs1 := hb1.size; simp at hs1
  have c0 := hb1.cell (p := ⟨w.heap.size, 0, none⟩) (by simp)
  have c1 := hb1.cell (p := ⟨w.heap.size, 1, none⟩) (by simp)
  have c2 := hb1.cell (p := ⟨w.heap.size, 2, none⟩) (by simp)
  simp at c0 c1 c2
  have hb01 : Below w.heap.size w w1 := ((Below.refl _ _).alloc (Nat.le_refl _) _).trans (hb1.mono (by simp))
  go_wp2_with fail
  refine (of_yes y m d _ hw1 hd).mono ?_; rintro e w2 ⟨rfl, hb2⟩
  have hw2 := hw1.below hb2
  go_wp2_with fail
  refine (date_num y m d _ hw2 hd).mono ?_; rintro e w3 ⟨rfl, hb3⟩
  have hb13 := hb2.trans (hb3.mono hb2.size)
  have hs3 := hb13.size
  have d0 := (hb13.cell (p := ⟨w.heap.size, 0, none⟩) (by simp; omega)).trans c0
  have d1 := (hb13.cell (p := ⟨w.heap.size, 1, none⟩) (by simp; omega)).trans c1
  have d2 := (hb13.cell (p := ⟨w.heap.size, 2, none⟩) (by simp; omega)).trans c2
  have hl3 : w.heap.size < w3.heap.size := by omega
  go_wp2_with fail
  obtain ⟨wz, hz⟩ : ∃ wz, wz = w3.alloc (.cells #[.int .i64 y, .int .i64 m, .int .i64 d] 28) := ⟨_, rfl⟩
  rw [← hz]
  have hbz : Below w.heap.size w wz := by rw [hz]; exact (hb01.trans (hb13.mono hb01.size)).alloc (by omega) _
  have hwz : Months wz := by rw [hz]; exact (hw1.below hb13).alloc _
  clear hz d0 d1 d2 c0 c1 c2 hb1 hb2 hb3 hb13 hb01 hwa hw1 hw2 hs1 hs3 hl3
  refine (date_num y1 m1 d1 _ hwz h1).mono ?_; rintro e w4 ⟨rfl, hb4⟩
  have hw4 := (hwz.below hb4).alloc (.cells #[.int .i64 y1, .int .i64 m1, .int .i64 d1] 28)
  have hbz4 : Below w.heap.size w w4 := hbz.trans (hb4.mono hbz.size)
  have hs4 := hbz4.size
  clear hwz hbz hb4
  go_wp2_with fail
  refine (of_yes y1 m1 d1 _ hw4 h1).mono ?_; rintro e w5 ⟨rfl, hb5⟩
  have hs5 := hb5.size; simp at hs5
  have c0 := hb5.cell (p := ⟨w4.heap.size, 0, none⟩) (by simp)
  have c1 := hb5.cell (p := ⟨w4.heap.size, 1, none⟩) (by simp)
  have c2 := hb5.cell (p := ⟨w4.heap.size, 2, none⟩) (by simp)
  simp at c0 c1 c2
  have hw5 := hw4.below hb5
  have hb05 : Below w.heap.size w w5 := (hbz4.alloc hs4 _).trans (hb5.mono (by simp; omega))
  have hl5 : w4.heap.size < w5.heap.size := by omega
  clear hb5 hw4 hbz4
  go_wp2_with fail
  refine (days_yes y1 m1 _ hw5 hm1).mono ?_; rintro e w5' ⟨rfl, rfl⟩
  go_wp2_with fail
  rw [← N.out]
  refine (date_num y1 m1 (d1 + 1) _ hw5 h2).mono ?_; rintro e w6 ⟨rfl, hb6⟩
  have hs6 := hb6.size
  have f0 := (hb6.cell (p := ⟨w4.heap.size, 0, none⟩) (by simp; omega)).trans c0
  have f1 := (hb6.cell (p := ⟨w4.heap.size, 1, none⟩) (by simp; omega)).trans c1
  have f2 := (hb6.cell (p := ⟨w4.heap.size, 2, none⟩) (by simp; omega)).trans c2
  have hb06 : Below w.heap.size w w6 := hb05.trans (hb6.mono hb05.size)
  have hl6 : w4.heap.size < w6.heap.size := by omega
  have hs06 := hb06.size
  clear hb6 hb05 c0 c1 c2 hw5
  go_wp2_with fail
  refine (weekday_yes _ _ b1 b2).mono ?_; rintro e w6' ⟨rfl, rfl⟩
  go_wp2_with fail
  refine (weekday_yes _ _ b3 b4).mono ?_; rintro e w6' ⟨rfl, rfl⟩
  go_wp2
  go_ret
  exact ⟨rfl, hb06.alloc hs06 _⟩

set_option maxRecDepth 100000 in
set_option maxHeartbeats 4000000 in
theorem dayBack_yes_month (y m d y1 m1 d1 : Int) (w : World) (hw : Months w) (hd : Cal.dateB y m d = true) (h1 : Cal.dateB y1 m1 d1 = true) (hl : d1 = Cal.dim y1 m1) (hm : m1 < 12) :
    Calls Tryd.prog 4 #[.agg #[.int .i64 y, .int .i64 m, .int .i64 d], .int .i64 (Cal.num y1 m1 d1)] w fun e w' => e = .returned (.bool true) ∧ Below w.heap.size w w' := by
  have k1 : Cal.dateB 2026 11 15 = true := by decide
  have k2 : Cal.num 2026 11 15 = 46340 := by decide
  have hwa := hw.alloc (.cells #[.int .i64 y, .int .i64 m, .int .i64 d] 28)
  obtain ⟨hm1, hd1, hd2⟩ := Cal.date_yes h1
  obtain ⟨a1, a2, a3, a4⟩ := Cal.month_yes hm1
  obtain ⟨_, _, b1, b2⟩ := Cal.num_bd h1
  have hdb := Cal.dim_bd y1 m1
  obtain ⟨h2, hn2⟩ := Cal.next_month h1 hl hm
  have N := Lib.hid hn2; clear hn2
  have hl' : Cal.dim y1 m1 ≤ d1 := by omega
  clear hl
  obtain ⟨_, _, b3, b4⟩ := Cal.num_bd h2
  rw [N.out] at b3 b4
  have e3 : ((Cal.num y1 m1 d1 + 1 - 1) % 7 + 1 != (((Cal.num y1 m1 d1 - 1) % 7 + 1)) % 7 + 1) = false := by rw [bne_eq_false_iff_eq]; omega
  have e4 : (Cal.num y1 m1 d1 % 7 + 1 != ((Cal.num y1 m1 d1 - 1) % 7 + 1) % 7 + 1) = false := by rw [bne_eq_false_iff_eq]; omega
  go_enter Tryd.func4, Tryd.ntmps4
  go_wp2_with fail
  refine (of_yes 2026 11 15 _ hwa k1).mono ?_; rintro e w1 ⟨rfl, hb1⟩
  rw [k2]
  have hw1 := hwa.below hb1
  go_wp2_with fail
  refine (weekday_yes 46340 _ (by omega) (by omega)).mono ?_; rintro e w1' ⟨rfl, rfl⟩
  have hs1 := hb1.size; simp at hs1
  have c0 := hb1.cell (p := ⟨w.heap.size, 0, none⟩) (by simp)
  have c1 := hb1.cell (p := ⟨w.heap.size, 1, none⟩) (by simp)
  have c2 := hb1.cell (p := ⟨w.heap.size, 2, none⟩) (by simp)
  simp at c0 c1 c2
  have hb01 : Below w.heap.size w w1 := ((Below.refl _ _).alloc (Nat.le_refl _) _).trans (hb1.mono (by simp))
  go_wp2_with fail
  refine (of_yes y m d _ hw1 hd).mono ?_; rintro e w2 ⟨rfl, hb2⟩
  have hw2 := hw1.below hb2
  go_wp2_with fail
  refine (date_num y m d _ hw2 hd).mono ?_; rintro e w3 ⟨rfl, hb3⟩
  have hb13 := hb2.trans (hb3.mono hb2.size)
  have hs3 := hb13.size
  have d0 := (hb13.cell (p := ⟨w.heap.size, 0, none⟩) (by simp; omega)).trans c0
  have d1 := (hb13.cell (p := ⟨w.heap.size, 1, none⟩) (by simp; omega)).trans c1
  have d2 := (hb13.cell (p := ⟨w.heap.size, 2, none⟩) (by simp; omega)).trans c2
  have hl3 : w.heap.size < w3.heap.size := by omega
  go_wp2_with fail
  obtain ⟨wz, hz⟩ : ∃ wz, wz = w3.alloc (.cells #[.int .i64 y, .int .i64 m, .int .i64 d] 28) := ⟨_, rfl⟩
  rw [← hz]
  have hbz : Below w.heap.size w wz := by rw [hz]; exact (hb01.trans (hb13.mono hb01.size)).alloc (by omega) _
  have hwz : Months wz := by rw [hz]; exact (hw1.below hb13).alloc _
  clear hz d0 d1 d2 c0 c1 c2 hb1 hb2 hb3 hb13 hb01 hwa hw1 hw2 hs1 hs3 hl3
  refine (date_num y1 m1 d1 _ hwz h1).mono ?_; rintro e w4 ⟨rfl, hb4⟩
  have hw4 := (hwz.below hb4).alloc (.cells #[.int .i64 y1, .int .i64 m1, .int .i64 d1] 28)
  have hbz4 : Below w.heap.size w w4 := hbz.trans (hb4.mono hbz.size)
  have hs4 := hbz4.size
  clear hwz hbz hb4
  go_wp2_with fail
  refine (of_yes y1 m1 d1 _ hw4 h1).mono ?_; rintro e w5 ⟨rfl, hb5⟩
  have hs5 := hb5.size; simp at hs5
  have c0 := hb5.cell (p := ⟨w4.heap.size, 0, none⟩) (by simp)
  have c1 := hb5.cell (p := ⟨w4.heap.size, 1, none⟩) (by simp)
  have c2 := hb5.cell (p := ⟨w4.heap.size, 2, none⟩) (by simp)
  simp at c0 c1 c2
  have hw5 := hw4.below hb5
  have hb05 : Below w.heap.size w w5 := (hbz4.alloc hs4 _).trans (hb5.mono (by simp; omega))
  have hl5 : w4.heap.size < w5.heap.size := by omega
  clear hb5 hw4 hbz4
  go_wp2_with fail
  refine (days_yes y1 m1 _ hw5 hm1).mono ?_; rintro e w5' ⟨rfl, rfl⟩
  go_wp2_with fail
  rw [← N.out]
  refine (date_num y1 (m1 + 1) 1 _ hw5 h2).mono ?_; rintro e w6 ⟨rfl, hb6⟩
  have hs6 := hb6.size
  have f0 := (hb6.cell (p := ⟨w4.heap.size, 0, none⟩) (by simp; omega)).trans c0
  have f1 := (hb6.cell (p := ⟨w4.heap.size, 1, none⟩) (by simp; omega)).trans c1
  have f2 := (hb6.cell (p := ⟨w4.heap.size, 2, none⟩) (by simp; omega)).trans c2
  have hb06 : Below w.heap.size w w6 := hb05.trans (hb6.mono hb05.size)
  have hl6 : w4.heap.size < w6.heap.size := by omega
  have hs06 := hb06.size
  clear hb6 hb05 c0 c1 c2 hw5
  go_wp2_with fail
  refine (weekday_yes _ _ b1 b2).mono ?_; rintro e w6' ⟨rfl, rfl⟩
  go_wp2_with fail
  refine (weekday_yes _ _ b3 b4).mono ?_; rintro e w6' ⟨rfl, rfl⟩
  go_wp2
  go_ret
  exact ⟨rfl, hb06.alloc hs06 _⟩

set_option maxRecDepth 100000 in
set_option maxHeartbeats 4000000 in
theorem dayBack_yes_year (y m d y1 d1 : Int) (w : World) (hw : Months w) (hd : Cal.dateB y m d = true) (h1 : Cal.dateB y1 12 d1 = true) (hl : d1 = Cal.dim y1 12) (hm : y1 < 2199) :
    Calls Tryd.prog 4 #[.agg #[.int .i64 y, .int .i64 m, .int .i64 d], .int .i64 (Cal.num y1 12 d1)] w fun e w' => e = .returned (.bool true) ∧ Below w.heap.size w w' := by
  have k1 : Cal.dateB 2026 11 15 = true := by decide
  have k2 : Cal.num 2026 11 15 = 46340 := by decide
  have hwa := hw.alloc (.cells #[.int .i64 y, .int .i64 m, .int .i64 d] 28)
  obtain ⟨hm1, hd1, hd2⟩ := Cal.date_yes h1
  obtain ⟨a1, a2, a3, a4⟩ := Cal.month_yes hm1
  obtain ⟨_, _, b1, b2⟩ := Cal.num_bd h1
  have hdb := Cal.dim_bd y1 12
  obtain ⟨h2, hn2⟩ := Cal.next_year h1 hl hm
  have N := Lib.hid hn2; clear hn2
  have hl' : Cal.dim y1 12 ≤ d1 := by omega
  clear hl
  obtain ⟨_, _, b3, b4⟩ := Cal.num_bd h2
  rw [N.out] at b3 b4
  have e3 : ((Cal.num y1 12 d1 + 1 - 1) % 7 + 1 != (((Cal.num y1 12 d1 - 1) % 7 + 1)) % 7 + 1) = false := by rw [bne_eq_false_iff_eq]; omega
  have e4 : (Cal.num y1 12 d1 % 7 + 1 != ((Cal.num y1 12 d1 - 1) % 7 + 1) % 7 + 1) = false := by rw [bne_eq_false_iff_eq]; omega
  go_enter Tryd.func4, Tryd.ntmps4
  go_wp2_with fail
  refine (of_yes 2026 11 15 _ hwa k1).mono ?_; rintro e w1 ⟨rfl, hb1⟩
  rw [k2]
  have hw1 := hwa.below hb1
  go_wp2_with fail
  refine (weekday_yes 46340 _ (by omega) (by omega)).mono ?_; rintro e w1' ⟨rfl, rfl⟩
  have hs1 := hb1.size; simp at hs1
  have c0 := hb1.cell (p := ⟨w.heap.size, 0, none⟩) (by simp)
  have c1 := hb1.cell (p := ⟨w.heap.size, 1, none⟩) (by simp)
  have c2 := hb1.cell (p := ⟨w.heap.size, 2, none⟩) (by simp)
  simp at c0 c1 c2
  have hb01 : Below w.heap.size w w1 := ((Below.refl _ _).alloc (Nat.le_refl _) _).trans (hb1.mono (by simp))
  go_wp2_with fail
  refine (of_yes y m d _ hw1 hd).mono ?_; rintro e w2 ⟨rfl, hb2⟩
  have hw2 := hw1.below hb2
  go_wp2_with fail
  refine (date_num y m d _ hw2 hd).mono ?_; rintro e w3 ⟨rfl, hb3⟩
  have hb13 := hb2.trans (hb3.mono hb2.size)
  have hs3 := hb13.size
  have d0 := (hb13.cell (p := ⟨w.heap.size, 0, none⟩) (by simp; omega)).trans c0
  have d1 := (hb13.cell (p := ⟨w.heap.size, 1, none⟩) (by simp; omega)).trans c1
  have d2 := (hb13.cell (p := ⟨w.heap.size, 2, none⟩) (by simp; omega)).trans c2
  have hl3 : w.heap.size < w3.heap.size := by omega
  go_wp2_with fail
  obtain ⟨wz, hz⟩ : ∃ wz, wz = w3.alloc (.cells #[.int .i64 y, .int .i64 m, .int .i64 d] 28) := ⟨_, rfl⟩
  rw [← hz]
  have hbz : Below w.heap.size w wz := by rw [hz]; exact (hb01.trans (hb13.mono hb01.size)).alloc (by omega) _
  have hwz : Months wz := by rw [hz]; exact (hw1.below hb13).alloc _
  clear hz d0 d1 d2 c0 c1 c2 hb1 hb2 hb3 hb13 hb01 hwa hw1 hw2 hs1 hs3 hl3
  refine (date_num y1 12 d1 _ hwz h1).mono ?_; rintro e w4 ⟨rfl, hb4⟩
  have hw4 := (hwz.below hb4).alloc (.cells #[.int .i64 y1, .int .i64 12, .int .i64 d1] 28)
  have hbz4 : Below w.heap.size w w4 := hbz.trans (hb4.mono hbz.size)
  have hs4 := hbz4.size
  clear hwz hbz hb4
  go_wp2_with fail
  refine (of_yes y1 12 d1 _ hw4 h1).mono ?_; rintro e w5 ⟨rfl, hb5⟩
  have hs5 := hb5.size; simp at hs5
  have c0 := hb5.cell (p := ⟨w4.heap.size, 0, none⟩) (by simp)
  have c1 := hb5.cell (p := ⟨w4.heap.size, 1, none⟩) (by simp)
  have c2 := hb5.cell (p := ⟨w4.heap.size, 2, none⟩) (by simp)
  simp at c0 c1 c2
  have hw5 := hw4.below hb5
  have hb05 : Below w.heap.size w w5 := (hbz4.alloc hs4 _).trans (hb5.mono (by simp; omega))
  have hl5 : w4.heap.size < w5.heap.size := by omega
  clear hb5 hw4 hbz4
  go_wp2_with fail
  refine (days_yes y1 12 _ hw5 hm1).mono ?_; rintro e w5' ⟨rfl, rfl⟩
  go_wp2_with fail
  rw [← N.out]
  refine (date_num (y1 + 1) 1 1 _ hw5 h2).mono ?_; rintro e w6 ⟨rfl, hb6⟩
  have hs6 := hb6.size
  have f0 := (hb6.cell (p := ⟨w4.heap.size, 0, none⟩) (by simp; omega)).trans c0
  have f1 := (hb6.cell (p := ⟨w4.heap.size, 1, none⟩) (by simp; omega)).trans c1
  have f2 := (hb6.cell (p := ⟨w4.heap.size, 2, none⟩) (by simp; omega)).trans c2
  have hb06 : Below w.heap.size w w6 := hb05.trans (hb6.mono hb05.size)
  have hl6 : w4.heap.size < w6.heap.size := by omega
  have hs06 := hb06.size
  clear hb6 hb05 c0 c1 c2 hw5
  go_wp2_with fail
  refine (weekday_yes _ _ b1 b2).mono ?_; rintro e w6' ⟨rfl, rfl⟩
  go_wp2_with fail
  refine (weekday_yes _ _ b3 b4).mono ?_; rintro e w6' ⟨rfl, rfl⟩
  go_wp2
  go_ret
  exact ⟨rfl, hb06.alloc hs06 _⟩

set_option maxRecDepth 100000 in
set_option maxHeartbeats 4000000 in
theorem dayBack_no_none (y m d n : Int) (w : World) (hw : Months w) (hd : Cal.dateB y m d = false) (hn : n < 1 ∨ 109573 < n) :
    Calls Tryd.prog 4 #[.agg #[.int .i64 y, .int .i64 m, .int .i64 d], .int .i64 n] w fun e w' => e = .returned (.bool true) ∧ Below w.heap.size w w' := by
  have k1 : Cal.dateB 2026 11 15 = true := by decide
  have k2 : Cal.num 2026 11 15 = 46340 := by decide
  have hwa := hw.alloc (.cells #[.int .i64 y, .int .i64 m, .int .i64 d] 28)
  go_enter Tryd.func4, Tryd.ntmps4
  go_wp2_with fail
  refine (of_yes 2026 11 15 _ hwa k1).mono ?_; rintro e w1 ⟨rfl, hb1⟩
  rw [k2]
  have hw1 := hwa.below hb1
  go_wp2_with fail
  refine (weekday_yes 46340 _ (by omega) (by omega)).mono ?_; rintro e w1' ⟨rfl, rfl⟩
  have hs1 := hb1.size; simp at hs1
  have c0 := hb1.cell (p := ⟨w.heap.size, 0, none⟩) (by simp)
  have c1 := hb1.cell (p := ⟨w.heap.size, 1, none⟩) (by simp)
  have c2 := hb1.cell (p := ⟨w.heap.size, 2, none⟩) (by simp)
  simp at c0 c1 c2
  have hb01 : Below w.heap.size w w1 := ((Below.refl _ _).alloc (Nat.le_refl _) _).trans (hb1.mono (by simp))
  go_wp2_with fail
  refine (of_no y m d _ hw1 hd).mono ?_; rintro e wz ⟨rfl, hb2⟩
  have hbz : Below w.heap.size w wz := hb01.trans (hb2.mono hb01.size)
  have hwz := hw1.below hb2
  clear c0 c1 c2 hb1 hb2 hb01 hwa hw1 hs1
  go_wp2_with fail
  refine (date_no n _ hn).mono ?_; rintro e w4 ⟨rfl, hb4⟩
  go_wp2
  go_ret
  exact ⟨rfl, (hbz.trans (hb4.mono hbz.size)).alloc (by have := hbz.size; have := hb4.size; omega) _⟩

set_option maxRecDepth 100000 in
set_option maxHeartbeats 4000000 in
theorem dayBack_no_last (y m d y1 m1 d1 : Int) (w : World) (hw : Months w) (hd : Cal.dateB y m d = false) (h1 : Cal.dateB y1 m1 d1 = true) (hl : Cal.num y1 m1 d1 = 109573) :
    Calls Tryd.prog 4 #[.agg #[.int .i64 y, .int .i64 m, .int .i64 d], .int .i64 (Cal.num y1 m1 d1)] w fun e w' => e = .returned (.bool true) ∧ Below w.heap.size w w' := by
  have k1 : Cal.dateB 2026 11 15 = true := by decide
  have k2 : Cal.num 2026 11 15 = 46340 := by decide
  have hwa := hw.alloc (.cells #[.int .i64 y, .int .i64 m, .int .i64 d] 28)
  obtain ⟨hm1, hd1, hd2⟩ := Cal.date_yes h1
  obtain ⟨a1, a2, a3, a4⟩ := Cal.month_yes hm1
  obtain ⟨_, _, b1, b2⟩ := Cal.num_bd h1
  have hdb := Cal.dim_bd y1 m1
  have e1 : (Cal.num y1 m1 d1 == 109573) = true := by rw [hl]; rfl
  have hn1 : 109573 < Cal.num y1 m1 d1 + 1 := by omega
  clear hl
  go_enter Tryd.func4, Tryd.ntmps4
  go_wp2_with fail
  refine (of_yes 2026 11 15 _ hwa k1).mono ?_; rintro e w1 ⟨rfl, hb1⟩
  rw [k2]
  have hw1 := hwa.below hb1
  go_wp2_with fail
  refine (weekday_yes 46340 _ (by omega) (by omega)).mono ?_; rintro e w1' ⟨rfl, rfl⟩
  have hs1 := hb1.size; simp at hs1
  have c0 := hb1.cell (p := ⟨w.heap.size, 0, none⟩) (by simp)
  have c1 := hb1.cell (p := ⟨w.heap.size, 1, none⟩) (by simp)
  have c2 := hb1.cell (p := ⟨w.heap.size, 2, none⟩) (by simp)
  simp at c0 c1 c2
  have hb01 : Below w.heap.size w w1 := ((Below.refl _ _).alloc (Nat.le_refl _) _).trans (hb1.mono (by simp))
  go_wp2_with fail
  refine (of_no y m d _ hw1 hd).mono ?_; rintro e wz ⟨rfl, hb2⟩
  have hbz : Below w.heap.size w wz := hb01.trans (hb2.mono hb01.size)
  have hwz := hw1.below hb2
  clear c0 c1 c2 hb1 hb2 hb01 hwa hw1 hs1
  go_wp2_with fail
  refine (date_num y1 m1 d1 _ hwz h1).mono ?_; rintro e w4 ⟨rfl, hb4⟩
  have hw4 := (hwz.below hb4).alloc (.cells #[.int .i64 y1, .int .i64 m1, .int .i64 d1] 28)
  have hbz4 : Below w.heap.size w w4 := hbz.trans (hb4.mono hbz.size)
  have hs4 := hbz4.size
  clear hwz hbz hb4
  go_wp2_with fail
  refine (of_yes y1 m1 d1 _ hw4 h1).mono ?_; rintro e w5 ⟨rfl, hb5⟩
  have hs5 := hb5.size; simp at hs5
  have c0 := hb5.cell (p := ⟨w4.heap.size, 0, none⟩) (by simp)
  have c1 := hb5.cell (p := ⟨w4.heap.size, 1, none⟩) (by simp)
  have c2 := hb5.cell (p := ⟨w4.heap.size, 2, none⟩) (by simp)
  simp at c0 c1 c2
  have hw5 := hw4.below hb5
  have hb05 : Below w.heap.size w w5 := (hbz4.alloc hs4 _).trans (hb5.mono (by simp; omega))
  have hl5 : w4.heap.size < w5.heap.size := by omega
  clear hb5 hw4 hbz4
  go_wp2_with fail
  refine (days_yes y1 m1 _ hw5 hm1).mono ?_; rintro e w5' ⟨rfl, rfl⟩
  go_wp2_with fail
  refine (date_no (Cal.num y1 m1 d1 + 1) _ (.inr hn1)).mono ?_; rintro e w6 ⟨rfl, hb6⟩
  go_wp2_with (go_at_call 15; refine (last_any _).mono ?_; rintro e w' ⟨rfl, rfl⟩)
  go_ret
  exact ⟨rfl, (hb05.trans (hb6.mono hb05.size)).alloc (by have := hb05.size; have := hb6.size; omega) _⟩

set_option maxRecDepth 100000 in
set_option maxHeartbeats 4000000 in
theorem dayBack_no_in (y m d y1 m1 d1 : Int) (w : World) (hw : Months w) (hd : Cal.dateB y m d = false) (h1 : Cal.dateB y1 m1 d1 = true) (hl : d1 < Cal.dim y1 m1) :
    Calls Tryd.prog 4 #[.agg #[.int .i64 y, .int .i64 m, .int .i64 d], .int .i64 (Cal.num y1 m1 d1)] w fun e w' => e = .returned (.bool true) ∧ Below w.heap.size w w' := by
  have k1 : Cal.dateB 2026 11 15 = true := by decide
  have k2 : Cal.num 2026 11 15 = 46340 := by decide
  have hwa := hw.alloc (.cells #[.int .i64 y, .int .i64 m, .int .i64 d] 28)
  obtain ⟨hm1, hd1, hd2⟩ := Cal.date_yes h1
  obtain ⟨a1, a2, a3, a4⟩ := Cal.month_yes hm1
  obtain ⟨_, _, b1, b2⟩ := Cal.num_bd h1
  have hdb := Cal.dim_bd y1 m1
  obtain ⟨h2, hn2⟩ := Cal.next_in h1 hl
  have N := Lib.hid hn2; clear hn2
  obtain ⟨_, _, b3, b4⟩ := Cal.num_bd h2
  rw [N.out] at b3 b4
  have e3 : ((Cal.num y1 m1 d1 + 1 - 1) % 7 + 1 != (((Cal.num y1 m1 d1 - 1) % 7 + 1)) % 7 + 1) = false := by rw [bne_eq_false_iff_eq]; omega
  have e4 : (Cal.num y1 m1 d1 % 7 + 1 != ((Cal.num y1 m1 d1 - 1) % 7 + 1) % 7 + 1) = false := by rw [bne_eq_false_iff_eq]; omega
  go_enter Tryd.func4, Tryd.ntmps4
  go_wp2_with fail
  refine (of_yes 2026 11 15 _ hwa k1).mono ?_; rintro e w1 ⟨rfl, hb1⟩
  rw [k2]
  have hw1 := hwa.below hb1
  go_wp2_with fail
  refine (weekday_yes 46340 _ (by omega) (by omega)).mono ?_; rintro e w1' ⟨rfl, rfl⟩
  have hs1 := hb1.size; simp at hs1
  have c0 := hb1.cell (p := ⟨w.heap.size, 0, none⟩) (by simp)
  have c1 := hb1.cell (p := ⟨w.heap.size, 1, none⟩) (by simp)
  have c2 := hb1.cell (p := ⟨w.heap.size, 2, none⟩) (by simp)
  simp at c0 c1 c2
  have hb01 : Below w.heap.size w w1 := ((Below.refl _ _).alloc (Nat.le_refl _) _).trans (hb1.mono (by simp))
  go_wp2_with fail
  refine (of_no y m d _ hw1 hd).mono ?_; rintro e wz ⟨rfl, hb2⟩
  have hbz : Below w.heap.size w wz := hb01.trans (hb2.mono hb01.size)
  have hwz := hw1.below hb2
  clear c0 c1 c2 hb1 hb2 hb01 hwa hw1 hs1
  go_wp2_with fail
  refine (date_num y1 m1 d1 _ hwz h1).mono ?_; rintro e w4 ⟨rfl, hb4⟩
  have hw4 := (hwz.below hb4).alloc (.cells #[.int .i64 y1, .int .i64 m1, .int .i64 d1] 28)
  have hbz4 : Below w.heap.size w w4 := hbz.trans (hb4.mono hbz.size)
  have hs4 := hbz4.size
  clear hwz hbz hb4
  go_wp2_with fail
  refine (of_yes y1 m1 d1 _ hw4 h1).mono ?_; rintro e w5 ⟨rfl, hb5⟩
  have hs5 := hb5.size; simp at hs5
  have c0 := hb5.cell (p := ⟨w4.heap.size, 0, none⟩) (by simp)
  have c1 := hb5.cell (p := ⟨w4.heap.size, 1, none⟩) (by simp)
  have c2 := hb5.cell (p := ⟨w4.heap.size, 2, none⟩) (by simp)
  simp at c0 c1 c2
  have hw5 := hw4.below hb5
  have hb05 : Below w.heap.size w w5 := (hbz4.alloc hs4 _).trans (hb5.mono (by simp; omega))
  have hl5 : w4.heap.size < w5.heap.size := by omega
  clear hb5 hw4 hbz4
  go_wp2_with fail
  refine (days_yes y1 m1 _ hw5 hm1).mono ?_; rintro e w5' ⟨rfl, rfl⟩
  go_wp2_with fail
  rw [← N.out]
  refine (date_num y1 m1 (d1 + 1) _ hw5 h2).mono ?_; rintro e w6 ⟨rfl, hb6⟩
  have hs6 := hb6.size
  have f0 := (hb6.cell (p := ⟨w4.heap.size, 0, none⟩) (by simp; omega)).trans c0
  have f1 := (hb6.cell (p := ⟨w4.heap.size, 1, none⟩) (by simp; omega)).trans c1
  have f2 := (hb6.cell (p := ⟨w4.heap.size, 2, none⟩) (by simp; omega)).trans c2
  have hb06 : Below w.heap.size w w6 := hb05.trans (hb6.mono hb05.size)
  have hl6 : w4.heap.size < w6.heap.size := by omega
  have hs06 := hb06.size
  clear hb6 hb05 c0 c1 c2 hw5
  go_wp2_with fail
  refine (weekday_yes _ _ b1 b2).mono ?_; rintro e w6' ⟨rfl, rfl⟩
  go_wp2_with fail
  refine (weekday_yes _ _ b3 b4).mono ?_; rintro e w6' ⟨rfl, rfl⟩
  go_wp2
  go_ret
  exact ⟨rfl, hb06.alloc hs06 _⟩

set_option maxRecDepth 100000 in
set_option maxHeartbeats 4000000 in
theorem dayBack_no_month (y m d y1 m1 d1 : Int) (w : World) (hw : Months w) (hd : Cal.dateB y m d = false) (h1 : Cal.dateB y1 m1 d1 = true) (hl : d1 = Cal.dim y1 m1) (hm : m1 < 12) :
    Calls Tryd.prog 4 #[.agg #[.int .i64 y, .int .i64 m, .int .i64 d], .int .i64 (Cal.num y1 m1 d1)] w fun e w' => e = .returned (.bool true) ∧ Below w.heap.size w w' := by
  have k1 : Cal.dateB 2026 11 15 = true := by decide
  have k2 : Cal.num 2026 11 15 = 46340 := by decide
  have hwa := hw.alloc (.cells #[.int .i64 y, .int .i64 m, .int .i64 d] 28)
  obtain ⟨hm1, hd1, hd2⟩ := Cal.date_yes h1
  obtain ⟨a1, a2, a3, a4⟩ := Cal.month_yes hm1
  obtain ⟨_, _, b1, b2⟩ := Cal.num_bd h1
  have hdb := Cal.dim_bd y1 m1
  obtain ⟨h2, hn2⟩ := Cal.next_month h1 hl hm
  have N := Lib.hid hn2; clear hn2
  have hl' : Cal.dim y1 m1 ≤ d1 := by omega
  clear hl
  obtain ⟨_, _, b3, b4⟩ := Cal.num_bd h2
  rw [N.out] at b3 b4
  have e3 : ((Cal.num y1 m1 d1 + 1 - 1) % 7 + 1 != (((Cal.num y1 m1 d1 - 1) % 7 + 1)) % 7 + 1) = false := by rw [bne_eq_false_iff_eq]; omega
  have e4 : (Cal.num y1 m1 d1 % 7 + 1 != ((Cal.num y1 m1 d1 - 1) % 7 + 1) % 7 + 1) = false := by rw [bne_eq_false_iff_eq]; omega
  go_enter Tryd.func4, Tryd.ntmps4
  go_wp2_with fail
  refine (of_yes 2026 11 15 _ hwa k1).mono ?_; rintro e w1 ⟨rfl, hb1⟩
  rw [k2]
  have hw1 := hwa.below hb1
  go_wp2_with fail
  refine (weekday_yes 46340 _ (by omega) (by omega)).mono ?_; rintro e w1' ⟨rfl, rfl⟩
  have hs1 := hb1.size; simp at hs1
  have c0 := hb1.cell (p := ⟨w.heap.size, 0, none⟩) (by simp)
  have c1 := hb1.cell (p := ⟨w.heap.size, 1, none⟩) (by simp)
  have c2 := hb1.cell (p := ⟨w.heap.size, 2, none⟩) (by simp)
  simp at c0 c1 c2
  have hb01 : Below w.heap.size w w1 := ((Below.refl _ _).alloc (Nat.le_refl _) _).trans (hb1.mono (by simp))
  go_wp2_with fail
  refine (of_no y m d _ hw1 hd).mono ?_; rintro e wz ⟨rfl, hb2⟩
  have hbz : Below w.heap.size w wz := hb01.trans (hb2.mono hb01.size)
  have hwz := hw1.below hb2
  clear c0 c1 c2 hb1 hb2 hb01 hwa hw1 hs1
  go_wp2_with fail
  refine (date_num y1 m1 d1 _ hwz h1).mono ?_; rintro e w4 ⟨rfl, hb4⟩
  have hw4 := (hwz.below hb4).alloc (.cells #[.int .i64 y1, .int .i64 m1, .int .i64 d1] 28)
  have hbz4 : Below w.heap.size w w4 := hbz.trans (hb4.mono hbz.size)
  have hs4 := hbz4.size
  clear hwz hbz hb4
  go_wp2_with fail
  refine (of_yes y1 m1 d1 _ hw4 h1).mono ?_; rintro e w5 ⟨rfl, hb5⟩
  have hs5 := hb5.size; simp at hs5
  have c0 := hb5.cell (p := ⟨w4.heap.size, 0, none⟩) (by simp)
  have c1 := hb5.cell (p := ⟨w4.heap.size, 1, none⟩) (by simp)
  have c2 := hb5.cell (p := ⟨w4.heap.size, 2, none⟩) (by simp)
  simp at c0 c1 c2
  have hw5 := hw4.below hb5
  have hb05 : Below w.heap.size w w5 := (hbz4.alloc hs4 _).trans (hb5.mono (by simp; omega))
  have hl5 : w4.heap.size < w5.heap.size := by omega
  clear hb5 hw4 hbz4
  go_wp2_with fail
  refine (days_yes y1 m1 _ hw5 hm1).mono ?_; rintro e w5' ⟨rfl, rfl⟩
  go_wp2_with fail
  rw [← N.out]
  refine (date_num y1 (m1 + 1) 1 _ hw5 h2).mono ?_; rintro e w6 ⟨rfl, hb6⟩
  have hs6 := hb6.size
  have f0 := (hb6.cell (p := ⟨w4.heap.size, 0, none⟩) (by simp; omega)).trans c0
  have f1 := (hb6.cell (p := ⟨w4.heap.size, 1, none⟩) (by simp; omega)).trans c1
  have f2 := (hb6.cell (p := ⟨w4.heap.size, 2, none⟩) (by simp; omega)).trans c2
  have hb06 : Below w.heap.size w w6 := hb05.trans (hb6.mono hb05.size)
  have hl6 : w4.heap.size < w6.heap.size := by omega
  have hs06 := hb06.size
  clear hb6 hb05 c0 c1 c2 hw5
  go_wp2_with fail
  refine (weekday_yes _ _ b1 b2).mono ?_; rintro e w6' ⟨rfl, rfl⟩
  go_wp2_with fail
  refine (weekday_yes _ _ b3 b4).mono ?_; rintro e w6' ⟨rfl, rfl⟩
  go_wp2
  go_ret
  exact ⟨rfl, hb06.alloc hs06 _⟩

set_option maxRecDepth 100000 in
set_option maxHeartbeats 4000000 in
theorem dayBack_no_year (y m d y1 d1 : Int) (w : World) (hw : Months w) (hd : Cal.dateB y m d = false) (h1 : Cal.dateB y1 12 d1 = true) (hl : d1 = Cal.dim y1 12) (hm : y1 < 2199) :
    Calls Tryd.prog 4 #[.agg #[.int .i64 y, .int .i64 m, .int .i64 d], .int .i64 (Cal.num y1 12 d1)] w fun e w' => e = .returned (.bool true) ∧ Below w.heap.size w w' := by
  have k1 : Cal.dateB 2026 11 15 = true := by decide
  have k2 : Cal.num 2026 11 15 = 46340 := by decide
  have hwa := hw.alloc (.cells #[.int .i64 y, .int .i64 m, .int .i64 d] 28)
  obtain ⟨hm1, hd1, hd2⟩ := Cal.date_yes h1
  obtain ⟨a1, a2, a3, a4⟩ := Cal.month_yes hm1
  obtain ⟨_, _, b1, b2⟩ := Cal.num_bd h1
  have hdb := Cal.dim_bd y1 12
  obtain ⟨h2, hn2⟩ := Cal.next_year h1 hl hm
  have N := Lib.hid hn2; clear hn2
  have hl' : Cal.dim y1 12 ≤ d1 := by omega
  clear hl
  obtain ⟨_, _, b3, b4⟩ := Cal.num_bd h2
  rw [N.out] at b3 b4
  have e3 : ((Cal.num y1 12 d1 + 1 - 1) % 7 + 1 != (((Cal.num y1 12 d1 - 1) % 7 + 1)) % 7 + 1) = false := by rw [bne_eq_false_iff_eq]; omega
  have e4 : (Cal.num y1 12 d1 % 7 + 1 != ((Cal.num y1 12 d1 - 1) % 7 + 1) % 7 + 1) = false := by rw [bne_eq_false_iff_eq]; omega
  go_enter Tryd.func4, Tryd.ntmps4
  go_wp2_with fail
  refine (of_yes 2026 11 15 _ hwa k1).mono ?_; rintro e w1 ⟨rfl, hb1⟩
  rw [k2]
  have hw1 := hwa.below hb1
  go_wp2_with fail
  refine (weekday_yes 46340 _ (by omega) (by omega)).mono ?_; rintro e w1' ⟨rfl, rfl⟩
  have hs1 := hb1.size; simp at hs1
  have c0 := hb1.cell (p := ⟨w.heap.size, 0, none⟩) (by simp)
  have c1 := hb1.cell (p := ⟨w.heap.size, 1, none⟩) (by simp)
  have c2 := hb1.cell (p := ⟨w.heap.size, 2, none⟩) (by simp)
  simp at c0 c1 c2
  have hb01 : Below w.heap.size w w1 := ((Below.refl _ _).alloc (Nat.le_refl _) _).trans (hb1.mono (by simp))
  go_wp2_with fail
  refine (of_no y m d _ hw1 hd).mono ?_; rintro e wz ⟨rfl, hb2⟩
  have hbz : Below w.heap.size w wz := hb01.trans (hb2.mono hb01.size)
  have hwz := hw1.below hb2
  clear c0 c1 c2 hb1 hb2 hb01 hwa hw1 hs1
  go_wp2_with fail
  refine (date_num y1 12 d1 _ hwz h1).mono ?_; rintro e w4 ⟨rfl, hb4⟩
  have hw4 := (hwz.below hb4).alloc (.cells #[.int .i64 y1, .int .i64 12, .int .i64 d1] 28)
  have hbz4 : Below w.heap.size w w4 := hbz.trans (hb4.mono hbz.size)
  have hs4 := hbz4.size
  clear hwz hbz hb4
  go_wp2_with fail
  refine (of_yes y1 12 d1 _ hw4 h1).mono ?_; rintro e w5 ⟨rfl, hb5⟩
  have hs5 := hb5.size; simp at hs5
  have c0 := hb5.cell (p := ⟨w4.heap.size, 0, none⟩) (by simp)
  have c1 := hb5.cell (p := ⟨w4.heap.size, 1, none⟩) (by simp)
  have c2 := hb5.cell (p := ⟨w4.heap.size, 2, none⟩) (by simp)
  simp at c0 c1 c2
  have hw5 := hw4.below hb5
  have hb05 : Below w.heap.size w w5 := (hbz4.alloc hs4 _).trans (hb5.mono (by simp; omega))
  have hl5 : w4.heap.size < w5.heap.size := by omega
  clear hb5 hw4 hbz4
  go_wp2_with fail
  refine (days_yes y1 12 _ hw5 hm1).mono ?_; rintro e w5' ⟨rfl, rfl⟩
  go_wp2_with fail
  rw [← N.out]
  refine (date_num (y1 + 1) 1 1 _ hw5 h2).mono ?_; rintro e w6 ⟨rfl, hb6⟩
  have hs6 := hb6.size
  have f0 := (hb6.cell (p := ⟨w4.heap.size, 0, none⟩) (by simp; omega)).trans c0
  have f1 := (hb6.cell (p := ⟨w4.heap.size, 1, none⟩) (by simp; omega)).trans c1
  have f2 := (hb6.cell (p := ⟨w4.heap.size, 2, none⟩) (by simp; omega)).trans c2
  have hb06 : Below w.heap.size w w6 := hb05.trans (hb6.mono hb05.size)
  have hl6 : w4.heap.size < w6.heap.size := by omega
  have hs06 := hb06.size
  clear hb6 hb05 c0 c1 c2 hw5
  go_wp2_with fail
  refine (weekday_yes _ _ b1 b2).mono ?_; rintro e w6' ⟨rfl, rfl⟩
  go_wp2_with fail
  refine (weekday_yes _ _ b3 b4).mono ?_; rintro e w6' ⟨rfl, rfl⟩
  go_wp2
  go_ret
  exact ⟨rfl, hb06.alloc hs06 _⟩

theorem dayBack_top (y m d n : Int) (w : World) (hw : Months w) (_ : (Lit.int .i64 y).wf = true) (_ : (Lit.int .i64 m).wf = true) (_ : (Lit.int .i64 d).wf = true) (_ : (Lit.int .i64 n).wf = true) :
    Calls Tryd.prog 4 #[.agg #[.int .i64 y, .int .i64 m, .int .i64 d], .int .i64 n] w fun e w' => e = .returned (.bool true) ∧ Below w.heap.size w w' := by
  by_cases hn : 1 ≤ n ∧ n ≤ 109573
  · obtain ⟨y1, m1, d1, h1, rfl⟩ := Cal.ex_date n hn.1 hn.2
    obtain ⟨hm1, hd1, hd2⟩ := Cal.date_yes h1
    obtain ⟨a1, a2, a3, a4⟩ := Cal.month_yes hm1
    rcases Int.lt_or_le d1 (Cal.dim y1 m1) with hl | hl
    · cases hd : Cal.dateB y m d
      · exact dayBack_no_in y m d y1 m1 d1 w hw hd h1 hl
      · exact dayBack_yes_in y m d y1 m1 d1 w hw hd h1 hl
    · have hl' : d1 = Cal.dim y1 m1 := by omega
      rcases Int.lt_or_le m1 12 with hm | hm
      · cases hd : Cal.dateB y m d
        · exact dayBack_no_month y m d y1 m1 d1 w hw hd h1 hl' hm
        · exact dayBack_yes_month y m d y1 m1 d1 w hw hd h1 hl' hm
      · obtain rfl : m1 = 12 := by omega
        rcases Int.lt_or_le y1 2199 with hy | hy
        · cases hd : Cal.dateB y m d
          · exact dayBack_no_year y m d y1 d1 w hw hd h1 hl' hy
          · exact dayBack_yes_year y m d y1 d1 w hw hd h1 hl' hy
        · obtain rfl : y1 = 2199 := by omega
          cases hd : Cal.dateB y m d
          · exact dayBack_no_last y m d 2199 12 d1 w hw hd h1 (Cal.last_date hl')
          · exact dayBack_yes_last y m d 2199 12 d1 w hw hd h1 (Cal.last_date hl')
  · have hn' : n < 1 ∨ 109573 < n := by omega
    cases hd : Cal.dateB y m d
    · exact dayBack_no_none y m d n w hw hd hn'
    · exact dayBack_yes_none y m d n w hw hd hn'

end Go.Proofs.YtonoiaimknkpfaaDoor
