/- The law WeekHolds: week by week, for every number. The walk. -/
import Derived.Test.YtonoiaimknkpfaaDoorWeekC
namespace Go.Proofs.YtonoiaimknkpfaaDoor
open Go.RowKit

set_option maxRecDepth 100000 in
set_option maxHeartbeats 4000000 in
theorem weekHolds_no (n : Int) (w : World) (hw : Months w) (hn : n < 1 ∨ 109571 < n) :
    Calls Tryd.prog 6 #[.int .i64 n] w fun e w' => e = .returned (.bool true) ∧ Below w.heap.size w w' := by
  have k1 : Cal.dateB 2026 11 12 = true := by decide
  have k2 : Cal.num 2026 11 12 = Cal.mondayI 46340 + 3 := by decide
  have k3 : (46340 - Cal.wk1 2026) / 7 + 1 = 46 := by decide
  by_cases h : n < 4
  all_goals
    try (have h3 : 109569 < n := by omega)
    go_enter Tryd.func6, Tryd.ntmps6
    go_wp2_with fail
    refine (week_yes 46340 2026 11 12 _ hw (by omega) (by omega) k1 k2).mono ?_; rintro e w1 ⟨rfl, hb1⟩
    rw [k3]
    go_wp2_with fail
    refine (week_no n _ hn).mono ?_; rintro e w2 ⟨rfl, hb2⟩
    clear hn
    go_wp2_with (go_at_call 15; refine (last_any _).mono ?_; rintro e w' ⟨rfl, rfl⟩)
    go_ret
    exact ⟨rfl, hb1.trans (hb2.mono hb1.size)⟩

set_option maxRecDepth 100000 in
set_option maxHeartbeats 8000000 in
theorem weekHolds_yes (y m d y1 m1 d1 : Int) (w : World) (hw : Months w) (h1 : Cal.dateB y1 m1 d1 = true) (hd : Cal.dateB y m d = true) (hn : Cal.num y m d = Cal.mondayI (Cal.num y1 m1 d1) + 3) :
    Calls Tryd.prog 6 #[.int .i64 (Cal.num y1 m1 d1)] w fun e w' => e = .returned (.bool true) ∧ Below w.heap.size w w' := by
  have k1 : Cal.dateB 2026 11 12 = true := by decide
  have k2 : Cal.num 2026 11 12 = Cal.mondayI 46340 + 3 := by decide
  have k3 : (46340 - Cal.wk1 2026) / 7 + 1 = 46 := by decide
  obtain ⟨hm, _, _⟩ := Cal.date_yes hd
  obtain ⟨a1, a2, _, _⟩ := Cal.month_yes hm
  obtain ⟨hm1, q1, q2⟩ := Cal.date_yes h1
  obtain ⟨_, _, b1, b2⟩ := Cal.num_bd h1
  obtain ⟨i1, i2, i3, i4⟩ := Cal.week_in hd hn
  obtain ⟨j1, j2⟩ := Cal.monday_bd (Cal.num y1 m1 d1)
  have j3 := Cal.monday_pos _ b1
  have j4 : (Cal.mondayI (Cal.num y1 m1 d1) - 1) % 7 + 1 = 1 := by have := Cal.monday_mod (Cal.num y1 m1 d1); omega
  obtain ⟨n1, n2, n3, n4⟩ := nth_of h1
  have hdb := Cal.dim_bd y1 m1
  have x1 : Cal.num y1 m1 1 = Cal.num y1 m1 d1 - (d1 - 1) := by unfold Cal.num; omega
  have x2 : Cal.num y1 m1 1 ≤ Cal.num y1 m1 d1 := by omega
  have x3 : Cal.num y1 m1 d1 < Cal.num y1 m1 1 + Cal.dim y1 m1 := by omega
  have y1a : 0 < (d1 - 1) / 7 + 1 := by omega
  have y2a : 0 < (Cal.dim y1 m1 - d1) / 7 + 1 := by omega
  clear x1
  have HN := Lib.hid hn
  have I4 := Lib.hid i4; have J4 := Lib.hid j4; have N1 := Lib.hid n1; have N2 := Lib.hid n2
  clear hn i4 j4 n1 n2
  obtain ⟨T, hT⟩ : ∃ T, T = (Cal.num y1 m1 d1 - Cal.wk1 y) / 7 + 1 := ⟨_, rfl⟩
  have HT := Lib.hid hT
  rw [← hT] at i2 i3
  clear hT
  go_enter Tryd.func6, Tryd.ntmps6
  go_wp2_with fail
  refine (week_yes 46340 2026 11 12 _ hw (by omega) (by omega) k1 k2).mono ?_; rintro e w1 ⟨rfl, hb1⟩
  rw [k3]
  have hw1 := hw.below hb1
  go_wp2_with fail
  refine (week_yes _ y m d _ hw1 b1 b2 hd HN.out).mono ?_; rintro e w2 ⟨rfl, hb2⟩
  rw [← HT.out]
  have hw2 := hw1.below hb2
  have hb02 := hb1.trans (hb2.mono hb1.size)
  clear hb1 hb2 hw1 k1 k2 k3
  go_wp2_with fail
  refine (weeks_yes y _ hw2 a1 a2).mono ?_; rintro e w3 ⟨rfl, hb3⟩
  have hw3 := hw2.below hb3
  have hb03 := hb02.trans (hb3.mono hb02.size)
  clear hb3 hb02 hw2
  go_wp2_with fail
  refine (wfirst_yes y T _ hw3 a1 a2 i3 i2 (by rw [HT.out, I4.out]; omega)).mono ?_; rintro e w4 ⟨rfl, hb4⟩
  rw [show Cal.wk1 y + (T - 1) * 7 = Cal.mondayI (Cal.num y1 m1 d1) from by rw [HT.out]; exact I4.out]
  have hw4 := hw3.below hb4
  have hb04 := hb03.trans (hb4.mono hb03.size)
  clear hb4 hb03 hw3
  go_wp2_with fail
  refine (weekday_yes _ _ j3 (by omega)).mono ?_; rintro e w' ⟨rfl, rfl⟩
  rw [J4.out]
  go_wp2_with fail
  refine (which_yes y1 m1 d1 _ hw4 h1).mono ?_; rintro e w5 ⟨rfl, hb5⟩
  have hw5 := ((hw4.below hb5).alloc (.cells #[.int .i64 ((d1 - 1) / 7 + 1), .int .i64 ((Cal.num y1 m1 d1 - 1) % 7 + 1)] 38)).alloc (.cells #[.int .i64 (-((Cal.dim y1 m1 - d1) / 7 + 1)), .int .i64 ((Cal.num y1 m1 d1 - 1) % 7 + 1)] 38)
  have hb05 := hb04.trans (hb5.mono hb04.size)
  have hs5 := hb05.size
  clear hb5 hb04 hw4
  go_wp2_with fail
  refine (date_num y1 m1 d1 _ hw5 h1).mono ?_; rintro e w6 ⟨rfl, hb6⟩
  have hs6 := hb6.size; simp at hs6
  have ca0 := hb6.cell (p := ⟨w5.heap.size, 0, none⟩) (by simp; omega)
  have ca1 := hb6.cell (p := ⟨w5.heap.size, 1, none⟩) (by simp; omega)
  have cb0 := hb6.cell (p := ⟨w5.heap.size + 1, 0, none⟩) (by simp)
  have cb1 := hb6.cell (p := ⟨w5.heap.size + 1, 1, none⟩) (by simp)
  simp at ca0 ca1 cb0 cb1
  have hw6 := (hw5.below hb6).alloc (.cells #[.int .i64 y1, .int .i64 m1, .int .i64 d1] 28)
  have hb06 : Below w.heap.size w w6 := ((hb05.alloc hs5 _).alloc (by simp; omega) _).trans (hb6.mono (by simp; omega))
  have hl6 : w5.heap.size < w6.heap.size := by omega
  have hl6' : w5.heap.size + 1 < w6.heap.size := by omega
  clear hb6 hb05 hw5
  go_wp2_with fail
  refine (nth_yes y1 m1 _ _ _ hw6 hm1 n3 (by rw [N1.out]; exact x2) (by rw [N1.out]; exact x3)).mono ?_; rintro e w7 ⟨rfl, hb7⟩
  rw [N1.out]
  have hs7 := hb7.size; simp at hs7
  have da0 := (hb7.cell (p := ⟨w5.heap.size, 0, none⟩) (by simp; omega))
  have db0 := (hb7.cell (p := ⟨w5.heap.size + 1, 0, none⟩) (by simp; omega))
  have db1 := (hb7.cell (p := ⟨w5.heap.size + 1, 1, none⟩) (by simp; omega))
  rw [World.cell?_alloc_lt _ _ _ (by simp; omega)] at da0 db0 db1
  rw [ca0] at da0; rw [cb0] at db0; rw [cb1] at db1
  have dd0 := hb7.cell (p := ⟨w6.heap.size, 0, none⟩) (by simp)
  have dd1 := hb7.cell (p := ⟨w6.heap.size, 1, none⟩) (by simp)
  simp at dd0 dd1
  have hw7 := hw6.below hb7
  have hb07 : Below w.heap.size w w7 := (hb06.alloc hb06.size _).trans (hb7.mono (by have := hb06.size; simp; omega))
  clear hb7 hb06 hw6 ca0 ca1 cb0 cb1
  go_wp2_with fail
  refine (nth_yes y1 m1 _ _ _ hw7 hm1 n4 (by rw [N2.out]; exact x2) (by rw [N2.out]; exact x3)).mono ?_; rintro e w8 ⟨rfl, hb8⟩
  rw [N2.out]
  have hs8 := hb8.size
  have ea0 := (hb8.cell (p := ⟨w5.heap.size, 0, none⟩) (by simp; omega)).trans da0
  have eb0 := (hb8.cell (p := ⟨w5.heap.size + 1, 0, none⟩) (by simp; omega)).trans db0
  have hb08 := hb07.trans (hb8.mono hb07.size)
  clear hb8 hb07 hw7 da0 db0 db1 dd0 dd1
  go_wp2
  go_ret
  exact ⟨rfl, hb08⟩

theorem weekHolds_top (n : Int) (w : World) (hw : Months w) (_ : (Lit.int .i64 n).wf = true) :
    Calls Tryd.prog 6 #[.int .i64 n] w fun e w' => e = .returned (.bool true) ∧ Below w.heap.size w w' := by
  by_cases h : 1 ≤ n ∧ n ≤ 109571
  · obtain ⟨y1, m1, d1, h1, rfl⟩ := Cal.ex_date n h.1 (by omega)
    have hb := Cal.monday_pos _ h.1
    have hc : Cal.mondayI (Cal.num y1 m1 d1) + 3 ≤ 109573 := by unfold Cal.mondayI; omega
    obtain ⟨y, m, d, hd, hn⟩ := Cal.ex_date (Cal.mondayI (Cal.num y1 m1 d1) + 3) (by omega) hc
    exact weekHolds_yes y m d y1 m1 d1 w hw h1 hd hn
  · exact weekHolds_no n w hw (by omega)

end Go.Proofs.YtonoiaimknkpfaaDoor
