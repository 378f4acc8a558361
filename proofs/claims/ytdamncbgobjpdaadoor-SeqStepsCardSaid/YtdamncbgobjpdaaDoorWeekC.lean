/- Contracts of week.Nth. -/
import Derived.Test.YtdamncbgobjpdaaDoorWeekB
namespace Go.Proofs.YtdamncbgobjpdaaDoor
open Go.RowKit

/-- The day that is the k-th of its weekday in a stretch of so many days (below 0: from its end). -/
def nthI (n1 size k wd : Int) : Int := if k < 0 then n1 + size - 1 - (n1 + size - 1 - 1 - (wd - 1)) % 7 + (k + 1) * 7 else n1 + (wd - 1 - (n1 - 1)) % 7 + (k - 1) * 7

/-- may a weekday and a count be asked for? -/
def nthB (k wd : Int) : Bool := decide (1 ≤ wd) && decide (wd ≤ 7) && (k != 0) && decide (-5 ≤ k) && decide (k ≤ 5)

theorem nth_ok {k wd : Int} (h : nthB k wd = true) : 1 ≤ wd ∧ wd ≤ 7 ∧ k ≠ 0 ∧ -5 ≤ k ∧ k ≤ 5 := by simpa [nthB, and_assoc] using h

theorem nth_ok_no {k wd : Int} (h : nthB k wd = false) : wd < 1 ∨ 7 < wd ∨ k = 0 ∨ k < -5 ∨ 5 < k := by simp [nthB] at h; omega

set_option maxRecDepth 100000 in
set_option maxHeartbeats 4000000 in
theorem nth_yes (y m k wd : Int) (w : World) (hw : Months w) (hm : Cal.monthB y m = true) (hk : nthB k wd = true) (ha : Cal.num y m 1 ≤ nthI (Cal.num y m 1) (Cal.dim y m) k wd) (hb : nthI (Cal.num y m 1) (Cal.dim y m) k wd < Cal.num y m 1 + Cal.dim y m) :
    Calls Tryd.prog 28 #[.int .i64 y, .int .i64 m, .agg #[.int .i64 k, .int .i64 wd]] w fun e w' => e = .returned (.tuple #[.int .i64 (nthI (Cal.num y m 1) (Cal.dim y m) k wd), .nilIface]) ∧ Below w.heap.size w w' := by
  obtain ⟨k1, k2, k3, k4, k5⟩ := nth_ok hk
  have hd := Cal.date_mk hm (by omega) (by have := Cal.dim_bd y m; omega : (1 : Int) ≤ Cal.dim y m)
  obtain ⟨_, _, b1, b2⟩ := Cal.num_bd hd
  have hdb := Cal.dim_bd y m
  have e0 : (k == 0) = false := by simp [k3]
  have hw0 := hw.alloc (.cells #[.int .i64 k, .int .i64 wd] 38)
  clear k3 hk
  by_cases hk0 : k < 0
  · have hN : nthI (Cal.num y m 1) (Cal.dim y m) k wd = Cal.num y m 1 + Cal.dim y m - 1 - (Cal.num y m 1 + Cal.dim y m - 1 - 1 - (wd - 1)) % 7 + (k + 1) * 7 := by unfold nthI; rw [if_pos hk0]
    rw [hN] at ha hb
    have N := Lib.hid hN; clear hN
    go_enter Tryd.func28, Tryd.ntmps28
    go_wp2_with (go_at_call 84; refine (days_yes y m _ hw0 hm).mono ?_; rintro e w' ⟨rfl, rfl⟩)
    refine (of_yes y m 1 _ hw0 hd).mono ?_; rintro e w1 ⟨rfl, hb1⟩
    have hs1 := hb1.size; simp at hs1
    have c0 := hb1.cell (p := ⟨w.heap.size, 0, none⟩) (by simp)
    have c1 := hb1.cell (p := ⟨w.heap.size, 1, none⟩) (by simp)
    simp at c0 c1
    have hbb : Below w.heap.size w w1 := ((Below.refl _ _).alloc (Nat.le_refl _) _).trans (hb1.mono (by simp))
    clear hb1 hw0 hw
    go_wp2
    go_ret2
    exact ⟨by rw [N.out]; rfl, hbb⟩
  · have hN : nthI (Cal.num y m 1) (Cal.dim y m) k wd = Cal.num y m 1 + (wd - 1 - (Cal.num y m 1 - 1)) % 7 + (k - 1) * 7 := by unfold nthI; rw [if_neg hk0]
    rw [hN] at ha hb
    have N := Lib.hid hN; clear hN
    go_enter Tryd.func28, Tryd.ntmps28
    go_wp2_with (go_at_call 84; refine (days_yes y m _ hw0 hm).mono ?_; rintro e w' ⟨rfl, rfl⟩)
    refine (of_yes y m 1 _ hw0 hd).mono ?_; rintro e w1 ⟨rfl, hb1⟩
    have hs1 := hb1.size; simp at hs1
    have c0 := hb1.cell (p := ⟨w.heap.size, 0, none⟩) (by simp)
    have c1 := hb1.cell (p := ⟨w.heap.size, 1, none⟩) (by simp)
    simp at c0 c1
    have hbb : Below w.heap.size w w1 := ((Below.refl _ _).alloc (Nat.le_refl _) _).trans (hb1.mono (by simp))
    clear hb1 hw0 hw
    go_wp2
    go_ret2
    exact ⟨by rw [N.out]; rfl, hbb⟩

set_option maxRecDepth 100000 in
set_option maxHeartbeats 4000000 in
theorem nth_none (y m k wd : Int) (w : World) (hw : Months w) (hm : Cal.monthB y m = true) (hk : nthB k wd = true) (ha : nthI (Cal.num y m 1) (Cal.dim y m) k wd < Cal.num y m 1 ∨ Cal.num y m 1 + Cal.dim y m ≤ nthI (Cal.num y m 1) (Cal.dim y m) k wd) :
    Calls Tryd.prog 28 #[.int .i64 y, .int .i64 m, .agg #[.int .i64 k, .int .i64 wd]] w fun e w' => e = .returned (.tuple #[.int .i64 0, .iface 114 (.int .i64 5)]) ∧ Below w.heap.size w w' := by
  obtain ⟨k1, k2, k3, k4, k5⟩ := nth_ok hk
  have hd := Cal.date_mk hm (by omega) (by have := Cal.dim_bd y m; omega : (1 : Int) ≤ Cal.dim y m)
  obtain ⟨_, _, b1, b2⟩ := Cal.num_bd hd
  have hdb := Cal.dim_bd y m
  have e0 : (k == 0) = false := by simp [k3]
  have hw0 := hw.alloc (.cells #[.int .i64 k, .int .i64 wd] 38)
  clear k3 hk
  by_cases hk0 : k < 0
  · have hN : nthI (Cal.num y m 1) (Cal.dim y m) k wd = Cal.num y m 1 + Cal.dim y m - 1 - (Cal.num y m 1 + Cal.dim y m - 1 - 1 - (wd - 1)) % 7 + (k + 1) * 7 := by unfold nthI; rw [if_pos hk0]
    rw [hN] at ha
    have N := Lib.hid hN; clear hN
    have ha : Cal.num y m 1 + Cal.dim y m - 1 - (Cal.num y m 1 + Cal.dim y m - 1 - 1 - (wd - 1)) % 7 + (k + 1) * 7 < Cal.num y m 1 := by omega
    all_goals
      go_enter Tryd.func28, Tryd.ntmps28
      go_wp2_with (go_at_call 84; refine (days_yes y m _ hw0 hm).mono ?_; rintro e w' ⟨rfl, rfl⟩)
      refine (of_yes y m 1 _ hw0 hd).mono ?_; rintro e w1 ⟨rfl, hb1⟩
      have hs1 := hb1.size; simp at hs1
      have c0 := hb1.cell (p := ⟨w.heap.size, 0, none⟩) (by simp)
      have c1 := hb1.cell (p := ⟨w.heap.size, 1, none⟩) (by simp)
      simp at c0 c1
      have hbb : Below w.heap.size w w1 := ((Below.refl _ _).alloc (Nat.le_refl _) _).trans (hb1.mono (by simp))
      clear hb1 hw0 hw
      go_wp2
      go_ret2
      exact ⟨rfl, hbb⟩
  · have hN : nthI (Cal.num y m 1) (Cal.dim y m) k wd = Cal.num y m 1 + (wd - 1 - (Cal.num y m 1 - 1)) % 7 + (k - 1) * 7 := by unfold nthI; rw [if_neg hk0]
    rw [hN] at ha
    have N := Lib.hid hN; clear hN
    have ha : Cal.num y m 1 + Cal.dim y m ≤ Cal.num y m 1 + (wd - 1 - (Cal.num y m 1 - 1)) % 7 + (k - 1) * 7 := by
      have hk3 : k ≠ 0 := by simpa using e0
      omega
    all_goals
      go_enter Tryd.func28, Tryd.ntmps28
      go_wp2_with (go_at_call 84; refine (days_yes y m _ hw0 hm).mono ?_; rintro e w' ⟨rfl, rfl⟩)
      refine (of_yes y m 1 _ hw0 hd).mono ?_; rintro e w1 ⟨rfl, hb1⟩
      have hs1 := hb1.size; simp at hs1
      have c0 := hb1.cell (p := ⟨w.heap.size, 0, none⟩) (by simp)
      have c1 := hb1.cell (p := ⟨w.heap.size, 1, none⟩) (by simp)
      simp at c0 c1
      have hbb : Below w.heap.size w w1 := ((Below.refl _ _).alloc (Nat.le_refl _) _).trans (hb1.mono (by simp))
      clear hb1 hw0 hw
      go_wp2
      go_ret2
      exact ⟨rfl, hbb⟩

set_option maxRecDepth 100000 in
set_option maxHeartbeats 4000000 in
theorem nth_bad (y m k wd : Int) (w : World) (hw : Months w) (h : Cal.monthB y m = false ∨ nthB k wd = false) :
    Calls Tryd.prog 28 #[.int .i64 y, .int .i64 m, .agg #[.int .i64 k, .int .i64 wd]] w fun e w' => e = .returned (.tuple #[.int .i64 0, .iface 114 (.int .i64 1)]) ∧ Below w.heap.size w w' := by
  have hw0 := hw.alloc (.cells #[.int .i64 k, .int .i64 wd] 38)
  by_cases hm : Cal.monthB y m = true
  · have hk : nthB k wd = false := by rcases h with h | h; (rw [hm] at h; cases h); exact h
    have hn := nth_ok_no hk
    clear h hk hw
    by_cases c1 : wd < 1
    · clear hn
      go_enter Tryd.func28, Tryd.ntmps28
      go_wp2_with (go_at_call 84; refine (days_yes y m _ hw0 hm).mono ?_; rintro e w' ⟨rfl, rfl⟩)
      go_ret2
      exact ⟨rfl, (Below.refl _ _).alloc (Nat.le_refl _) _⟩
    by_cases c2 : 7 < wd
    · clear hn
      go_enter Tryd.func28, Tryd.ntmps28
      go_wp2_with (go_at_call 84; refine (days_yes y m _ hw0 hm).mono ?_; rintro e w' ⟨rfl, rfl⟩)
      go_ret2
      exact ⟨rfl, (Below.refl _ _).alloc (Nat.le_refl _) _⟩
    by_cases c3 : k = 0
    · subst c3
      clear hn
      go_enter Tryd.func28, Tryd.ntmps28
      go_wp2_with (go_at_call 84; refine (days_yes y m _ hw0 hm).mono ?_; rintro e w' ⟨rfl, rfl⟩)
      go_ret2
      exact ⟨rfl, (Below.refl _ _).alloc (Nat.le_refl _) _⟩
    have e0 : (k == 0) = false := by simp [c3]
    by_cases c4 : k < -5
    · clear hn c3
      go_enter Tryd.func28, Tryd.ntmps28
      go_wp2_with (go_at_call 84; refine (days_yes y m _ hw0 hm).mono ?_; rintro e w' ⟨rfl, rfl⟩)
      go_ret2
      exact ⟨rfl, (Below.refl _ _).alloc (Nat.le_refl _) _⟩
    · have c5 : 5 < k := by omega
      clear hn c3
      go_enter Tryd.func28, Tryd.ntmps28
      go_wp2_with (go_at_call 84; refine (days_yes y m _ hw0 hm).mono ?_; rintro e w' ⟨rfl, rfl⟩)
      go_ret2
      exact ⟨rfl, (Below.refl _ _).alloc (Nat.le_refl _) _⟩
  · have hm' : Cal.monthB y m = false := by simpa using hm
    clear h hm
    go_enter Tryd.func28, Tryd.ntmps28
    go_wp2_with (go_at_call 84; refine (days_no y m _ hm').mono ?_; rintro e w' ⟨rfl, rfl⟩)
    go_ret2
    exact ⟨rfl, (Below.refl _ _).alloc (Nat.le_refl _) _⟩

/-- A day is found by its weekday, from either end of its month. -/
theorem nth_of {y m d : Int} (h : Cal.dateB y m d = true) :
    nthI (Cal.num y m 1) (Cal.dim y m) ((d - 1) / 7 + 1) ((Cal.num y m d - 1) % 7 + 1) = Cal.num y m d ∧
    nthI (Cal.num y m 1) (Cal.dim y m) (-((Cal.dim y m - d) / 7 + 1)) ((Cal.num y m d - 1) % 7 + 1) = Cal.num y m d ∧
    nthB ((d - 1) / 7 + 1) ((Cal.num y m d - 1) % 7 + 1) = true ∧ nthB (-((Cal.dim y m - d) / 7 + 1)) ((Cal.num y m d - 1) % 7 + 1) = true := by
  obtain ⟨hm, h1, h2⟩ := Cal.date_yes h
  have hdb := Cal.dim_bd y m
  have e : Cal.num y m 1 = Cal.num y m d - (d - 1) := by unfold Cal.num; omega
  refine ⟨?_, ?_, ?_, ?_⟩
  · rw [nthI, if_neg (by omega), e]; omega
  · rw [nthI, if_pos (by omega), e]; omega
  · simp [nthB]; omega
  · simp [nthB]; omega

end Go.Proofs.YtdamncbgobjpdaaDoor
