/- Contracts of day.Leap, day.Year, day.Day, day.Days: they read the table of months alone. -/
import Derived.Test.YtiihkdefhhdfnaaGreatDoorDayA
namespace Go.Proofs.YtiihkdefhhdfnaaGreatDoor
open Go.RowKit

/-- The table of months lies where the program lays it. -/
def Months (w : World) : Prop := ∀ m : Int, 1 ≤ m → m ≤ 12 → w.cell? ⟨0, m.toNat - 1, none⟩ = some (.int .i64 (Cal.mon m))

theorem Months.keep {w w' : World} {B : Nat} (h : Months w) (hb : Below B w w') (hB : 0 < B) : Months w' := fun m h1 h2 => (hb.cell (p := ⟨0, m.toNat - 1, none⟩) hB).trans (h m h1 h2)

theorem Months.pos {w : World} (h : Months w) : 0 < w.heap.size := by
  have h1 := h 1 (by omega) (by omega)
  rcases Nat.lt_or_ge 0 w.heap.size with h0 | h0
  · exact h0
  · simp [World.cell?, Array.getElem?_eq_none h0] at h1

theorem Months.below {w w' : World} (h : Months w) (hb : Below w.heap.size w w') : Months w' := h.keep hb h.pos

theorem Months.alloc {w : World} (h : Months w) (o : Obj) : Months (w.alloc o) := h.below ((Below.refl _ _).alloc (Nat.le_refl _) _)

theorem Months.drew {w : World} (h : Months w) : Months w.drew := h

theorem Months.drewN {w : World} (h : Months w) (n : Nat) : Months (w.drewN n) := h

theorem Months.setCell {w : World} (h : Months w) {p : Addr} (hp : 0 < p.block) (u : Value) : Months (w.setCell p u) := h.keep ((Below.refl (0 + 1) w).setCell (by omega) u) (by omega)

theorem leap_any (y : Int) (w : World) :
    Calls Tryz.prog 57 #[.int .i64 y] w fun e w' => e = .returned (.bool (Cal.leapB y)) ∧ w = w' := by
  have f4 : y.tmod 4 = 0 ↔ y % 4 = 0 := by rw [← Int.dvd_iff_tmod_eq_zero, Int.dvd_iff_emod_eq_zero]
  have f1 : y.tmod 100 = 0 ↔ y % 100 = 0 := by rw [← Int.dvd_iff_tmod_eq_zero, Int.dvd_iff_emod_eq_zero]
  have f0 : y.tmod 400 = 0 ↔ y % 400 = 0 := by rw [← Int.dvd_iff_tmod_eq_zero, Int.dvd_iff_emod_eq_zero]
  by_cases hy : 0 ≤ y
  · clear f4 f1 f0
    by_cases h4 : y % 4 = 0
    · have e4 : (y % 4 == 0) = true := by simp [h4]
      by_cases h1 : y % 100 = 0
      · have e1 : (y % 100 != 0) = false := by simp [h1]
        by_cases h0 : y % 400 = 0
        · have e0 : (y % 400 == 0) = true := by simp [h0]
          have L := Lib.hid (Cal.leap_mod h4 (.inr h0)); clear h4 h1 h0
          go_enter Tryz.func57, Tryz.ntmps57
          go_wp2
          go_ret
          exact ⟨ret_bool L.out.symm, rfl⟩
        · have e0 : (y % 400 == 0) = false := by simp [h0]
          have L := Lib.hid (Cal.leap_mod_no (y := y) (by omega)); clear h4 h1 h0
          go_enter Tryz.func57, Tryz.ntmps57
          go_wp2
          go_ret
          exact ⟨ret_bool L.out.symm, rfl⟩
      · have e1 : (y % 100 != 0) = true := by simp [h1]
        have L := Lib.hid (Cal.leap_mod h4 (.inl h1)); clear h4 h1
        go_enter Tryz.func57, Tryz.ntmps57
        go_wp2
        go_ret
        exact ⟨ret_bool L.out.symm, rfl⟩
    · have e4 : (y % 4 == 0) = false := by simp [h4]
      have L := Lib.hid (Cal.leap_mod_no (y := y) (by omega)); clear h4
      go_enter Tryz.func57, Tryz.ntmps57
      go_wp2
      go_ret
      exact ⟨ret_bool L.out.symm, rfl⟩
  · by_cases h4 : y % 4 = 0
    · have e4 : (y.tmod 4 == 0) = true := by simp [f4.2 h4]
      by_cases h1 : y % 100 = 0
      · have e1 : (y.tmod 100 != 0) = false := by simp [f1.2 h1]
        by_cases h0 : y % 400 = 0
        · have e0 : (y.tmod 400 == 0) = true := by simp [f0.2 h0]
          have L := Lib.hid (Cal.leap_mod h4 (.inr h0)); clear h4 h1 h0 f4 f1 f0
          go_enter Tryz.func57, Tryz.ntmps57
          go_wp2
          go_ret
          exact ⟨ret_bool L.out.symm, rfl⟩
        · have e0 : (y.tmod 400 == 0) = false := by simp [f0, h0]
          have L := Lib.hid (Cal.leap_mod_no (y := y) (by omega)); clear h4 h1 h0 f4 f1 f0
          go_enter Tryz.func57, Tryz.ntmps57
          go_wp2
          go_ret
          exact ⟨ret_bool L.out.symm, rfl⟩
      · have e1 : (y.tmod 100 != 0) = true := by simp [f1, h1]
        have L := Lib.hid (Cal.leap_mod h4 (.inl h1)); clear h4 h1 f4 f1 f0
        go_enter Tryz.func57, Tryz.ntmps57
        go_wp2
        go_ret
        exact ⟨ret_bool L.out.symm, rfl⟩
    · have e4 : (y.tmod 4 == 0) = false := by simp [f4, h4]
      have L := Lib.hid (Cal.leap_mod_no (y := y) (by omega)); clear h4 f4 f1 f0
      go_enter Tryz.func57, Tryz.ntmps57
      go_wp2
      go_ret
      exact ⟨ret_bool L.out.symm, rfl⟩

theorem day_any (n : Int) (w : World) :
    Calls Tryz.prog 46 #[.int .i64 n] w fun e w' => e = .returned (.bool (decide (1 ≤ n) && decide (n ≤ 109573))) ∧ w = w' := by
  by_cases h : 1 ≤ n
  · go_enter Tryz.func46, Tryz.ntmps46
    go_wp2_with (go_at_call 34; refine (last_any _).mono ?_; rintro e w' ⟨rfl, rfl⟩)
    go_ret
    exact ⟨ret_bool (by simp [h]), rfl⟩
  · go_enter Tryz.func46, Tryz.ntmps46
    go_wp2_with (go_at_call 34; refine (last_any _).mono ?_; rintro e w' ⟨rfl, rfl⟩)
    go_ret
    exact ⟨ret_bool (by simp; omega), rfl⟩

theorem day_yes (n : Int) (w : World) (h1 : 1 ≤ n) (h2 : n ≤ 109573) :
    Calls Tryz.prog 46 #[.int .i64 n] w fun e w' => e = .returned (.bool true) ∧ w = w' :=
  (day_any n w).mono fun _ _ ⟨he, hw⟩ => ⟨he.trans (ret_bool (by simp [h1, h2])), hw⟩

theorem day_no (n : Int) (w : World) (h : n < 1 ∨ 109573 < n) :
    Calls Tryz.prog 46 #[.int .i64 n] w fun e w' => e = .returned (.bool false) ∧ w = w' :=
  (day_any n w).mono fun _ _ ⟨he, hw⟩ => ⟨he.trans (ret_bool (by simp; omega)), hw⟩

theorem days_yes (y m : Int) (w : World) (hw : Months w) (h : Cal.monthB y m = true) :
    Calls Tryz.prog 43 #[.int .i64 y, .int .i64 m] w fun e w' => e = .returned (.tuple #[.int .i64 (Cal.dim y m), .nilIface]) ∧ w = w' := by
  obtain ⟨h1, h2, h3, h4⟩ := Cal.month_yes h
  have hc := hw m h3 h4
  have hb := Cal.mon_bd m
  clear hw h
  by_cases hm : m = 2
  · subst hm
    have hd := Cal.dim_2 y
    have hc2 : w.cell? ⟨0, 1, none⟩ = some (.int .i64 (Cal.mon 2)) := hc
    clear hc
    by_cases hl : Cal.leapB y = true
    · have L := Lib.hid (hd.trans (by rw [Cal.leap_yes hl])); clear hd
      go_enter Tryz.func43, Tryz.ntmps43
      go_wp2_with (first | (go_at_call 57; refine (leap_any _ _).mono ?_; rintro e w' ⟨rfl, rfl⟩) | go_in)
      go_ret2
      exact ⟨by rw [L.out]; rfl, rfl⟩
    · have hl' : Cal.leapB y = false := by simpa using hl
      have L := Lib.hid (hd.trans (by rw [Cal.leap_no hl'])); clear hd hl
      go_enter Tryz.func43, Tryz.ntmps43
      go_wp2_with (first | (go_at_call 57; refine (leap_any _ _).mono ?_; rintro e w' ⟨rfl, rfl⟩) | go_in)
      go_ret2
      exact ⟨by rw [L.out]; rfl, rfl⟩
  · have e2 : (m == 2) = false := by simp [hm]
    have L := Lib.hid (Cal.dim_mon y m hm); clear hm
    go_enter Tryz.func43, Tryz.ntmps43
    go_wp2
    go_ret2
    exact ⟨by rw [L.out]; rfl, rfl⟩

theorem days_no (y m : Int) (w : World) (h : Cal.monthB y m = false) :
    Calls Tryz.prog 43 #[.int .i64 y, .int .i64 m] w fun e w' => e = .returned (.tuple #[.int .i64 0, .iface 44 (.int .i64 1)]) ∧ w = w' := by
  have hn := Cal.month_no h
  clear h
  by_cases h1 : y < 1900
  · go_enter Tryz.func43, Tryz.ntmps43
    go_wp2
    go_ret2
    exact ⟨rfl, rfl⟩
  by_cases h2 : 2199 < y
  · go_enter Tryz.func43, Tryz.ntmps43
    go_wp2
    go_ret2
    exact ⟨rfl, rfl⟩
  by_cases h3 : m < 1
  · go_enter Tryz.func43, Tryz.ntmps43
    go_wp2
    go_ret2
    exact ⟨rfl, rfl⟩
  · have h4 : 12 < m := by omega
    clear hn
    go_enter Tryz.func43, Tryz.ntmps43
    go_wp2
    go_ret2
    exact ⟨rfl, rfl⟩

end Go.Proofs.YtiihkdefhhdfnaaGreatDoor
