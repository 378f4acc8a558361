/- The contract of clock.Parse. Condition: the table of months lies as it is laid. -/
import Derived.Test.YtiihkdefhhdfnaaGreatDoorClkC
namespace Go.Proofs.YtiihkdefhhdfnaaGreatDoor
open Go.RowKit Go.Shelf
set_option linter.unusedSimpArgs false
set_option linter.unusedVariables false

set_option maxHeartbeats 2000000 in
theorem parse_no (l : List UInt8) (w : World) (hl : l.length ≤ 9223372036854775807) (h : shB l form16 = false) :
    Calls Tryz.prog 12 #[.string (bs l)] w fun e w' => e = .returned (.tuple #[.int .i64 0, errV 2]) ∧ Below w.heap.size w w' := by
  have SH := Lib.hid (fun w => show Calls Tryz.prog 31 #[.string (bs l), .string { data := #[48, 48, 48, 48, 45, 48, 48, 45, 48, 48, 32, 48, 48, 58, 48, 48] }] w (fun e w' => e = .returned (.bool false) ∧ Below w.heap.size w w') from by
    rw [show ({ data := #[48, 48, 48, 48, 45, 48, 48, 45, 48, 48, 32, 48, 48, 58, 48, 48] } : ByteArray) = bs form16 from rfl]
    exact (shaped_any _ _ w hl (by decide)).mono fun e w' g => ⟨by rw [g.1, h], g.2⟩)
  clear h
  go_enter Tryz.func12, Tryz.ntmps12
  go_wp2_with fail
  refine (SH.out _).mono ?_; rintro e w1 ⟨rfl, hb1⟩
  have B1 := Lib.hid hb1; clear hb1
  go_wp2
  go_ret2
  exact ⟨rfl, B1.out⟩

theorem timeR_clk {y m d h i : Nat} (hh : h ≤ 23) (hi : i ≤ 59) : timeR y m d h i = clkT y m d (h * 60 + i : Nat) := by
  unfold timeR clkT
  by_cases c : Cal.dateB y m d = true ∧ 1 ≤ (Cal.num y m d - 1) * 1440 + ((h * 60 + i : Nat) : Int)
  · rw [if_pos ⟨c.1, hh, hi, c.2⟩, if_pos ⟨c.1, by omega, by omega, c.2⟩]
  · rw [if_neg (fun x => c ⟨x.1, x.2.2.2⟩), if_neg (fun x => c ⟨x.1, x.2.2.2⟩)]

set_option maxRecDepth 100000 in
set_option maxHeartbeats 4000000 in
theorem parse_any (y m d h i : Nat) (w : World) (hw : Months w) (hy : y < 10000) (hm : m < 100) (hd : d < 100) (hh : h < 100) (hi : i < 100) :
    Calls Tryz.prog 12 #[.string (bs (timeT y m d h i))] w
      fun e w' => e = .returned (.tuple #[.int .i64 (timeR y m d h i).1, errV (timeR y m d h i).2]) ∧ Below w.heap.size w w' := by
  obtain ⟨v, hv⟩ : ∃ v, v = timeR y m d h i := ⟨_, rfl⟩
  rw [← hv]
  have EV := Lib.hid hv
  clear hv
  obtain ⟨s, hs⟩ : ∃ s, s = bs (timeT y m d h i) := ⟨_, rfl⟩
  have SH := Lib.hid (fun w => show Calls Tryz.prog 31 #[.string s, .string { data := #[48, 48, 48, 48, 45, 48, 48, 45, 48, 48, 32, 48, 48, 58, 48, 48] }] w (fun e w' => e = .returned (.bool true) ∧ Below w.heap.size w w') from by
    rw [hs, show ({ data := #[48, 48, 48, 48, 45, 48, 48, 45, 48, 48, 32, 48, 48, 58, 48, 48] } : ByteArray) = bs form16 from rfl]
    exact (shaped_any _ _ w (by simp [timeT, dateT, d2_len]) (by decide)).mono fun e w' g => ⟨by rw [g.1, sh_time hy hm hd hh hi], g.2⟩)
  have sz : s.size = 16 := by rw [hs, bs_size]; simp [timeT, dateT, d2_len]
  have N1 := Lib.hid (fun w => show Calls Tryz.prog 33 #[.string (s.extract 11 13)] w (fun e w' => e = .returned (.int .i64 h) ∧ Below w.heap.size w w') from by
    rw [hs, bs_extract]; exact number_any _ h w (by exact d2_num hh) (by simp [timeT, dateT, d2]))
  have N2 := Lib.hid (fun w => show Calls Tryz.prog 33 #[.string (s.extract 14 16)] w (fun e w' => e = .returned (.int .i64 i) ∧ Below w.heap.size w w') from by
    rw [hs, bs_extract]; exact number_any _ i w (by exact d2_num hi) (by simp [timeT, dateT, d2]))
  have PD := Lib.hid (fun w hw => show Calls Tryz.prog 32 #[.string (s.extract 0 10)] w (fun e w' => e = .returned (pdtV y m d) ∧ Below w.heap.size w w') from by
    rw [hs, bs_extract]; exact pdt_any y m d w hw hy hm hd)
  have MW := Lib.hid hw
  rw [← hs]
  clear hs hw
  cases hq : Cal.dateB y m d
  · have E := Lib.hid (show v = (0, 1) by rw [EV.out, timeR, if_neg]; rw [hq]; rintro ⟨x, -⟩; cases x)
    have V := Lib.hid (show pdtV y m d = .tuple #[.agg #[.int .i64 0, .int .i64 0, .int .i64 0], .iface 44 (.int .i64 1)] by rw [pdtV, hq]; rfl)
    clear hq
    go_enter Tryz.func12, Tryz.ntmps12
    go_wp2_with fail
    refine (SH.out _).mono ?_; rintro e w1 ⟨rfl, hb1⟩
    have B1 := Lib.hid hb1; clear hb1
    go_wp2_with fail
    refine (PD.out _ (MW.out.below B1.out)).mono ?_; rintro e w2 ⟨rfl, hb2⟩
    rw [V.out]
    have B2 := Lib.hid (B1.out.trans (hb2.mono B1.out.size))
    have hs2 := B2.out.size
    clear hb2
    go_wp2
    go_ret2
    exact ⟨by rw [E.out]; rfl, B2.out.alloc hs2 _⟩
  · have V := Lib.hid (show pdtV y m d = .tuple #[.agg #[.int .i64 y, .int .i64 m, .int .i64 d], .nilIface] by rw [pdtV, hq]; rfl)
    have HQ := Lib.hid hq
    clear hq
    have h0 : (0 : Int) ≤ (h : Int) := Int.natCast_nonneg _
    have i0 : (0 : Int) ≤ (i : Int) := Int.natCast_nonneg _
    have h1 : (h : Int) < 100 := by omega
    have i1 : (i : Int) < 100 := by omega
    go_enter Tryz.func12, Tryz.ntmps12
    go_wp2_with fail
    refine (SH.out _).mono ?_; rintro e w1 ⟨rfl, hb1⟩
    have B1 := Lib.hid hb1; clear hb1
    go_wp2_with fail
    refine (PD.out _ (MW.out.below B1.out)).mono ?_; rintro e w2 ⟨rfl, hb2⟩
    rw [V.out]
    have B2 := Lib.hid (B1.out.trans (hb2.mono B1.out.size))
    have hs2 := B2.out.size
    clear hb2
    go_upto_region 6 with fail
    obtain ⟨w3, hw3⟩ : ∃ w3, w3 = w2.alloc (.cells #[.int .i64 y, .int .i64 m, .int .i64 d] 23) := ⟨_, rfl⟩
    rw [← hw3]
    obtain ⟨q0, q1, q2, -⟩ := dat3_new w2 y m d 23
    rw [← hw3] at q0 q1 q2
    have B3 := Lib.hid (show Below w.heap.size w w3 by rw [hw3]; exact B2.out.alloc hs2 _)
    have cH := fun dd os => Calls.regrown_of (N1.out (Go.Sort.grow (redrawn w3 dd) os))
    have cI := fun dd os => Calls.regrown_of (N2.out (Go.Sort.grow (redrawn w3 dd) os))
    clear hw3
    refine wp_region_quiet_below (by kernel_rfl) (by kernel_rfl) ?_
    repeat (quiet_step (first | (with_reducible exact cH _ _) | (with_reducible exact cI _ _)))
    refine wpQuiet_nil ?_
    intro _ hw'
    obtain ⟨⟨dq, osq⟩, hw''⟩ := hw'
    clear cH cI
    have q0 := cell_regrown q0 dq osq
    have q1 := cell_regrown q1 dq osq
    have q2 := cell_regrown q2 dq osq
    have hb4 := below_regrown w3 dq osq
    simp only [] at hw''
    rw [← hw''] at q0 q1 q2 hb4
    rename World => w4
    clear hw''
    have B4 := Lib.hid (B3.out.trans (hb4.mono B3.out.size))
    have M4 := Lib.hid (MW.out.below B4.out)
    clear hb4
    by_cases c1 : 23 < (h : Int)
    · have E := Lib.hid (show v = (0, 1) by rw [EV.out, timeR, if_neg]; rintro ⟨-, x, -⟩; omega)
      have t1 : decide (23 < (h : Int)) = true := decide_eq_true c1
      have t1b : decide (23 < h) = true := decide_eq_true (by omega)
      clear c1
      go_wp2
      go_ret2
      exact ⟨by rw [E.out]; rfl, B4.out⟩
    have t1 : decide (23 < (h : Int)) = false := decide_eq_false c1
    have t1b : decide (23 < h) = false := decide_eq_false (by omega)
    by_cases c2 : 59 < (i : Int)
    · have E := Lib.hid (show v = (0, 1) by rw [EV.out, timeR, if_neg]; rintro ⟨-, -, x, -⟩; omega)
      have t2 : decide (59 < (i : Int)) = true := decide_eq_true c2
      have t2b : decide (59 < i) = true := decide_eq_true (by omega)
      clear c1 c2
      go_wp2
      go_ret2
      exact ⟨by rw [E.out]; rfl, B4.out⟩
    have t2 : decide (59 < (i : Int)) = false := decide_eq_false c2
    have t2b : decide (59 < i) = false := decide_eq_false (by omega)
    have CT := Lib.hid (show Calls Tryz.prog 5 #[.agg #[.int .i64 y, .int .i64 m, .int .i64 d], .int .i64 ((h : Int) * 60 + (i : Int))] w4 (fun e w' => e = .returned (.tuple #[.int .i64 v.1, errV v.2]) ∧ Below w4.heap.size w4 w') from by
      rw [EV.out, timeR_clk (y := y) (m := m) (d := d) (h := h) (i := i) (by omega) (by omega)]; exact ctime_any y m d _ w4 M4.out)
    clear c1 c2
    go_wp2_with fail
    refine CT.out.mono ?_; rintro e w5 ⟨rfl, hb5⟩
    have B5 := Lib.hid (B4.out.trans (hb5.mono B4.out.size))
    clear hb5
    go_wp2
    go_ret2
    exact ⟨rfl, B5.out⟩

end Go.Proofs.YtiihkdefhhdfnaaGreatDoor
