/- The contract of the reference chimeref1.Begin: where a period begins, and its last day. Conditions: the rule's kind and step are right, it begins at a day. (printed by gen_refp.py) -/
import Derived.Test.YtdpngbjlljgoaaaDoorPerC
import Derived.Test.YtdpngbjlljgoaaaDoorRefW
namespace Go.Proofs.YtdpngbjlljgoaaaDoor
open Go.RowKit
set_option linter.unusedSimpArgs false
set_option linter.unusedVariables false

theorem rdate_at (n y m d : Int) (w : World) (h : Cal.dateB y m d = true) (hn : Cal.num y m d = n) :
    Calls Tryd.prog 18 #[.int .i64 n] w fun e w' => e = .returned (.tuple #[.agg #[.int .i64 y, .int .i64 m, .int .i64 d], .bool true]) ∧ Below w.heap.size w w' := by
  subst hn; exact rdate_num y m d w h

/-- what is said of a period. -/
def BegSays (o : Option (Int × Int)) (w : World) (e : Ending) (w' : World) : Prop :=
  ∃ a b : Int, e = .returned (.tuple #[.int .i64 a, .int .i64 b, .bool o.isSome]) ∧ (∀ p, o = some p → p = (a, b)) ∧ Below w.heap.size w w'

theorem begSays_yes {w w' : World} {o : Option (Int × Int)} {a b : Int} (h : o = some (a, b)) (hb : Below w.heap.size w w') : BegSays o w (.returned (.tuple #[.int .i64 a, .int .i64 b, .bool true])) w' :=
  ⟨a, b, by rw [h]; rfl, (fun p hp => by rw [h] at hp; exact (Option.some.inj hp).symm), hb⟩

theorem begSays_no {w w' : World} {o : Option (Int × Int)} (a b : Int) (h : o = none) (hb : Below w.heap.size w w') : BegSays o w (.returned (.tuple #[.int .i64 a, .int .i64 b, .bool false])) w' :=
  ⟨a, b, by rw [h]; rfl, (fun p hp => by rw [h] at hp; cases hp), hb⟩

set_option maxRecDepth 100000 in
set_option maxHeartbeats 4000000 in
theorem rbeg_k (fr : Int) (ev ct ti k y m d n : Int) (am ad aw ap : Option Addr) (lm km ld kd lw kw lp kp : Nat) (w : World)
    (hk : k < 0 ∨ 109573 < k) :
    Calls Tryd.prog 71 #[.agg #[.int .i64 fr, .int .i64 ev, .int .i64 ct, .int .i64 ti, .slice am lm km, .slice ad ld kd, .slice aw lw kw, .slice ap lp kp], .int .i64 n, .int .i64 k] w (BegSays (perS fr ev y m d k) w) := by
  have hp : perS fr ev y m d k = none := by unfold perS; rw [if_pos hk]
  have P := Lib.hid hp; clear hp
  rcases hk with hk | hk
  · have k1 : decide (k < 0) = true := decide_eq_true hk
    go_enter Tryd.func71, Tryd.ntmps71
    go_wp2
    go_ret3
    exact begSays_no 0 0 P.out ((Below.refl _ _).alloc (Nat.le_refl _) _)
  · have k1 : decide (k < 0) = false := decide_eq_false (by omega)
    have k2 : decide (109573 < k) = true := decide_eq_true hk
    go_enter Tryd.func71, Tryd.ntmps71
    go_wp2
    go_ret3
    exact begSays_no 0 0 P.out ((Below.refl _ _).alloc (Nat.le_refl _) _)

set_option maxRecDepth 100000 in
set_option maxHeartbeats 4000000 in
theorem rbeg_1 (ev ct ti k y m d n : Int) (am ad aw ap : Option Addr) (lm km ld kd lw kw lp kp : Nat) (w : World)
    (hd : Cal.dateB y m d = true) (hn : Cal.num y m d = n) (hk : 0 ≤ k ∧ k ≤ 109573) (he : 0 ≤ k * ev ∧ k * ev ≤ 6000000) (hc : n + k * ev ≤ 109573) :
    Calls Tryd.prog 71 #[.agg #[.int .i64 1, .int .i64 ev, .int .i64 ct, .int .i64 ti, .slice am lm km, .slice ad ld kd, .slice aw lw kw, .slice ap lp kp], .int .i64 n, .int .i64 k] w (BegSays (perS 1 ev y m d k) w) := by
  have P := Lib.hid (show perS 1 ev y m d k = some (n + k * ev, n + k * ev) by unfold perS; rw [if_neg (by omega), if_pos rfl, hn, if_pos hc])
  have t1 : decide (n + k * ev ≤ 109573) = true := decide_eq_true hc
  clear hc
  obtain ⟨_, _, b1, b2⟩ := Cal.num_bd hd
  obtain ⟨hm, d1, d2⟩ := Cal.date_yes hd
  obtain ⟨y1, y2, m1, m2⟩ := Cal.month_yes hm
  rw [hn] at b1 b2
  obtain ⟨hk1, hk2⟩ := hk
  obtain ⟨e1, e2⟩ := he
  obtain ⟨w0, hw0⟩ : ∃ x, x = w.alloc (.cells #[.int .i64 1, .int .i64 ev, .int .i64 ct, .int .i64 ti, .slice am lm km, .slice ad ld kd, .slice aw lw kw, .slice ap lp kp] 25) := ⟨_, rfl⟩
  have hb0 : Below w.heap.size w w0 := by rw [hw0]; exact (Below.refl _ _).alloc (Nat.le_refl _) _
  have r0 : w0.cell? ⟨w.heap.size, 0, none⟩ = some (.int .i64 1) := by rw [hw0]; simp
  have r1 : w0.cell? ⟨w.heap.size, 1, none⟩ = some (.int .i64 ev) := by rw [hw0]; simp
  have B0 := Lib.hid hb0; have D := Lib.hid hd; have N := Lib.hid hn
  go_enter Tryd.func71, Tryd.ntmps71
  go_wp2_with fail
  rw [← hw0]
  clear hw0 hb0 hd hn
  refine (rdate_at n y m d _ D.out N.out).mono ?_; rintro e w1 ⟨rfl, hb1⟩
  have r0 := cell_below hb1 r0; have r1 := cell_below hb1 r1
  have B1 := Lib.hid (B0.out.trans (hb1.mono B0.out.size))
  have hl1 : w.heap.size < w1.heap.size := Nat.lt_of_lt_of_le (World.block_lt_of_cell? w1 _ r0) (Nat.le_refl _)
  clear hb1
  have BA := Lib.hid (B1.out.alloc B1.out.size (.cells #[.int .i64 y, .int .i64 m, .int .i64 d] 42))
  go_wp2
  go_ret3
  exact begSays_yes P.out BA.out

set_option maxRecDepth 100000 in
set_option maxHeartbeats 4000000 in
theorem rbeg_1_none (ev ct ti k y m d n : Int) (am ad aw ap : Option Addr) (lm km ld kd lw kw lp kp : Nat) (w : World)
    (hd : Cal.dateB y m d = true) (hn : Cal.num y m d = n) (hk : 0 ≤ k ∧ k ≤ 109573) (he : 0 ≤ k * ev ∧ k * ev ≤ 6000000) (hc : 109573 < n + k * ev) :
    Calls Tryd.prog 71 #[.agg #[.int .i64 1, .int .i64 ev, .int .i64 ct, .int .i64 ti, .slice am lm km, .slice ad ld kd, .slice aw lw kw, .slice ap lp kp], .int .i64 n, .int .i64 k] w (BegSays (perS 1 ev y m d k) w) := by
  have P := Lib.hid (show perS 1 ev y m d k = none by unfold perS; rw [if_neg (by omega), if_pos rfl, hn, if_neg (by omega)])
  have t1 : decide (n + k * ev ≤ 109573) = false := decide_eq_false (by omega)
  clear hc
  obtain ⟨_, _, b1, b2⟩ := Cal.num_bd hd
  obtain ⟨hm, d1, d2⟩ := Cal.date_yes hd
  obtain ⟨y1, y2, m1, m2⟩ := Cal.month_yes hm
  rw [hn] at b1 b2
  obtain ⟨hk1, hk2⟩ := hk
  obtain ⟨e1, e2⟩ := he
  obtain ⟨w0, hw0⟩ : ∃ x, x = w.alloc (.cells #[.int .i64 1, .int .i64 ev, .int .i64 ct, .int .i64 ti, .slice am lm km, .slice ad ld kd, .slice aw lw kw, .slice ap lp kp] 25) := ⟨_, rfl⟩
  have hb0 : Below w.heap.size w w0 := by rw [hw0]; exact (Below.refl _ _).alloc (Nat.le_refl _) _
  have r0 : w0.cell? ⟨w.heap.size, 0, none⟩ = some (.int .i64 1) := by rw [hw0]; simp
  have r1 : w0.cell? ⟨w.heap.size, 1, none⟩ = some (.int .i64 ev) := by rw [hw0]; simp
  have B0 := Lib.hid hb0; have D := Lib.hid hd; have N := Lib.hid hn
  go_enter Tryd.func71, Tryd.ntmps71
  go_wp2_with fail
  rw [← hw0]
  clear hw0 hb0 hd hn
  refine (rdate_at n y m d _ D.out N.out).mono ?_; rintro e w1 ⟨rfl, hb1⟩
  have r0 := cell_below hb1 r0; have r1 := cell_below hb1 r1
  have B1 := Lib.hid (B0.out.trans (hb1.mono B0.out.size))
  have hl1 : w.heap.size < w1.heap.size := Nat.lt_of_lt_of_le (World.block_lt_of_cell? w1 _ r0) (Nat.le_refl _)
  clear hb1
  have BA := Lib.hid (B1.out.alloc B1.out.size (.cells #[.int .i64 y, .int .i64 m, .int .i64 d] 42))
  go_wp2
  go_ret3
  exact begSays_no _ _ P.out BA.out

set_option maxRecDepth 100000 in
set_option maxHeartbeats 4000000 in
theorem rbeg_2 (ev ct ti k y m d n : Int) (am ad aw ap : Option Addr) (lm km ld kd lw kw lp kp : Nat) (w : World)
    (hd : Cal.dateB y m d = true) (hn : Cal.num y m d = n) (hk : 0 ≤ k ∧ k ≤ 109573) (he : 0 ≤ k * ev ∧ k * ev ≤ 6000000) (hc : Cal.mondayI n + 7 * (k * ev) ≤ 109573) :
    Calls Tryd.prog 71 #[.agg #[.int .i64 2, .int .i64 ev, .int .i64 ct, .int .i64 ti, .slice am lm km, .slice ad ld kd, .slice aw lw kw, .slice ap lp kp], .int .i64 n, .int .i64 k] w (BegSays (perS 2 ev y m d k) w) := by
  have P := Lib.hid (show perS 2 ev y m d k = some (Cal.mondayI n + 7 * k * ev, Cal.mondayI n + 7 * k * ev + 6) by unfold perS; rw [if_neg (by omega), if_neg (by decide), if_pos rfl, hn, Int.mul_assoc, if_pos hc])
  have hmo := Cal.monday_bd n
  have e7 : 0 ≤ 7 * k * ev ∧ 7 * k * ev ≤ 42000000 := by rw [Int.mul_assoc]; omega
  rw [← Int.mul_assoc] at hc
  have t1 : decide (Cal.mondayI n + 7 * k * ev ≤ 109573) = true := decide_eq_true hc
  obtain ⟨e71, e72⟩ := e7
  obtain ⟨mo1, mo2⟩ := hmo
  clear hc
  obtain ⟨_, _, b1, b2⟩ := Cal.num_bd hd
  obtain ⟨hm, d1, d2⟩ := Cal.date_yes hd
  obtain ⟨y1, y2, m1, m2⟩ := Cal.month_yes hm
  rw [hn] at b1 b2
  obtain ⟨hk1, hk2⟩ := hk
  obtain ⟨e1, e2⟩ := he
  obtain ⟨w0, hw0⟩ : ∃ x, x = w.alloc (.cells #[.int .i64 2, .int .i64 ev, .int .i64 ct, .int .i64 ti, .slice am lm km, .slice ad ld kd, .slice aw lw kw, .slice ap lp kp] 25) := ⟨_, rfl⟩
  have hb0 : Below w.heap.size w w0 := by rw [hw0]; exact (Below.refl _ _).alloc (Nat.le_refl _) _
  have r0 : w0.cell? ⟨w.heap.size, 0, none⟩ = some (.int .i64 2) := by rw [hw0]; simp
  have r1 : w0.cell? ⟨w.heap.size, 1, none⟩ = some (.int .i64 ev) := by rw [hw0]; simp
  have B0 := Lib.hid hb0; have D := Lib.hid hd; have N := Lib.hid hn
  go_enter Tryd.func71, Tryd.ntmps71
  go_wp2_with fail
  rw [← hw0]
  clear hw0 hb0 hd hn
  refine (rdate_at n y m d _ D.out N.out).mono ?_; rintro e w1 ⟨rfl, hb1⟩
  have r0 := cell_below hb1 r0; have r1 := cell_below hb1 r1
  have B1 := Lib.hid (B0.out.trans (hb1.mono B0.out.size))
  have hl1 : w.heap.size < w1.heap.size := Nat.lt_of_lt_of_le (World.block_lt_of_cell? w1 _ r0) (Nat.le_refl _)
  clear hb1
  have BA := Lib.hid (B1.out.alloc B1.out.size (.cells #[.int .i64 y, .int .i64 m, .int .i64 d] 42))
  go_wp2_with fail
  go_quiet ((go_at_call 112; exact quiet_l (rmonday_any _ _ (by omega) (by omega))))
  go_wp2
  go_ret3
  exact begSays_yes P.out (below_drewN BA.out _)

set_option maxRecDepth 100000 in
set_option maxHeartbeats 4000000 in
theorem rbeg_2_none (ev ct ti k y m d n : Int) (am ad aw ap : Option Addr) (lm km ld kd lw kw lp kp : Nat) (w : World)
    (hd : Cal.dateB y m d = true) (hn : Cal.num y m d = n) (hk : 0 ≤ k ∧ k ≤ 109573) (he : 0 ≤ k * ev ∧ k * ev ≤ 6000000) (hc : 109573 < Cal.mondayI n + 7 * (k * ev)) :
    Calls Tryd.prog 71 #[.agg #[.int .i64 2, .int .i64 ev, .int .i64 ct, .int .i64 ti, .slice am lm km, .slice ad ld kd, .slice aw lw kw, .slice ap lp kp], .int .i64 n, .int .i64 k] w (BegSays (perS 2 ev y m d k) w) := by
  have P := Lib.hid (show perS 2 ev y m d k = none by unfold perS; rw [if_neg (by omega), if_neg (by decide), if_pos rfl, hn, if_neg (by omega)])
  have hmo := Cal.monday_bd n
  have e7 : 0 ≤ 7 * k * ev ∧ 7 * k * ev ≤ 42000000 := by rw [Int.mul_assoc]; omega
  rw [← Int.mul_assoc] at hc
  have t1 : decide (Cal.mondayI n + 7 * k * ev ≤ 109573) = false := decide_eq_false (by omega)
  obtain ⟨e71, e72⟩ := e7
  obtain ⟨mo1, mo2⟩ := hmo
  clear hc
  obtain ⟨_, _, b1, b2⟩ := Cal.num_bd hd
  obtain ⟨hm, d1, d2⟩ := Cal.date_yes hd
  obtain ⟨y1, y2, m1, m2⟩ := Cal.month_yes hm
  rw [hn] at b1 b2
  obtain ⟨hk1, hk2⟩ := hk
  obtain ⟨e1, e2⟩ := he
  obtain ⟨w0, hw0⟩ : ∃ x, x = w.alloc (.cells #[.int .i64 2, .int .i64 ev, .int .i64 ct, .int .i64 ti, .slice am lm km, .slice ad ld kd, .slice aw lw kw, .slice ap lp kp] 25) := ⟨_, rfl⟩
  have hb0 : Below w.heap.size w w0 := by rw [hw0]; exact (Below.refl _ _).alloc (Nat.le_refl _) _
  have r0 : w0.cell? ⟨w.heap.size, 0, none⟩ = some (.int .i64 2) := by rw [hw0]; simp
  have r1 : w0.cell? ⟨w.heap.size, 1, none⟩ = some (.int .i64 ev) := by rw [hw0]; simp
  have B0 := Lib.hid hb0; have D := Lib.hid hd; have N := Lib.hid hn
  go_enter Tryd.func71, Tryd.ntmps71
  go_wp2_with fail
  rw [← hw0]
  clear hw0 hb0 hd hn
  refine (rdate_at n y m d _ D.out N.out).mono ?_; rintro e w1 ⟨rfl, hb1⟩
  have r0 := cell_below hb1 r0; have r1 := cell_below hb1 r1
  have B1 := Lib.hid (B0.out.trans (hb1.mono B0.out.size))
  have hl1 : w.heap.size < w1.heap.size := Nat.lt_of_lt_of_le (World.block_lt_of_cell? w1 _ r0) (Nat.le_refl _)
  clear hb1
  have BA := Lib.hid (B1.out.alloc B1.out.size (.cells #[.int .i64 y, .int .i64 m, .int .i64 d] 42))
  go_wp2_with fail
  go_quiet ((go_at_call 112; exact quiet_l (rmonday_any _ _ (by omega) (by omega))))
  go_wp2
  go_ret3
  exact begSays_no _ _ P.out (below_drewN BA.out _)

set_option maxRecDepth 100000 in
set_option maxHeartbeats 4000000 in
theorem rbeg_3 (ev ct ti k y m d n : Int) (am ad aw ap : Option Addr) (lm km ld kd lw kw lp kp : Nat) (w : World)
    (hd : Cal.dateB y m d = true) (hn : Cal.num y m d = n) (hk : 0 ≤ k ∧ k ≤ 109573) (he : 0 ≤ k * ev ∧ k * ev ≤ 6000000) (hc : (y - 1900) * 12 + m - 1 + k * ev < 3600) :
    Calls Tryd.prog 71 #[.agg #[.int .i64 3, .int .i64 ev, .int .i64 ct, .int .i64 ti, .slice am lm km, .slice ad ld kd, .slice aw lw kw, .slice ap lp kp], .int .i64 n, .int .i64 k] w (BegSays (perS 3 ev y m d k) w) := by
  obtain ⟨y1', y2', m1', m2'⟩ := Cal.month_yes (Cal.date_yes hd).1
  have eY : (y * 12 + m - 1 + k * ev) / 12 = 1900 + ((y - 1900) * 12 + m - 1 + k * ev) / 12 := by omega
  have eM : (y * 12 + m - 1 + k * ev) % 12 = ((y - 1900) * 12 + m - 1 + k * ev) % 12 := by omega
  have hmd := mon_date ((y - 1900) * 12 + m - 1 + k * ev) (by omega) hc
  rw [← eY, ← eM] at hmd
  have P := Lib.hid (show perS 3 ev y m d k = some (Cal.num ((y * 12 + m - 1 + k * ev) / 12) ((y * 12 + m - 1 + k * ev) % 12 + 1) 1, Cal.num ((y * 12 + m - 1 + k * ev) / 12) ((y * 12 + m - 1 + k * ev) % 12 + 1) 1 + Cal.dim ((y * 12 + m - 1 + k * ev) / 12) ((y * 12 + m - 1 + k * ev) % 12 + 1) - 1) by
    unfold perS; rw [if_neg (by omega), if_neg (by decide), if_neg (by decide), if_pos rfl, if_pos hc, eY, eM]; rfl)
  obtain ⟨F, hF⟩ : ∃ F, F = Cal.num ((y * 12 + m - 1 + k * ev) / 12) ((y * 12 + m - 1 + k * ev) % 12 + 1) 1 := ⟨_, rfl⟩
  obtain ⟨S, hS⟩ : ∃ S, S = Cal.dim ((y * 12 + m - 1 + k * ev) / 12) ((y * 12 + m - 1 + k * ev) % 12 + 1) := ⟨_, rfl⟩
  obtain ⟨_, _, f1, f2⟩ := Cal.num_bd hmd.2
  have s1 := Cal.dim_bd ((y * 12 + m - 1 + k * ev) / 12) ((y * 12 + m - 1 + k * ev) % 12 + 1)
  rw [← hF] at f1 f2
  rw [← hS] at s1
  rw [← hF, ← hS] at P
  obtain ⟨s1, s2⟩ := s1
  have t1 : decide (0 < S) = true := decide_eq_true (by omega)
  have FF := Lib.hid hF; have SS := Lib.hid hS; have MB := Lib.hid hmd.1; have DB := Lib.hid hmd.2
  clear hF hS hmd eY eM hc y1' y2' m1' m2'
  obtain ⟨_, _, b1, b2⟩ := Cal.num_bd hd
  obtain ⟨hm, d1, d2⟩ := Cal.date_yes hd
  obtain ⟨y1, y2, m1, m2⟩ := Cal.month_yes hm
  rw [hn] at b1 b2
  obtain ⟨hk1, hk2⟩ := hk
  obtain ⟨e1, e2⟩ := he
  obtain ⟨w0, hw0⟩ : ∃ x, x = w.alloc (.cells #[.int .i64 3, .int .i64 ev, .int .i64 ct, .int .i64 ti, .slice am lm km, .slice ad ld kd, .slice aw lw kw, .slice ap lp kp] 25) := ⟨_, rfl⟩
  have hb0 : Below w.heap.size w w0 := by rw [hw0]; exact (Below.refl _ _).alloc (Nat.le_refl _) _
  have r0 : w0.cell? ⟨w.heap.size, 0, none⟩ = some (.int .i64 3) := by rw [hw0]; simp
  have r1 : w0.cell? ⟨w.heap.size, 1, none⟩ = some (.int .i64 ev) := by rw [hw0]; simp
  have B0 := Lib.hid hb0; have D := Lib.hid hd; have N := Lib.hid hn
  go_enter Tryd.func71, Tryd.ntmps71
  go_wp2_with fail
  rw [← hw0]
  clear hw0 hb0 hd hn
  refine (rdate_at n y m d _ D.out N.out).mono ?_; rintro e w1 ⟨rfl, hb1⟩
  have r0 := cell_below hb1 r0; have r1 := cell_below hb1 r1
  have B1 := Lib.hid (B0.out.trans (hb1.mono B0.out.size))
  have hl1 : w.heap.size < w1.heap.size := Nat.lt_of_lt_of_le (World.block_lt_of_cell? w1 _ r0) (Nat.le_refl _)
  clear hb1
  have BA := Lib.hid (B1.out.alloc B1.out.size (.cells #[.int .i64 y, .int .i64 m, .int .i64 d] 42))
  go_wp2_with fail
  refine (rdays_yes _ _ _ MB.out).mono ?_; rintro e w' ⟨rfl, rfl⟩
  rw [← SS.out]
  go_wp2_with fail
  refine (rof_yes _ _ 1 _ DB.out).mono ?_; rintro e w2 ⟨rfl, hb2⟩
  rw [← FF.out]
  have B2 := Lib.hid (BA.out.trans (hb2.mono BA.out.size))
  clear hb2 r0 r1
  go_wp2
  go_ret3
  exact begSays_yes P.out B2.out

set_option maxRecDepth 100000 in
set_option maxHeartbeats 4000000 in
theorem rbeg_3_none (ev ct ti k y m d n : Int) (am ad aw ap : Option Addr) (lm km ld kd lw kw lp kp : Nat) (w : World)
    (hd : Cal.dateB y m d = true) (hn : Cal.num y m d = n) (hk : 0 ≤ k ∧ k ≤ 109573) (he : 0 ≤ k * ev ∧ k * ev ≤ 6000000) (hc : 3600 ≤ (y - 1900) * 12 + m - 1 + k * ev) :
    Calls Tryd.prog 71 #[.agg #[.int .i64 3, .int .i64 ev, .int .i64 ct, .int .i64 ti, .slice am lm km, .slice ad ld kd, .slice aw lw kw, .slice ap lp kp], .int .i64 n, .int .i64 k] w (BegSays (perS 3 ev y m d k) w) := by
  obtain ⟨y1', y2', m1', m2'⟩ := Cal.month_yes (Cal.date_yes hd).1
  have hmn : Cal.monthB ((y * 12 + m - 1 + k * ev) / 12) ((y * 12 + m - 1 + k * ev) % 12 + 1) = false := Cal.month_mk_no (by omega)
  have P := Lib.hid (show perS 3 ev y m d k = none by unfold perS; rw [if_neg (by omega), if_neg (by decide), if_neg (by decide), if_pos rfl, if_neg (by omega)])
  have MB := Lib.hid hmn; have DB := Lib.hid (show Cal.dateB ((y * 12 + m - 1 + k * ev) / 12) ((y * 12 + m - 1 + k * ev) % 12 + 1) 1 = false from Cal.date_mk_no' hmn)
  clear hmn hc y1' y2' m1' m2'
  obtain ⟨_, _, b1, b2⟩ := Cal.num_bd hd
  obtain ⟨hm, d1, d2⟩ := Cal.date_yes hd
  obtain ⟨y1, y2, m1, m2⟩ := Cal.month_yes hm
  rw [hn] at b1 b2
  obtain ⟨hk1, hk2⟩ := hk
  obtain ⟨e1, e2⟩ := he
  obtain ⟨w0, hw0⟩ : ∃ x, x = w.alloc (.cells #[.int .i64 3, .int .i64 ev, .int .i64 ct, .int .i64 ti, .slice am lm km, .slice ad ld kd, .slice aw lw kw, .slice ap lp kp] 25) := ⟨_, rfl⟩
  have hb0 : Below w.heap.size w w0 := by rw [hw0]; exact (Below.refl _ _).alloc (Nat.le_refl _) _
  have r0 : w0.cell? ⟨w.heap.size, 0, none⟩ = some (.int .i64 3) := by rw [hw0]; simp
  have r1 : w0.cell? ⟨w.heap.size, 1, none⟩ = some (.int .i64 ev) := by rw [hw0]; simp
  have B0 := Lib.hid hb0; have D := Lib.hid hd; have N := Lib.hid hn
  go_enter Tryd.func71, Tryd.ntmps71
  go_wp2_with fail
  rw [← hw0]
  clear hw0 hb0 hd hn
  refine (rdate_at n y m d _ D.out N.out).mono ?_; rintro e w1 ⟨rfl, hb1⟩
  have r0 := cell_below hb1 r0; have r1 := cell_below hb1 r1
  have B1 := Lib.hid (B0.out.trans (hb1.mono B0.out.size))
  have hl1 : w.heap.size < w1.heap.size := Nat.lt_of_lt_of_le (World.block_lt_of_cell? w1 _ r0) (Nat.le_refl _)
  clear hb1
  have BA := Lib.hid (B1.out.alloc B1.out.size (.cells #[.int .i64 y, .int .i64 m, .int .i64 d] 42))
  go_wp2_with fail
  refine (rdays_no _ _ _ MB.out).mono ?_; rintro e w' ⟨rfl, rfl⟩
  go_wp2_with fail
  refine (rof_no _ _ 1 _ DB.out).mono ?_; rintro e w2 ⟨rfl, hb2⟩
  have B2 := Lib.hid (BA.out.trans (hb2.mono BA.out.size))
  clear hb2 r0 r1
  go_wp2
  go_ret3
  exact begSays_no _ _ P.out B2.out

set_option maxRecDepth 100000 in
set_option maxHeartbeats 4000000 in
theorem rbeg_4 (ev ct ti k y m d n : Int) (am ad aw ap : Option Addr) (lm km ld kd lw kw lp kp : Nat) (w : World)
    (hd : Cal.dateB y m d = true) (hn : Cal.num y m d = n) (hk : 0 ≤ k ∧ k ≤ 109573) (he : 0 ≤ k * ev ∧ k * ev ≤ 6000000) (hc : y + k * ev ≤ 2199) :
    Calls Tryd.prog 71 #[.agg #[.int .i64 4, .int .i64 ev, .int .i64 ct, .int .i64 ti, .slice am lm km, .slice ad ld kd, .slice aw lw kw, .slice ap lp kp], .int .i64 n, .int .i64 k] w (BegSays (perS 4 ev y m d k) w) := by
  obtain ⟨y1', y2', m1', m2'⟩ := Cal.month_yes (Cal.date_yes hd).1
  have h1 : Cal.dateB (y + k * ev) 1 1 = true := Cal.date_mk (Cal.month_mk (by omega) hc (by omega) (by omega)) (by omega) (by simp [Cal.dim])
  have h2 : Cal.dateB (y + k * ev) 12 31 = true := Cal.date_mk (Cal.month_mk (by omega) hc (by omega) (by omega)) (by omega) (by simp [Cal.dim])
  have P := Lib.hid (show perS 4 ev y m d k = some (Cal.num (y + k * ev) 1 1, Cal.num (y + k * ev) 12 31) by unfold perS; rw [if_neg (by omega), if_neg (by decide), if_neg (by decide), if_neg (by decide), if_pos hc])
  obtain ⟨F, hF⟩ : ∃ F, F = Cal.num (y + k * ev) 1 1 := ⟨_, rfl⟩
  obtain ⟨_, _, f1, f2⟩ := Cal.num_bd h1
  rw [← hF] at f1 f2 P
  have t1 : decide (0 < F) = true := decide_eq_true (by omega)
  have FF := Lib.hid hF; have D1 := Lib.hid h1; have D2 := Lib.hid h2
  clear hF h1 h2 hc y1' y2' m1' m2'
  obtain ⟨_, _, b1, b2⟩ := Cal.num_bd hd
  obtain ⟨hm, d1, d2⟩ := Cal.date_yes hd
  obtain ⟨y1, y2, m1, m2⟩ := Cal.month_yes hm
  rw [hn] at b1 b2
  obtain ⟨hk1, hk2⟩ := hk
  obtain ⟨e1, e2⟩ := he
  obtain ⟨w0, hw0⟩ : ∃ x, x = w.alloc (.cells #[.int .i64 4, .int .i64 ev, .int .i64 ct, .int .i64 ti, .slice am lm km, .slice ad ld kd, .slice aw lw kw, .slice ap lp kp] 25) := ⟨_, rfl⟩
  have hb0 : Below w.heap.size w w0 := by rw [hw0]; exact (Below.refl _ _).alloc (Nat.le_refl _) _
  have r0 : w0.cell? ⟨w.heap.size, 0, none⟩ = some (.int .i64 4) := by rw [hw0]; simp
  have r1 : w0.cell? ⟨w.heap.size, 1, none⟩ = some (.int .i64 ev) := by rw [hw0]; simp
  have B0 := Lib.hid hb0; have D := Lib.hid hd; have N := Lib.hid hn
  go_enter Tryd.func71, Tryd.ntmps71
  go_wp2_with fail
  rw [← hw0]
  clear hw0 hb0 hd hn
  refine (rdate_at n y m d _ D.out N.out).mono ?_; rintro e w1 ⟨rfl, hb1⟩
  have r0 := cell_below hb1 r0; have r1 := cell_below hb1 r1
  have B1 := Lib.hid (B0.out.trans (hb1.mono B0.out.size))
  have hl1 : w.heap.size < w1.heap.size := Nat.lt_of_lt_of_le (World.block_lt_of_cell? w1 _ r0) (Nat.le_refl _)
  clear hb1
  have BA := Lib.hid (B1.out.alloc B1.out.size (.cells #[.int .i64 y, .int .i64 m, .int .i64 d] 42))
  go_wp2_with fail
  refine (rof_yes _ 1 1 _ D1.out).mono ?_; rintro e w2 ⟨rfl, hb2⟩
  rw [← FF.out]
  have B2 := Lib.hid (BA.out.trans (hb2.mono BA.out.size))
  clear hb2 r0 r1
  go_wp2_with fail
  refine (rof_yes _ 12 31 _ D2.out).mono ?_; rintro e w3 ⟨rfl, hb3⟩
  have B3 := Lib.hid (B2.out.trans (hb3.mono B2.out.size))
  clear hb3
  go_wp2
  go_ret3
  exact begSays_yes P.out B3.out

set_option maxRecDepth 100000 in
set_option maxHeartbeats 4000000 in
theorem rbeg_4_none (ev ct ti k y m d n : Int) (am ad aw ap : Option Addr) (lm km ld kd lw kw lp kp : Nat) (w : World)
    (hd : Cal.dateB y m d = true) (hn : Cal.num y m d = n) (hk : 0 ≤ k ∧ k ≤ 109573) (he : 0 ≤ k * ev ∧ k * ev ≤ 6000000) (hc : 2199 < y + k * ev) :
    Calls Tryd.prog 71 #[.agg #[.int .i64 4, .int .i64 ev, .int .i64 ct, .int .i64 ti, .slice am lm km, .slice ad ld kd, .slice aw lw kw, .slice ap lp kp], .int .i64 n, .int .i64 k] w (BegSays (perS 4 ev y m d k) w) := by
  obtain ⟨y1', y2', m1', m2'⟩ := Cal.month_yes (Cal.date_yes hd).1
  have h1 : Cal.dateB (y + k * ev) 1 1 = false := Cal.date_mk_no' (Cal.month_mk_no (by omega))
  have h2 : Cal.dateB (y + k * ev) 12 31 = false := Cal.date_mk_no' (Cal.month_mk_no (by omega))
  have P := Lib.hid (show perS 4 ev y m d k = none by unfold perS; rw [if_neg (by omega), if_neg (by decide), if_neg (by decide), if_neg (by decide), if_neg (by omega)])
  have D1 := Lib.hid h1; have D2 := Lib.hid h2
  clear h1 h2 hc y1' y2' m1' m2'
  obtain ⟨_, _, b1, b2⟩ := Cal.num_bd hd
  obtain ⟨hm, d1, d2⟩ := Cal.date_yes hd
  obtain ⟨y1, y2, m1, m2⟩ := Cal.month_yes hm
  rw [hn] at b1 b2
  obtain ⟨hk1, hk2⟩ := hk
  obtain ⟨e1, e2⟩ := he
  obtain ⟨w0, hw0⟩ : ∃ x, x = w.alloc (.cells #[.int .i64 4, .int .i64 ev, .int .i64 ct, .int .i64 ti, .slice am lm km, .slice ad ld kd, .slice aw lw kw, .slice ap lp kp] 25) := ⟨_, rfl⟩
  have hb0 : Below w.heap.size w w0 := by rw [hw0]; exact (Below.refl _ _).alloc (Nat.le_refl _) _
  have r0 : w0.cell? ⟨w.heap.size, 0, none⟩ = some (.int .i64 4) := by rw [hw0]; simp
  have r1 : w0.cell? ⟨w.heap.size, 1, none⟩ = some (.int .i64 ev) := by rw [hw0]; simp
  have B0 := Lib.hid hb0; have D := Lib.hid hd; have N := Lib.hid hn
  go_enter Tryd.func71, Tryd.ntmps71
  go_wp2_with fail
  rw [← hw0]
  clear hw0 hb0 hd hn
  refine (rdate_at n y m d _ D.out N.out).mono ?_; rintro e w1 ⟨rfl, hb1⟩
  have r0 := cell_below hb1 r0; have r1 := cell_below hb1 r1
  have B1 := Lib.hid (B0.out.trans (hb1.mono B0.out.size))
  have hl1 : w.heap.size < w1.heap.size := Nat.lt_of_lt_of_le (World.block_lt_of_cell? w1 _ r0) (Nat.le_refl _)
  clear hb1
  have BA := Lib.hid (B1.out.alloc B1.out.size (.cells #[.int .i64 y, .int .i64 m, .int .i64 d] 42))
  go_wp2_with fail
  refine (rof_no _ 1 1 _ D1.out).mono ?_; rintro e w2 ⟨rfl, hb2⟩
  have B2 := Lib.hid (BA.out.trans (hb2.mono BA.out.size))
  clear hb2 r0 r1
  go_wp2_with fail
  refine (rof_no _ 12 31 _ D2.out).mono ?_; rintro e w3 ⟨rfl, hb3⟩
  have B3 := Lib.hid (B2.out.trans (hb3.mono B2.out.size))
  clear hb3
  go_wp2
  go_ret3
  exact begSays_no _ _ P.out B3.out

theorem rbegin_any (fr : Int) (ev ct ti k y m d n : Int) (am ad aw ap : Option Addr) (lm km ld kd lw kw lp kp : Nat) (w : World) (hd : Cal.dateB y m d = true) (hn : Cal.num y m d = n) (hf : 1 ≤ fr ∧ fr ≤ 4) (he : 1 ≤ ev ∧ ev ≤ 50) :
    Calls Tryd.prog 71 #[.agg #[.int .i64 fr, .int .i64 ev, .int .i64 ct, .int .i64 ti, .slice am lm km, .slice ad ld kd, .slice aw lw kw, .slice ap lp kp], .int .i64 n, .int .i64 k] w (BegSays (perS fr ev y m d k) w) := by
  by_cases hk : k < 0 ∨ 109573 < k
  · exact rbeg_k fr ev ct ti k y m d n am ad aw ap lm km ld kd lw kw lp kp w hk
  have hk2 : 0 ≤ k ∧ k ≤ 109573 := by omega
  have hm := mul_bd k ev hk2 he
  obtain rfl | rfl | rfl | rfl : fr = 1 ∨ fr = 2 ∨ fr = 3 ∨ fr = 4 := by omega
  · by_cases hc : n + k * ev ≤ 109573
    · exact rbeg_1 ev ct ti k y m d n am ad aw ap lm km ld kd lw kw lp kp w hd hn hk2 hm hc
    · exact rbeg_1_none ev ct ti k y m d n am ad aw ap lm km ld kd lw kw lp kp w hd hn hk2 hm (by omega)
  · by_cases hc : Cal.mondayI n + 7 * (k * ev) ≤ 109573
    · exact rbeg_2 ev ct ti k y m d n am ad aw ap lm km ld kd lw kw lp kp w hd hn hk2 hm hc
    · exact rbeg_2_none ev ct ti k y m d n am ad aw ap lm km ld kd lw kw lp kp w hd hn hk2 hm (by omega)
  · by_cases hc : (y - 1900) * 12 + m - 1 + k * ev < 3600
    · exact rbeg_3 ev ct ti k y m d n am ad aw ap lm km ld kd lw kw lp kp w hd hn hk2 hm hc
    · exact rbeg_3_none ev ct ti k y m d n am ad aw ap lm km ld kd lw kw lp kp w hd hn hk2 hm (by omega)
  · by_cases hc : y + k * ev ≤ 2199
    · exact rbeg_4 ev ct ti k y m d n am ad aw ap lm km ld kd lw kw lp kp w hd hn hk2 hm hc
    · exact rbeg_4_none ev ct ti k y m d n am ad aw ap lm km ld kd lw kw lp kp w hd hn hk2 hm (by omega)

end Go.Proofs.YtdpngbjlljgoaaaDoor
