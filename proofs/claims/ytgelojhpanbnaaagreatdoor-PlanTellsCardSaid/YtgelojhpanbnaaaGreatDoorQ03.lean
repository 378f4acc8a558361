/- Texts joined into one (a claim has at most 60 files): The contract of period.of, kind for kind (printed by gen_pera.py); Contracts of what rule.Check leans on: cmp.Compare, cmp.Or, rule.freq, rule.within, rule.rises, rule.order, slices.ContainsFunc with the rule's own closures. -/
import Derived.Test.YtgelojhpanbnaaaGreatDoorQ02
import Derived.Test.YtgelojhpanbnaaaGreatDoorQ01
import Derived.Deep.LoopGhost
import Derived.Deep.QuietTactic
import Derived.Deep.RegionHeld3
import Derived.BigQuiet
import Derived.IntWalk
namespace Go.Proofs.YtgelojhpanbnaaaGreatDoor
open Go.RowKit
set_option linter.unusedSimpArgs false
set_option linter.unusedVariables false

set_option maxRecDepth 100000 in
set_option maxHeartbeats 4000000 in
theorem of_start (fr ev ct ti k : Int) (am ad aw ap : Option Addr) (lm km ld kd lw kw lp kp : Nat) (n : Int) (w : World) (h : n < 1 ∨ 109573 < n) :
    Calls Tryz.prog 194 #[.agg #[.int .i64 fr, .int .i64 ev, .int .i64 ct, .int .i64 ti, .slice am lm km, .slice ad ld kd, .slice aw lw kw, .slice ap lp kp], .int .i64 n, .int .i64 k] w fun e w' => e = .returned (.tuple #[.agg #[.int .i64 0, .int .i64 0], .bool false]) ∧ Below w.heap.size w w' := by
  go_enter Tryz.func194, Tryz.ntmps194
  go_wp2_with fail
  refine (date_no n _ h).mono ?_; rintro e w1 ⟨rfl, hb1⟩
  have hs1 := hb1.size; simp at hs1
  have c0 := hb1.cell (p := ⟨w.heap.size + 1, 0, none⟩) (by simp)
  have c1 := hb1.cell (p := ⟨w.heap.size + 1, 1, none⟩) (by simp)
  have f0 := hb1.frozen (p := ⟨w.heap.size + 1, 0, none⟩) (by simp)
  have f1 := hb1.frozen (p := ⟨w.heap.size + 1, 1, none⟩) (by simp)
  simp at c0 c1 f0 f1
  have hl1 : w.heap.size + 1 < w1.heap.size := by omega
  have hbb : Below w.heap.size w w1 := (((Below.refl _ _).alloc (Nat.le_refl _) _).alloc (by simp) _).trans (hb1.mono (by simp; omega))
  clear hb1 h
  go_wp2_with (go_at_call 23; refine (last_any _).mono ?_; rintro e w' ⟨rfl, rfl⟩)
  refine bodyPost_ret (v := .tuple #[.agg #[.int .i64 0, .int .i64 0], .bool false]) ?_ rfl ⟨rfl, ?_⟩
  · simp [results, Tryz.results194, go_sem, c0, c1, hl1]
  · exact ((hbb.setCell (by simp) _).setCell (by simp) _).alloc (by simp; omega) _

set_option maxRecDepth 100000 in
set_option maxHeartbeats 4000000 in
theorem of_k (fr ev ct ti k : Int) (am ad aw ap : Option Addr) (lm km ld kd lw kw lp kp : Nat) (y m d : Int) (w : World) (hw : Months w) (hd : Cal.dateB y m d = true) (hk : k < 0 ∨ 109573 < k) :
    Calls Tryz.prog 194 #[.agg #[.int .i64 fr, .int .i64 ev, .int .i64 ct, .int .i64 ti, .slice am lm km, .slice ad ld kd, .slice aw lw kw, .slice ap lp kp], .int .i64 (Cal.num y m d), .int .i64 k] w fun e w' => e = .returned (.tuple #[.agg #[.int .i64 0, .int .i64 0], .bool false]) ∧ Below w.heap.size w w' := by
  have hda := Cal.num_bd hd
  obtain ⟨_, _, b1, b2⟩ := hda
  obtain ⟨hm, d1, d2⟩ := Cal.date_yes hd
  obtain ⟨m1, m2, m3, m4⟩ := Cal.month_yes hm
  have hwa := (hw.alloc (.cells #[.int .i64 fr, .int .i64 ev, .int .i64 ct, .int .i64 ti, .slice am lm km, .slice ad ld kd, .slice aw lw kw, .slice ap lp kp] 25)).alloc (.cells #[.int .i64 0, .int .i64 0] 244)
  go_enter Tryz.func194, Tryz.ntmps194
  go_wp2_with fail
  refine (date_num y m d _ hwa hd).mono ?_; rintro e w1 ⟨rfl, hb1⟩
  have hs1 := hb1.size; simp at hs1
  have r0 := hb1.cell (p := ⟨w.heap.size, 0, none⟩) (by simp; omega)
  have r1 := hb1.cell (p := ⟨w.heap.size, 1, none⟩) (by simp; omega)
  have c0 := hb1.cell (p := ⟨w.heap.size + 1, 0, none⟩) (by simp)
  have c1 := hb1.cell (p := ⟨w.heap.size + 1, 1, none⟩) (by simp)
  have f0 := hb1.frozen (p := ⟨w.heap.size + 1, 0, none⟩) (by simp)
  have f1 := hb1.frozen (p := ⟨w.heap.size + 1, 1, none⟩) (by simp)
  simp at r0 r1 c0 c1 f0 f1
  have hl1 : w.heap.size + 1 < w1.heap.size := by omega
  have hl2 : w.heap.size < w1.heap.size := by omega
  have hbb : Below w.heap.size w w1 := (((Below.refl _ _).alloc (Nat.le_refl _) _).alloc (by simp) _).trans (hb1.mono (by simp; omega))
  have hw1 := (hwa.below hb1).alloc (.cells #[.int .i64 y, .int .i64 m, .int .i64 d] 41)
  clear hb1 hwa hw
  rcases Int.lt_or_le k 0 with hk0 | hk0
  all_goals
    go_wp2_with (go_at_call 23; refine (last_any _).mono ?_; rintro e w' ⟨rfl, rfl⟩)
    refine bodyPost_ret (v := .tuple #[.agg #[.int .i64 0, .int .i64 0], .bool false]) ?_ rfl ⟨rfl, ?_⟩
    · simp [results, Tryz.results194, go_sem, c0, c1, hl1]
    · exact ((hbb.setCell (by simp) _).setCell (by simp) _).alloc (by simp; omega) _

set_option maxRecDepth 100000 in
set_option maxHeartbeats 4000000 in
theorem of_1 (ev ct ti k : Int) (am ad aw ap : Option Addr) (lm km ld kd lw kw lp kp : Nat) (y m d : Int) (w : World) (hw : Months w) (hd : Cal.dateB y m d = true) (hk : 0 ≤ k ∧ k ≤ 109573) (he : 0 ≤ k * ev ∧ k * ev ≤ 6000000) :
    Calls Tryz.prog 194 #[.agg #[.int .i64 1, .int .i64 ev, .int .i64 ct, .int .i64 ti, .slice am lm km, .slice ad ld kd, .slice aw lw kw, .slice ap lp kp], .int .i64 (Cal.num y m d), .int .i64 k] w fun e w' => e = .returned (.tuple #[.agg #[.int .i64 (Cal.num y m d + k * ev), .int .i64 (Cal.num y m d + k * ev)], .bool (decide (Cal.num y m d + k * ev ≤ 109573))]) ∧ Below w.heap.size w w' := by
  have hda := Cal.num_bd hd
  obtain ⟨_, _, b1, b2⟩ := hda
  obtain ⟨hm, d1, d2⟩ := Cal.date_yes hd
  obtain ⟨m1, m2, m3, m4⟩ := Cal.month_yes hm
  have hwa := (hw.alloc (.cells #[.int .i64 1, .int .i64 ev, .int .i64 ct, .int .i64 ti, .slice am lm km, .slice ad ld kd, .slice aw lw kw, .slice ap lp kp] 25)).alloc (.cells #[.int .i64 0, .int .i64 0] 244)
  go_enter Tryz.func194, Tryz.ntmps194
  go_wp2_with fail
  refine (date_num y m d _ hwa hd).mono ?_; rintro e w1 ⟨rfl, hb1⟩
  have hs1 := hb1.size; simp at hs1
  have r0 := hb1.cell (p := ⟨w.heap.size, 0, none⟩) (by simp; omega)
  have r1 := hb1.cell (p := ⟨w.heap.size, 1, none⟩) (by simp; omega)
  have c0 := hb1.cell (p := ⟨w.heap.size + 1, 0, none⟩) (by simp)
  have c1 := hb1.cell (p := ⟨w.heap.size + 1, 1, none⟩) (by simp)
  have f0 := hb1.frozen (p := ⟨w.heap.size + 1, 0, none⟩) (by simp)
  have f1 := hb1.frozen (p := ⟨w.heap.size + 1, 1, none⟩) (by simp)
  simp at r0 r1 c0 c1 f0 f1
  have hl1 : w.heap.size + 1 < w1.heap.size := by omega
  have hl2 : w.heap.size < w1.heap.size := by omega
  have hbb : Below w.heap.size w w1 := (((Below.refl _ _).alloc (Nat.le_refl _) _).alloc (by simp) _).trans (hb1.mono (by simp; omega))
  have hw1 := (hwa.below hb1).alloc (.cells #[.int .i64 y, .int .i64 m, .int .i64 d] 41)
  clear hb1 hwa hw
  go_wp2_with (go_at_call 23; refine (last_any _).mono ?_; rintro e w' ⟨rfl, rfl⟩)
  refine bodyPost_ret (v := .tuple #[.agg #[.int .i64 (Cal.num y m d + k * ev), .int .i64 (Cal.num y m d + k * ev)], .bool (decide (Cal.num y m d + k * ev ≤ 109573))]) ?_ rfl ⟨rfl, ?_⟩
  · simp [results, Tryz.results194, go_sem, c0, c1, hl1]
  · exact ((hbb.setCell (by simp) _).setCell (by simp) _).alloc (by simp; omega) _

set_option maxRecDepth 100000 in
set_option maxHeartbeats 4000000 in
theorem of_2 (ev ct ti k : Int) (am ad aw ap : Option Addr) (lm km ld kd lw kw lp kp : Nat) (y m d : Int) (w : World) (hw : Months w) (hd : Cal.dateB y m d = true) (hk : 0 ≤ k ∧ k ≤ 109573) (he : 0 ≤ k * ev ∧ k * ev ≤ 6000000) :
    Calls Tryz.prog 194 #[.agg #[.int .i64 2, .int .i64 ev, .int .i64 ct, .int .i64 ti, .slice am lm km, .slice ad ld kd, .slice aw lw kw, .slice ap lp kp], .int .i64 (Cal.num y m d), .int .i64 k] w fun e w' => e = .returned (.tuple #[.agg #[.int .i64 (Cal.mondayI (Cal.num y m d) + 7 * (k * ev)), .int .i64 (Cal.mondayI (Cal.num y m d) + 7 * (k * ev) + 6)], .bool (decide (Cal.mondayI (Cal.num y m d) + 7 * (k * ev) ≤ 109573))]) ∧ Below w.heap.size w w' := by
  have hmo := Cal.monday_bd (Cal.num y m d)
  have hda := Cal.num_bd hd
  obtain ⟨_, _, b1, b2⟩ := hda
  obtain ⟨hm, d1, d2⟩ := Cal.date_yes hd
  obtain ⟨m1, m2, m3, m4⟩ := Cal.month_yes hm
  have hwa := (hw.alloc (.cells #[.int .i64 2, .int .i64 ev, .int .i64 ct, .int .i64 ti, .slice am lm km, .slice ad ld kd, .slice aw lw kw, .slice ap lp kp] 25)).alloc (.cells #[.int .i64 0, .int .i64 0] 244)
  go_enter Tryz.func194, Tryz.ntmps194
  go_wp2_with fail
  refine (date_num y m d _ hwa hd).mono ?_; rintro e w1 ⟨rfl, hb1⟩
  have hs1 := hb1.size; simp at hs1
  have r0 := hb1.cell (p := ⟨w.heap.size, 0, none⟩) (by simp; omega)
  have r1 := hb1.cell (p := ⟨w.heap.size, 1, none⟩) (by simp; omega)
  have c0 := hb1.cell (p := ⟨w.heap.size + 1, 0, none⟩) (by simp)
  have c1 := hb1.cell (p := ⟨w.heap.size + 1, 1, none⟩) (by simp)
  have f0 := hb1.frozen (p := ⟨w.heap.size + 1, 0, none⟩) (by simp)
  have f1 := hb1.frozen (p := ⟨w.heap.size + 1, 1, none⟩) (by simp)
  simp at r0 r1 c0 c1 f0 f1
  have hl1 : w.heap.size + 1 < w1.heap.size := by omega
  have hl2 : w.heap.size < w1.heap.size := by omega
  have hbb : Below w.heap.size w w1 := (((Below.refl _ _).alloc (Nat.le_refl _) _).alloc (by simp) _).trans (hb1.mono (by simp; omega))
  have hw1 := (hwa.below hb1).alloc (.cells #[.int .i64 y, .int .i64 m, .int .i64 d] 41)
  clear hb1 hwa hw
  go_wp2_with (first | (go_at_call 23; refine (last_any _).mono ?_; rintro e w' ⟨rfl, rfl⟩) | (go_at_call 235; refine (monday_any _ _ (by omega) (by omega)).mono ?_; rintro e w' ⟨rfl, rfl⟩))
  refine bodyPost_ret (v := .tuple #[.agg #[.int .i64 (Cal.mondayI (Cal.num y m d) + 7 * (k * ev)), .int .i64 (Cal.mondayI (Cal.num y m d) + 7 * (k * ev) + 6)], .bool (decide (Cal.mondayI (Cal.num y m d) + 7 * (k * ev) ≤ 109573))]) ?_ rfl ⟨rfl, ?_⟩
  · simp [results, Tryz.results194, go_sem, c0, c1, hl1]
  · exact ((hbb.setCell (by simp) _).setCell (by simp) _).alloc (by simp; omega) _

set_option maxRecDepth 100000 in
set_option maxHeartbeats 4000000 in
theorem of_3 (ev ct ti k : Int) (am ad aw ap : Option Addr) (lm km ld kd lw kw lp kp : Nat) (y m d : Int) (w : World) (hw : Months w) (hd : Cal.dateB y m d = true) (hk : 0 ≤ k ∧ k ≤ 109573) (he : 0 ≤ k * ev ∧ k * ev ≤ 6000000) (hn : ((y - 1900) * 12 + m - 1 + k * ev) < 3600) :
    Calls Tryz.prog 194 #[.agg #[.int .i64 3, .int .i64 ev, .int .i64 ct, .int .i64 ti, .slice am lm km, .slice ad ld kd, .slice aw lw kw, .slice ap lp kp], .int .i64 (Cal.num y m d), .int .i64 k] w fun e w' => e = .returned (.tuple #[.agg #[.int .i64 (monFrom ((y - 1900) * 12 + m - 1 + k * ev)), .int .i64 (monFrom ((y - 1900) * 12 + m - 1 + k * ev) + monSize ((y - 1900) * 12 + m - 1 + k * ev) - 1)], .bool true]) ∧ Below w.heap.size w w' := by
  have hda := Cal.num_bd hd
  obtain ⟨_, _, b1, b2⟩ := hda
  obtain ⟨hm, d1, d2⟩ := Cal.date_yes hd
  obtain ⟨m1, m2, m3, m4⟩ := Cal.month_yes hm
  have hwa := (hw.alloc (.cells #[.int .i64 3, .int .i64 ev, .int .i64 ct, .int .i64 ti, .slice am lm km, .slice ad ld kd, .slice aw lw kw, .slice ap lp kp] 25)).alloc (.cells #[.int .i64 0, .int .i64 0] 244)
  go_enter Tryz.func194, Tryz.ntmps194
  go_wp2_with fail
  refine (date_num y m d _ hwa hd).mono ?_; rintro e w1 ⟨rfl, hb1⟩
  have hs1 := hb1.size; simp at hs1
  have r0 := hb1.cell (p := ⟨w.heap.size, 0, none⟩) (by simp; omega)
  have r1 := hb1.cell (p := ⟨w.heap.size, 1, none⟩) (by simp; omega)
  have c0 := hb1.cell (p := ⟨w.heap.size + 1, 0, none⟩) (by simp)
  have c1 := hb1.cell (p := ⟨w.heap.size + 1, 1, none⟩) (by simp)
  have f0 := hb1.frozen (p := ⟨w.heap.size + 1, 0, none⟩) (by simp)
  have f1 := hb1.frozen (p := ⟨w.heap.size + 1, 1, none⟩) (by simp)
  simp at r0 r1 c0 c1 f0 f1
  have hl1 : w.heap.size + 1 < w1.heap.size := by omega
  have hl2 : w.heap.size < w1.heap.size := by omega
  have hbb : Below w.heap.size w w1 := (((Below.refl _ _).alloc (Nat.le_refl _) _).alloc (by simp) _).trans (hb1.mono (by simp; omega))
  have hw1 := (hwa.below hb1).alloc (.cells #[.int .i64 y, .int .i64 m, .int .i64 d] 41)
  clear hb1 hwa hw
  go_wp2_with (go_at_call 23; refine (last_any _).mono ?_; rintro e w' ⟨rfl, rfl⟩)
  refine (month_yes _ _ hw1 (by omega) hn).mono ?_; rintro e w2 ⟨rfl, hb2⟩
  have hb12 : Below w1.heap.size w1 w2 := ((Below.refl _ _).alloc (Nat.le_refl _) _).trans (hb2.mono (by simp))
  have c0 := (hb12.cell (p := ⟨w.heap.size + 1, 0, none⟩) hl1).trans c0
  have c1 := (hb12.cell (p := ⟨w.heap.size + 1, 1, none⟩) hl1).trans c1
  have f0 := (hb12.frozen (p := ⟨w.heap.size + 1, 0, none⟩) hl1).trans f0
  have f1 := (hb12.frozen (p := ⟨w.heap.size + 1, 1, none⟩) hl1).trans f1
  have hbb := hbb.trans (hb12.mono hbb.size)
  have hl1 : w.heap.size + 1 < w2.heap.size := Nat.lt_of_lt_of_le hl1 hb12.size
  clear hb2 hb12
  go_wp2_with fail
  refine bodyPost_ret (v := .tuple #[.agg #[.int .i64 (monFrom ((y - 1900) * 12 + m - 1 + k * ev)), .int .i64 (monFrom ((y - 1900) * 12 + m - 1 + k * ev) + monSize ((y - 1900) * 12 + m - 1 + k * ev) - 1)], .bool true]) ?_ rfl ⟨rfl, ?_⟩
  · simp [results, Tryz.results194, go_sem, c0, c1, hl1]
  · exact ((hbb.setCell (by simp) _).setCell (by simp) _)

set_option maxRecDepth 100000 in
set_option maxHeartbeats 4000000 in
theorem of_3_none (ev ct ti k : Int) (am ad aw ap : Option Addr) (lm km ld kd lw kw lp kp : Nat) (y m d : Int) (w : World) (hw : Months w) (hd : Cal.dateB y m d = true) (hk : 0 ≤ k ∧ k ≤ 109573) (he : 0 ≤ k * ev ∧ k * ev ≤ 6000000) (hn : 3600 ≤ ((y - 1900) * 12 + m - 1 + k * ev)) :
    Calls Tryz.prog 194 #[.agg #[.int .i64 3, .int .i64 ev, .int .i64 ct, .int .i64 ti, .slice am lm km, .slice ad ld kd, .slice aw lw kw, .slice ap lp kp], .int .i64 (Cal.num y m d), .int .i64 k] w fun e w' => e = .returned (.tuple #[.agg #[.int .i64 0, .int .i64 0], .bool false]) ∧ Below w.heap.size w w' := by
  have hda := Cal.num_bd hd
  obtain ⟨_, _, b1, b2⟩ := hda
  obtain ⟨hm, d1, d2⟩ := Cal.date_yes hd
  obtain ⟨m1, m2, m3, m4⟩ := Cal.month_yes hm
  have hwa := (hw.alloc (.cells #[.int .i64 3, .int .i64 ev, .int .i64 ct, .int .i64 ti, .slice am lm km, .slice ad ld kd, .slice aw lw kw, .slice ap lp kp] 25)).alloc (.cells #[.int .i64 0, .int .i64 0] 244)
  go_enter Tryz.func194, Tryz.ntmps194
  go_wp2_with fail
  refine (date_num y m d _ hwa hd).mono ?_; rintro e w1 ⟨rfl, hb1⟩
  have hs1 := hb1.size; simp at hs1
  have r0 := hb1.cell (p := ⟨w.heap.size, 0, none⟩) (by simp; omega)
  have r1 := hb1.cell (p := ⟨w.heap.size, 1, none⟩) (by simp; omega)
  have c0 := hb1.cell (p := ⟨w.heap.size + 1, 0, none⟩) (by simp)
  have c1 := hb1.cell (p := ⟨w.heap.size + 1, 1, none⟩) (by simp)
  have f0 := hb1.frozen (p := ⟨w.heap.size + 1, 0, none⟩) (by simp)
  have f1 := hb1.frozen (p := ⟨w.heap.size + 1, 1, none⟩) (by simp)
  simp at r0 r1 c0 c1 f0 f1
  have hl1 : w.heap.size + 1 < w1.heap.size := by omega
  have hl2 : w.heap.size < w1.heap.size := by omega
  have hbb : Below w.heap.size w w1 := (((Below.refl _ _).alloc (Nat.le_refl _) _).alloc (by simp) _).trans (hb1.mono (by simp; omega))
  have hw1 := (hwa.below hb1).alloc (.cells #[.int .i64 y, .int .i64 m, .int .i64 d] 41)
  clear hb1 hwa hw
  go_wp2_with (go_at_call 23; refine (last_any _).mono ?_; rintro e w' ⟨rfl, rfl⟩)
  refine (month_none _ _ hw1 hn (by omega)).mono ?_; rintro e w2 ⟨rfl, hb2⟩
  have hb12 : Below w1.heap.size w1 w2 := ((Below.refl _ _).alloc (Nat.le_refl _) _).trans (hb2.mono (by simp))
  have c0 := (hb12.cell (p := ⟨w.heap.size + 1, 0, none⟩) hl1).trans c0
  have c1 := (hb12.cell (p := ⟨w.heap.size + 1, 1, none⟩) hl1).trans c1
  have f0 := (hb12.frozen (p := ⟨w.heap.size + 1, 0, none⟩) hl1).trans f0
  have f1 := (hb12.frozen (p := ⟨w.heap.size + 1, 1, none⟩) hl1).trans f1
  have hbb := hbb.trans (hb12.mono hbb.size)
  have hl1 : w.heap.size + 1 < w2.heap.size := Nat.lt_of_lt_of_le hl1 hb12.size
  clear hb2 hb12
  go_wp2_with fail
  refine bodyPost_ret (v := .tuple #[.agg #[.int .i64 0, .int .i64 0], .bool false]) ?_ rfl ⟨rfl, ?_⟩
  · simp [results, Tryz.results194, go_sem, c0, c1, hl1]
  · exact ((hbb.setCell (by simp) _).setCell (by simp) _)

set_option maxRecDepth 100000 in
set_option maxHeartbeats 4000000 in
theorem of_4 (ev ct ti k : Int) (am ad aw ap : Option Addr) (lm km ld kd lw kw lp kp : Nat) (y m d : Int) (w : World) (hw : Months w) (hd : Cal.dateB y m d = true) (hk : 0 ≤ k ∧ k ≤ 109573) (he : 0 ≤ k * ev ∧ k * ev ≤ 6000000) (hn : y + k * ev ≤ 2199) :
    Calls Tryz.prog 194 #[.agg #[.int .i64 4, .int .i64 ev, .int .i64 ct, .int .i64 ti, .slice am lm km, .slice ad ld kd, .slice aw lw kw, .slice ap lp kp], .int .i64 (Cal.num y m d), .int .i64 k] w fun e w' => e = .returned (.tuple #[.agg #[.int .i64 (Cal.num (y + k * ev) 1 1), .int .i64 (Cal.num (y + k * ev) 12 31)], .bool true]) ∧ Below w.heap.size w w' := by
  have hda := Cal.num_bd hd
  obtain ⟨_, _, b1, b2⟩ := hda
  obtain ⟨hm, d1, d2⟩ := Cal.date_yes hd
  obtain ⟨m1, m2, m3, m4⟩ := Cal.month_yes hm
  have hwa := (hw.alloc (.cells #[.int .i64 4, .int .i64 ev, .int .i64 ct, .int .i64 ti, .slice am lm km, .slice ad ld kd, .slice aw lw kw, .slice ap lp kp] 25)).alloc (.cells #[.int .i64 0, .int .i64 0] 244)
  go_enter Tryz.func194, Tryz.ntmps194
  go_wp2_with fail
  refine (date_num y m d _ hwa hd).mono ?_; rintro e w1 ⟨rfl, hb1⟩
  have hs1 := hb1.size; simp at hs1
  have r0 := hb1.cell (p := ⟨w.heap.size, 0, none⟩) (by simp; omega)
  have r1 := hb1.cell (p := ⟨w.heap.size, 1, none⟩) (by simp; omega)
  have c0 := hb1.cell (p := ⟨w.heap.size + 1, 0, none⟩) (by simp)
  have c1 := hb1.cell (p := ⟨w.heap.size + 1, 1, none⟩) (by simp)
  have f0 := hb1.frozen (p := ⟨w.heap.size + 1, 0, none⟩) (by simp)
  have f1 := hb1.frozen (p := ⟨w.heap.size + 1, 1, none⟩) (by simp)
  simp at r0 r1 c0 c1 f0 f1
  have hl1 : w.heap.size + 1 < w1.heap.size := by omega
  have hl2 : w.heap.size < w1.heap.size := by omega
  have hbb : Below w.heap.size w w1 := (((Below.refl _ _).alloc (Nat.le_refl _) _).alloc (by simp) _).trans (hb1.mono (by simp; omega))
  have hw1 := (hwa.below hb1).alloc (.cells #[.int .i64 y, .int .i64 m, .int .i64 d] 41)
  clear hb1 hwa hw
  have hy1 : Cal.dateB (y + k * ev) 1 1 = true := Cal.date_mk (Cal.month_mk (by omega) hn (by omega) (by omega)) (by omega) (by simp [Cal.dim])
  have hy2 : Cal.dateB (y + k * ev) 12 31 = true := Cal.date_mk (Cal.month_mk (by omega) hn (by omega) (by omega)) (by omega) (by simp [Cal.dim])
  go_wp2_with (go_at_call 23; refine (last_any _).mono ?_; rintro e w' ⟨rfl, rfl⟩)
  refine (of_yes _ _ _ _ hw1 hy1).mono ?_; rintro e w2 ⟨rfl, hb2⟩
  have hw2 := hw1.below hb2
  have hb12 : Below w1.heap.size w1 w2 := ((Below.refl _ _).alloc (Nat.le_refl _) _).trans (hb2.mono (by simp))
  have c0 := (hb12.cell (p := ⟨w.heap.size + 1, 0, none⟩) hl1).trans c0
  have c1 := (hb12.cell (p := ⟨w.heap.size + 1, 1, none⟩) hl1).trans c1
  have f0 := (hb12.frozen (p := ⟨w.heap.size + 1, 0, none⟩) hl1).trans f0
  have f1 := (hb12.frozen (p := ⟨w.heap.size + 1, 1, none⟩) hl1).trans f1
  have hbb := hbb.trans (hb12.mono hbb.size)
  have hl1 : w.heap.size + 1 < w2.heap.size := Nat.lt_of_lt_of_le hl1 hb12.size
  clear hb2 hb12
  go_wp2_with fail
  refine (of_yes _ _ _ _ hw2 hy2).mono ?_; rintro e w3 ⟨rfl, hb3⟩
  have c0 := (hb3.cell (p := ⟨w.heap.size + 1, 0, none⟩) hl1).trans c0
  have c1 := (hb3.cell (p := ⟨w.heap.size + 1, 1, none⟩) hl1).trans c1
  have f0 := (hb3.frozen (p := ⟨w.heap.size + 1, 0, none⟩) hl1).trans f0
  have f1 := (hb3.frozen (p := ⟨w.heap.size + 1, 1, none⟩) hl1).trans f1
  have hbb := hbb.trans (hb3.mono hbb.size)
  have hl1 : w.heap.size + 1 < w3.heap.size := Nat.lt_of_lt_of_le hl1 hb3.size
  clear hb3
  go_wp2_with fail
  go_region
  go_wp2
  refine bodyPost_ret (v := .tuple #[.agg #[.int .i64 (Cal.num (y + k * ev) 1 1), .int .i64 (Cal.num (y + k * ev) 12 31)], .bool true]) ?_ rfl ⟨rfl, ?_⟩
  · simp [results, Tryz.results194, go_sem, c0, c1, hl1]
  · exact ((hbb.setCell (by simp) _).setCell (by simp) _).drew

set_option maxRecDepth 100000 in
set_option maxHeartbeats 4000000 in
theorem of_4_none (ev ct ti k : Int) (am ad aw ap : Option Addr) (lm km ld kd lw kw lp kp : Nat) (y m d : Int) (w : World) (hw : Months w) (hd : Cal.dateB y m d = true) (hk : 0 ≤ k ∧ k ≤ 109573) (he : 0 ≤ k * ev ∧ k * ev ≤ 6000000) (hn : 2199 < y + k * ev) :
    Calls Tryz.prog 194 #[.agg #[.int .i64 4, .int .i64 ev, .int .i64 ct, .int .i64 ti, .slice am lm km, .slice ad ld kd, .slice aw lw kw, .slice ap lp kp], .int .i64 (Cal.num y m d), .int .i64 k] w fun e w' => e = .returned (.tuple #[.agg #[.int .i64 0, .int .i64 0], .bool false]) ∧ Below w.heap.size w w' := by
  have hda := Cal.num_bd hd
  obtain ⟨_, _, b1, b2⟩ := hda
  obtain ⟨hm, d1, d2⟩ := Cal.date_yes hd
  obtain ⟨m1, m2, m3, m4⟩ := Cal.month_yes hm
  have hwa := (hw.alloc (.cells #[.int .i64 4, .int .i64 ev, .int .i64 ct, .int .i64 ti, .slice am lm km, .slice ad ld kd, .slice aw lw kw, .slice ap lp kp] 25)).alloc (.cells #[.int .i64 0, .int .i64 0] 244)
  go_enter Tryz.func194, Tryz.ntmps194
  go_wp2_with fail
  refine (date_num y m d _ hwa hd).mono ?_; rintro e w1 ⟨rfl, hb1⟩
  have hs1 := hb1.size; simp at hs1
  have r0 := hb1.cell (p := ⟨w.heap.size, 0, none⟩) (by simp; omega)
  have r1 := hb1.cell (p := ⟨w.heap.size, 1, none⟩) (by simp; omega)
  have c0 := hb1.cell (p := ⟨w.heap.size + 1, 0, none⟩) (by simp)
  have c1 := hb1.cell (p := ⟨w.heap.size + 1, 1, none⟩) (by simp)
  have f0 := hb1.frozen (p := ⟨w.heap.size + 1, 0, none⟩) (by simp)
  have f1 := hb1.frozen (p := ⟨w.heap.size + 1, 1, none⟩) (by simp)
  simp at r0 r1 c0 c1 f0 f1
  have hl1 : w.heap.size + 1 < w1.heap.size := by omega
  have hl2 : w.heap.size < w1.heap.size := by omega
  have hbb : Below w.heap.size w w1 := (((Below.refl _ _).alloc (Nat.le_refl _) _).alloc (by simp) _).trans (hb1.mono (by simp; omega))
  have hw1 := (hwa.below hb1).alloc (.cells #[.int .i64 y, .int .i64 m, .int .i64 d] 41)
  clear hb1 hwa hw
  have hy1 : Cal.dateB (y + k * ev) 1 1 = false := Cal.date_mk_no' (Cal.month_mk_no (by omega))
  go_wp2_with (go_at_call 23; refine (last_any _).mono ?_; rintro e w' ⟨rfl, rfl⟩)
  refine (of_no _ _ _ _ hw1 hy1).mono ?_; rintro e w2 ⟨rfl, hb2⟩
  have hb12 : Below w1.heap.size w1 w2 := ((Below.refl _ _).alloc (Nat.le_refl _) _).trans (hb2.mono (by simp))
  have c0 := (hb12.cell (p := ⟨w.heap.size + 1, 0, none⟩) hl1).trans c0
  have c1 := (hb12.cell (p := ⟨w.heap.size + 1, 1, none⟩) hl1).trans c1
  have f0 := (hb12.frozen (p := ⟨w.heap.size + 1, 0, none⟩) hl1).trans f0
  have f1 := (hb12.frozen (p := ⟨w.heap.size + 1, 1, none⟩) hl1).trans f1
  have hbb := hbb.trans (hb12.mono hbb.size)
  have hl1 : w.heap.size + 1 < w2.heap.size := Nat.lt_of_lt_of_le hl1 hb12.size
  clear hb2 hb12
  go_wp2_with fail
  refine bodyPost_ret (v := .tuple #[.agg #[.int .i64 0, .int .i64 0], .bool false]) ?_ rfl ⟨rfl, ?_⟩
  · simp [results, Tryz.results194, go_sem, c0, c1, hl1]
  · exact ((hbb.setCell (by simp) _).setCell (by simp) _)

end Go.Proofs.YtgelojhpanbnaaaGreatDoor

namespace Go.Proofs.YtgelojhpanbnaaaGreatDoor
open Go.RowKit

def cmpI (a b : Int) : Int := if a < b then -1 else if b < a then 1 else 0

theorem cmp_any (a b : Int) (w : World) :
    Calls Tryz.prog 101 #[.int .i64 a, .int .i64 b] w fun e w' => e = .returned (.int .i64 (cmpI a b)) ∧ w = w' := by
  by_cases h : a < b
  · have E := Lib.hid (show cmpI a b = -1 by rw [cmpI, if_pos h])
    go_enter Tryz.func101, Tryz.ntmps101
    go_wp2
    go_ret
    exact ⟨by rw [E.out]; rfl, rfl⟩
  · by_cases h2 : b < a
    · have E := Lib.hid (show cmpI a b = 1 by rw [cmpI, if_neg h, if_pos h2])
      go_enter Tryz.func101, Tryz.ntmps101
      go_wp2
      go_ret
      exact ⟨by rw [E.out]; rfl, rfl⟩
    · have E := Lib.hid (show cmpI a b = 0 by rw [cmpI, if_neg h, if_neg h2])
      go_enter Tryz.func101, Tryz.ntmps101
      go_wp2
      go_ret
      exact ⟨by rw [E.out]; rfl, rfl⟩

def freqB (n : Int) : Bool := decide (1 ≤ n) && decide (n ≤ 4)

theorem freq_any (n : Int) (w : World) :
    Calls Tryz.prog 134 #[.int .i64 n] w fun e w' => e = .returned (.bool (freqB n)) ∧ w = w' := by
  by_cases h1 : 1 ≤ n
  · by_cases h2 : n ≤ 4
    · go_enter Tryz.func134, Tryz.ntmps134
      go_wp2
      go_ret
      exact ⟨ret_bool (by simp [freqB, h1, h2]), rfl⟩
    · go_enter Tryz.func134, Tryz.ntmps134
      go_wp2
      go_ret
      exact ⟨ret_bool (by simp [freqB]; omega), rfl⟩
  · go_enter Tryz.func134, Tryz.ntmps134
    go_wp2
    go_ret
    exact ⟨ret_bool (by simp [freqB]; omega), rfl⟩

theorem any_yes {α : Type} {p : α → Bool} {L : List α} {k : Nat} (h : k < L.length) (hp : p L[k] = true) : L.any p = true := List.any_eq_true.2 ⟨_, List.getElem_mem h, hp⟩

theorem any_no {α : Type} {p : α → Bool} {L : List α} {k : Nat} (h : k < L.length) (hk : (L.take k).any p = false) (hp : p L[k] = false) : (L.take (k + 1)).any p = false := by
  rw [List.take_succ_eq_append_getElem h, List.any_append, hk]; simp [hp]

def IdxSays (b : Bool) (w : World) (e : Ending) (w' : World) : Prop := ∃ r : Int, e = .returned (.int .i64 r) ∧ decide (0 ≤ r) = b ∧ Below w.heap.size w w'

def outB (lo hi n : Int) : Bool := n == 0 || decide (n < lo) || decide (hi < n)

theorem within1_any (n lo hi : Int) (b1 b2 : Nat) (w : World) (c1 : w.cell? ⟨b1, 0, none⟩ = some (.int .i64 lo)) (c2 : w.cell? ⟨b2, 0, none⟩ = some (.int .i64 hi)) :
    Calls Tryz.prog 193 #[.int .i64 n, .pointer (some ⟨b1, 0, none⟩), .pointer (some ⟨b2, 0, none⟩)] w fun e w' => e = .returned (.bool (outB lo hi n)) ∧ w = w' := by
  by_cases h0 : n = 0
  · have E := Lib.hid (show outB lo hi n = true by simp [outB, h0])
    have h2 : (n == 0) = true := by simpa using h0
    clear h0
    go_enter Tryz.func193, Tryz.ntmps193
    go_wp2
    go_ret
    exact ⟨by rw [E.out]; rfl, rfl⟩
  · have h2 : (n == 0) = false := by simpa using h0
    by_cases h3 : n < lo
    · have E := Lib.hid (show outB lo hi n = true by simp [outB, h3])
      clear h0
      go_enter Tryz.func193, Tryz.ntmps193
      go_wp2
      go_ret
      exact ⟨by rw [E.out]; rfl, rfl⟩
    · by_cases h4 : hi < n
      · have E := Lib.hid (show outB lo hi n = true by simp [outB, h4])
        clear h0
        go_enter Tryz.func193, Tryz.ntmps193
        go_wp2
        go_ret
        exact ⟨by rw [E.out]; rfl, rfl⟩
      · have E := Lib.hid (show outB lo hi n = false by simp [outB, h0]; omega)
        clear h0
        go_enter Tryz.func193, Tryz.ntmps193
        go_wp2
        go_ret
        exact ⟨by rw [E.out]; rfl, rfl⟩

theorem idxIn_any (v : Value) (L : List Int) (lo hi : Int) (b1 b2 : Nat) (w : World) (hL : IntsR w v L) (c1 : w.cell? ⟨b1, 0, none⟩ = some (.int .i64 lo)) (c2 : w.cell? ⟨b2, 0, none⟩ = some (.int .i64 hi)) :
    Calls Tryz.prog 140 #[v, .func (.func 193) #[] #[.pointer (some ⟨b1, 0, none⟩), .pointer (some ⟨b2, 0, none⟩)]] w (IdxSays (L.any (outB lo hi)) w) := by
  obtain ⟨a, cap, rfl, hc1, hc2, hcell⟩ := intsR_open hL
  unfold maxLen at hc2
  have HC := Lib.hid hcell; clear hcell hL
  have C1 := Lib.hid c1; have C2 := Lib.hid c2; clear c1 c2
  go_enter Tryz.func140, Tryz.ntmps140
  go_wp2
  go_loopg [8] L.length (fun g i wr => ∃ k : Nat, k ≤ L.length ∧ i = .int .i64 k ∧ Hid ((L.take k).any (outB lo hi) = false) ∧ g = L.length - k ∧ wr = w)
  case atStart => exact ⟨0, Nat.zero_le _, rfl, Lib.hid (by simp), rfl, rfl⟩
  case round =>
    obtain ⟨k, hk, rfl, hS, hg, rfl⟩ := hrel
    have G := Lib.hid hg; clear hg
    by_cases hlt : k < L.length
    · obtain ⟨b, off, rfl, hcs⟩ := HC.out (by omega)
      have c0 := hcs k hlt
      obtain ⟨x, hx⟩ : ∃ x, x = L[k] := ⟨_, rfl⟩
      rw [← hx] at c0
      have X := Lib.hid hx; clear hx hcs
      by_cases he : outB lo hi x = true
      · have E := Lib.hid (any_yes (p := outB lo hi) hlt (by rw [← X.out]; exact he))
        have V := Lib.hid he
        clear he
        go_wp2_with fail
        refine (within1_any x lo hi b1 b2 _ C1.out C2.out).mono ?_; rintro e w' ⟨rfl, rfl⟩
        rw [V.out]
        go_wp2
        go_ret
        exact ⟨k, rfl, by rw [E.out]; simp, Below.refl _ _⟩
      · have he' : outB lo hi x = false := by simpa using he
        have E := Lib.hid (any_no (p := outB lo hi) hlt hS.out (by rw [← X.out]; exact he'))
        have V := Lib.hid he'
        clear he he'
        go_wp2_with fail
        refine (within1_any x lo hi b1 b2 _ C1.out C2.out).mono ?_; rintro e w' ⟨rfl, rfl⟩
        rw [V.out]
        go_wp2
        go_roundg (L.length - (k + 1))
        case measure => rw [G.out]; omega
        case rel => exact ⟨k + 1, by omega, by go_num, E, rfl, rfl⟩
    · obtain rfl : k = L.length := by omega
      have E := Lib.hid (show L.any (outB lo hi) = false by have := hS.out; rwa [List.take_length] at this)
      clear hS
      go_wp2
      go_ret
      exact ⟨-1, rfl, by rw [E.out]; simp, Below.refl _ _⟩

theorem contIn_any (v : Value) (L : List Int) (lo hi : Int) (b1 b2 : Nat) (w : World) (hL : IntsR w v L) (c1 : w.cell? ⟨b1, 0, none⟩ = some (.int .i64 lo)) (c2 : w.cell? ⟨b2, 0, none⟩ = some (.int .i64 hi)) :
    Calls Tryz.prog 65 #[v, .func (.func 193) #[] #[.pointer (some ⟨b1, 0, none⟩), .pointer (some ⟨b2, 0, none⟩)]] w fun e w' => e = .returned (.bool (L.any (outB lo hi))) ∧ Below w.heap.size w w' := by
  go_enter Tryz.func65, Tryz.ntmps65
  go_wp2_with fail
  refine (idxIn_any v L lo hi b1 b2 _ hL c1 c2).mono ?_
  rintro e w1 ⟨r, rfl, hr, hb⟩
  have R := Lib.hid hr; clear hr c1 c2
  go_wp2
  go_ret
  exact ⟨ret_bool R.out, hb⟩

def withinB (lo hi : Int) (L : List Int) : Bool := !L.any (outB lo hi)

theorem within_any (v : Value) (L : List Int) (lo hi : Int) (w : World) (hL : IntsR w v L) :
    Calls Tryz.prog 136 #[v, .int .i64 lo, .int .i64 hi] w fun e w' => e = .returned (.bool (withinB lo hi L)) ∧ Below w.heap.size w w' := by
  have hb : Below w.heap.size w ((w.alloc (.cells #[.int .i64 lo] 3)).alloc (.cells #[.int .i64 hi] 3)) := ((Below.refl _ _).alloc (Nat.le_refl _) _).alloc (by simp) _
  obtain ⟨b, hbq⟩ : ∃ b, b = L.any (outB lo hi) := ⟨_, rfl⟩
  have BQ := Lib.hid hbq; clear hbq
  go_enter Tryz.func136, Tryz.ntmps136
  go_wp2_with fail
  refine (contIn_any v L lo hi w.heap.size (w.heap.size + 1) _ (hL.below hb) (by simp) (by simp)).mono ?_
  rintro e w1 ⟨rfl, hb1⟩
  rw [← BQ.out]
  have B := Lib.hid (hb.trans (hb1.mono (by simp; omega))); clear hb hb1
  go_wp2
  go_ret
  exact ⟨ret_bool (by rw [withinB, ← BQ.out]), B.out⟩

end Go.Proofs.YtgelojhpanbnaaaGreatDoor
