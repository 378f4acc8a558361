/- The contract of period.of, kind for kind (printed by gen_pera.py). -/
import Derived.Test.YtkpmddlinlcobaaDoorPerA
namespace Go.Proofs.YtkpmddlinlcobaaDoor
open Go.RowKit
set_option linter.unusedSimpArgs false
set_option linter.unusedVariables false

set_option maxRecDepth 100000 in
set_option maxHeartbeats 4000000 in
theorem of_start (fr ev ct ti k : Int) (am ad aw ap : Option Addr) (lm km ld kd lw kw lp kp : Nat) (n : Int) (w : World) (h : n < 1 ∨ 109573 < n) :
    Calls Tryd.prog 57 #[.agg #[.int .i64 fr, .int .i64 ev, .int .i64 ct, .int .i64 ti, .slice am lm km, .slice ad ld kd, .slice aw lw kw, .slice ap lp kp], .int .i64 n, .int .i64 k] w fun e w' => e = .returned (.tuple #[.agg #[.int .i64 0, .int .i64 0], .bool false]) ∧ Below w.heap.size w w' := by
  go_enter Tryd.func57, Tryd.ntmps57
  go_wp2_with fail
  refine (date_no n _ h).mono ?_; rintro e w1 ⟨rfl, hb1⟩
  have hs1 := hb1.size; simp at hs1
  have c0 := hb1.cell (p := ⟨w.heap.size + 1, 0, none⟩) (by simp)
  have c1 := hb1.cell (p := ⟨w.heap.size + 1, 1, none⟩) (by simp)
  have f0 := hb1.frozen (p := ⟨w.heap.size + 1, 0, none⟩) (by simp)
  have f1 := hb1.frozen (p := ⟨w.heap.size + 1, 1, none⟩) (by simp)
  simp at c0 c1 f0 f1
  have hl1 : w.heap.size + 1 < w1.heap.size := by omega
  have hbb : Below w.heap.size w w1 := (((Below.refl _ _).alloc (Nat.le_refl _) _).alloc (by simp) _).trans (hb1.mono (by simp; omega))
  clear hb1 h
  go_wp2_with (go_at_call 22; refine (last_any _).mono ?_; rintro e w' ⟨rfl, rfl⟩)
  refine bodyPost_ret (v := .tuple #[.agg #[.int .i64 0, .int .i64 0], .bool false]) ?_ rfl ⟨rfl, ?_⟩
  · simp [results, Tryd.results57, go_sem, c0, c1, hl1]
  · exact ((hbb.setCell (by simp) _).setCell (by simp) _).alloc (by simp; omega) _

set_option maxRecDepth 100000 in
set_option maxHeartbeats 4000000 in
theorem of_k (fr ev ct ti k : Int) (am ad aw ap : Option Addr) (lm km ld kd lw kw lp kp : Nat) (y m d : Int) (w : World) (hw : Months w) (hd : Cal.dateB y m d = true) (hk : k < 0 ∨ 109573 < k) :
    Calls Tryd.prog 57 #[.agg #[.int .i64 fr, .int .i64 ev, .int .i64 ct, .int .i64 ti, .slice am lm km, .slice ad ld kd, .slice aw lw kw, .slice ap lp kp], .int .i64 (Cal.num y m d), .int .i64 k] w fun e w' => e = .returned (.tuple #[.agg #[.int .i64 0, .int .i64 0], .bool false]) ∧ Below w.heap.size w w' := by
  have hda := Cal.num_bd hd
  obtain ⟨_, _, b1, b2⟩ := hda
  obtain ⟨hm, d1, d2⟩ := Cal.date_yes hd
  obtain ⟨m1, m2, m3, m4⟩ := Cal.month_yes hm
  have hwa := (hw.alloc (.cells #[.int .i64 fr, .int .i64 ev, .int .i64 ct, .int .i64 ti, .slice am lm km, .slice ad ld kd, .slice aw lw kw, .slice ap lp kp] 25)).alloc (.cells #[.int .i64 0, .int .i64 0] 88)
  go_enter Tryd.func57, Tryd.ntmps57
  go_wp2_with fail
  refine (date_num y m d _ hwa hd).mono ?_; rintro e w1 ⟨rfl, hb1⟩
  have hs1 := hb1.size; simp at hs1
  have r0 := hb1.cell (p := ⟨w.heap.size, 0, none⟩) (by simp; omega)
  have r1 := hb1.cell (p := ⟨w.heap.size, 1, none⟩) (by simp; omega)
  have c0 := hb1.cell (p := ⟨w.heap.size + 1, 0, none⟩) (by simp)
  have c1 := hb1.cell (p := ⟨w.heap.size + 1, 1, none⟩) (by simp)
  have f0 := hb1.frozen (p := ⟨w.heap.size + 1, 0, none⟩) (by simp)
  have f1 := hb1.frozen (p := ⟨w.heap.size + 1, 1, none⟩) (by simp)
  simp at r0 r1 c0 c1 f0 f1
  have hl1 : w.heap.size + 1 < w1.heap.size := by omega
  have hl2 : w.heap.size < w1.heap.size := by omega
  have hbb : Below w.heap.size w w1 := (((Below.refl _ _).alloc (Nat.le_refl _) _).alloc (by simp) _).trans (hb1.mono (by simp; omega))
  have hw1 := (hwa.below hb1).alloc (.cells #[.int .i64 y, .int .i64 m, .int .i64 d] 105)
  clear hb1 hwa hw
  rcases Int.lt_or_le k 0 with hk0 | hk0
  all_goals
    go_wp2_with (go_at_call 22; refine (last_any _).mono ?_; rintro e w' ⟨rfl, rfl⟩)
    refine bodyPost_ret (v := .tuple #[.agg #[.int .i64 0, .int .i64 0], .bool false]) ?_ rfl ⟨rfl, ?_⟩
    · simp [results, Tryd.results57, go_sem, c0, c1, hl1]
    · exact ((hbb.setCell (by simp) _).setCell (by simp) _).alloc (by simp; omega) _

set_option maxRecDepth 100000 in
set_option maxHeartbeats 4000000 in
theorem of_1 (ev ct ti k : Int) (am ad aw ap : Option Addr) (lm km ld kd lw kw lp kp : Nat) (y m d : Int) (w : World) (hw : Months w) (hd : Cal.dateB y m d = true) (hk : 0 ≤ k ∧ k ≤ 109573) (he : 0 ≤ k * ev ∧ k * ev ≤ 6000000) :
    Calls Tryd.prog 57 #[.agg #[.int .i64 1, .int .i64 ev, .int .i64 ct, .int .i64 ti, .slice am lm km, .slice ad ld kd, .slice aw lw kw, .slice ap lp kp], .int .i64 (Cal.num y m d), .int .i64 k] w fun e w' => e = .returned (.tuple #[.agg #[.int .i64 (Cal.num y m d + k * ev), .int .i64 (Cal.num y m d + k * ev)], .bool (decide (Cal.num y m d + k * ev ≤ 109573))]) ∧ Below w.heap.size w w' := by
  have hda := Cal.num_bd hd
  obtain ⟨_, _, b1, b2⟩ := hda
  obtain ⟨hm, d1, d2⟩ := Cal.date_yes hd
  obtain ⟨m1, m2, m3, m4⟩ := Cal.month_yes hm
  have hwa := (hw.alloc (.cells #[.int .i64 1, .int .i64 ev, .int .i64 ct, .int .i64 ti, .slice am lm km, .slice ad ld kd, .slice aw lw kw, .slice ap lp kp] 25)).alloc (.cells #[.int .i64 0, .int .i64 0] 88)
  go_enter Tryd.func57, Tryd.ntmps57
  go_wp2_with fail
  refine (date_num y m d _ hwa hd).mono ?_; rintro e w1 ⟨rfl, hb1⟩
  have hs1 := hb1.size; simp at hs1
  have r0 := hb1.cell (p := ⟨w.heap.size, 0, none⟩) (by simp; omega)
  have r1 := hb1.cell (p := ⟨w.heap.size, 1, none⟩) (by simp; omega)
  have c0 := hb1.cell (p := ⟨w.heap.size + 1, 0, none⟩) (by simp)
  have c1 := hb1.cell (p := ⟨w.heap.size + 1, 1, none⟩) (by simp)
  have f0 := hb1.frozen (p := ⟨w.heap.size + 1, 0, none⟩) (by simp)
  have f1 := hb1.frozen (p := ⟨w.heap.size + 1, 1, none⟩) (by simp)
  simp at r0 r1 c0 c1 f0 f1
  have hl1 : w.heap.size + 1 < w1.heap.size := by omega
  have hl2 : w.heap.size < w1.heap.size := by omega
  have hbb : Below w.heap.size w w1 := (((Below.refl _ _).alloc (Nat.le_refl _) _).alloc (by simp) _).trans (hb1.mono (by simp; omega))
  have hw1 := (hwa.below hb1).alloc (.cells #[.int .i64 y, .int .i64 m, .int .i64 d] 105)
  clear hb1 hwa hw
  go_wp2_with (go_at_call 22; refine (last_any _).mono ?_; rintro e w' ⟨rfl, rfl⟩)
  refine bodyPost_ret (v := .tuple #[.agg #[.int .i64 (Cal.num y m d + k * ev), .int .i64 (Cal.num y m d + k * ev)], .bool (decide (Cal.num y m d + k * ev ≤ 109573))]) ?_ rfl ⟨rfl, ?_⟩
  · simp [results, Tryd.results57, go_sem, c0, c1, hl1]
  · exact ((hbb.setCell (by simp) _).setCell (by simp) _).alloc (by simp; omega) _

set_option maxRecDepth 100000 in
set_option maxHeartbeats 4000000 in
theorem of_2 (ev ct ti k : Int) (am ad aw ap : Option Addr) (lm km ld kd lw kw lp kp : Nat) (y m d : Int) (w : World) (hw : Months w) (hd : Cal.dateB y m d = true) (hk : 0 ≤ k ∧ k ≤ 109573) (he : 0 ≤ k * ev ∧ k * ev ≤ 6000000) :
    Calls Tryd.prog 57 #[.agg #[.int .i64 2, .int .i64 ev, .int .i64 ct, .int .i64 ti, .slice am lm km, .slice ad ld kd, .slice aw lw kw, .slice ap lp kp], .int .i64 (Cal.num y m d), .int .i64 k] w fun e w' => e = .returned (.tuple #[.agg #[.int .i64 (Cal.mondayI (Cal.num y m d) + 7 * (k * ev)), .int .i64 (Cal.mondayI (Cal.num y m d) + 7 * (k * ev) + 6)], .bool (decide (Cal.mondayI (Cal.num y m d) + 7 * (k * ev) ≤ 109573))]) ∧ Below w.heap.size w w' := by
  have hmo := Cal.monday_bd (Cal.num y m d)
  have hda := Cal.num_bd hd
  obtain ⟨_, _, b1, b2⟩ := hda
  obtain ⟨hm, d1, d2⟩ := Cal.date_yes hd
  obtain ⟨m1, m2, m3, m4⟩ := Cal.month_yes hm
  have hwa := (hw.alloc (.cells #[.int .i64 2, .int .i64 ev, .int .i64 ct, .int .i64 ti, .slice am lm km, .slice ad ld kd, .slice aw lw kw, .slice ap lp kp] 25)).alloc (.cells #[.int .i64 0, .int .i64 0] 88)
  go_enter Tryd.func57, Tryd.ntmps57
  go_wp2_with fail
  refine (date_num y m d _ hwa hd).mono ?_; rintro e w1 ⟨rfl, hb1⟩
  have hs1 := hb1.size; simp at hs1
  have r0 := hb1.cell (p := ⟨w.heap.size, 0, none⟩) (by simp; omega)
  have r1 := hb1.cell (p := ⟨w.heap.size, 1, none⟩) (by simp; omega)
  have c0 := hb1.cell (p := ⟨w.heap.size + 1, 0, none⟩) (by simp)
  have c1 := hb1.cell (p := ⟨w.heap.size + 1, 1, none⟩) (by simp)
  have f0 := hb1.frozen (p := ⟨w.heap.size + 1, 0, none⟩) (by simp)
  have f1 := hb1.frozen (p := ⟨w.heap.size + 1, 1, none⟩) (by simp)
  simp at r0 r1 c0 c1 f0 f1
  have hl1 : w.heap.size + 1 < w1.heap.size := by omega
  have hl2 : w.heap.size < w1.heap.size := by omega
  have hbb : Below w.heap.size w w1 := (((Below.refl _ _).alloc (Nat.le_refl _) _).alloc (by simp) _).trans (hb1.mono (by simp; omega))
  have hw1 := (hwa.below hb1).alloc (.cells #[.int .i64 y, .int .i64 m, .int .i64 d] 105)
  clear hb1 hwa hw
  go_wp2_with (first | (go_at_call 22; refine (last_any _).mono ?_; rintro e w' ⟨rfl, rfl⟩) | (go_at_call 71; refine (monday_any _ _ (by omega) (by omega)).mono ?_; rintro e w' ⟨rfl, rfl⟩))
  refine bodyPost_ret (v := .tuple #[.agg #[.int .i64 (Cal.mondayI (Cal.num y m d) + 7 * (k * ev)), .int .i64 (Cal.mondayI (Cal.num y m d) + 7 * (k * ev) + 6)], .bool (decide (Cal.mondayI (Cal.num y m d) + 7 * (k * ev) ≤ 109573))]) ?_ rfl ⟨rfl, ?_⟩
  · simp [results, Tryd.results57, go_sem, c0, c1, hl1]
  · exact ((hbb.setCell (by simp) _).setCell (by simp) _).alloc (by simp; omega) _

set_option maxRecDepth 100000 in
set_option maxHeartbeats 4000000 in
theorem of_3 (ev ct ti k : Int) (am ad aw ap : Option Addr) (lm km ld kd lw kw lp kp : Nat) (y m d : Int) (w : World) (hw : Months w) (hd : Cal.dateB y m d = true) (hk : 0 ≤ k ∧ k ≤ 109573) (he : 0 ≤ k * ev ∧ k * ev ≤ 6000000) (hn : ((y - 1900) * 12 + m - 1 + k * ev) < 3600) :
    Calls Tryd.prog 57 #[.agg #[.int .i64 3, .int .i64 ev, .int .i64 ct, .int .i64 ti, .slice am lm km, .slice ad ld kd, .slice aw lw kw, .slice ap lp kp], .int .i64 (Cal.num y m d), .int .i64 k] w fun e w' => e = .returned (.tuple #[.agg #[.int .i64 (monFrom ((y - 1900) * 12 + m - 1 + k * ev)), .int .i64 (monFrom ((y - 1900) * 12 + m - 1 + k * ev) + monSize ((y - 1900) * 12 + m - 1 + k * ev) - 1)], .bool true]) ∧ Below w.heap.size w w' := by
  have hda := Cal.num_bd hd
  obtain ⟨_, _, b1, b2⟩ := hda
  obtain ⟨hm, d1, d2⟩ := Cal.date_yes hd
  obtain ⟨m1, m2, m3, m4⟩ := Cal.month_yes hm
  have hwa := (hw.alloc (.cells #[.int .i64 3, .int .i64 ev, .int .i64 ct, .int .i64 ti, .slice am lm km, .slice ad ld kd, .slice aw lw kw, .slice ap lp kp] 25)).alloc (.cells #[.int .i64 0, .int .i64 0] 88)
  go_enter Tryd.func57, Tryd.ntmps57
  go_wp2_with fail
  refine (date_num y m d _ hwa hd).mono ?_; rintro e w1 ⟨rfl, hb1⟩
  have hs1 := hb1.size; simp at hs1
  have r0 := hb1.cell (p := ⟨w.heap.size, 0, none⟩) (by simp; omega)
  have r1 := hb1.cell (p := ⟨w.heap.size, 1, none⟩) (by simp; omega)
  have c0 := hb1.cell (p := ⟨w.heap.size + 1, 0, none⟩) (by simp)
  have c1 := hb1.cell (p := ⟨w.heap.size + 1, 1, none⟩) (by simp)
  have f0 := hb1.frozen (p := ⟨w.heap.size + 1, 0, none⟩) (by simp)
  have f1 := hb1.frozen (p := ⟨w.heap.size + 1, 1, none⟩) (by simp)
  simp at r0 r1 c0 c1 f0 f1
  have hl1 : w.heap.size + 1 < w1.heap.size := by omega
  have hl2 : w.heap.size < w1.heap.size := by omega
  have hbb : Below w.heap.size w w1 := (((Below.refl _ _).alloc (Nat.le_refl _) _).alloc (by simp) _).trans (hb1.mono (by simp; omega))
  have hw1 := (hwa.below hb1).alloc (.cells #[.int .i64 y, .int .i64 m, .int .i64 d] 105)
  clear hb1 hwa hw
  go_wp2_with (go_at_call 22; refine (last_any _).mono ?_; rintro e w' ⟨rfl, rfl⟩)
  refine (month_yes _ _ hw1 (by omega) hn).mono ?_; rintro e w2 ⟨rfl, hb2⟩
  have hb12 : Below w1.heap.size w1 w2 := ((Below.refl _ _).alloc (Nat.le_refl _) _).trans (hb2.mono (by simp))
  have c0 := (hb12.cell (p := ⟨w.heap.size + 1, 0, none⟩) hl1).trans c0
  have c1 := (hb12.cell (p := ⟨w.heap.size + 1, 1, none⟩) hl1).trans c1
  have f0 := (hb12.frozen (p := ⟨w.heap.size + 1, 0, none⟩) hl1).trans f0
  have f1 := (hb12.frozen (p := ⟨w.heap.size + 1, 1, none⟩) hl1).trans f1
  have hbb := hbb.trans (hb12.mono hbb.size)
  have hl1 : w.heap.size + 1 < w2.heap.size := Nat.lt_of_lt_of_le hl1 hb12.size
  clear hb2 hb12
  go_wp2_with fail
  refine bodyPost_ret (v := .tuple #[.agg #[.int .i64 (monFrom ((y - 1900) * 12 + m - 1 + k * ev)), .int .i64 (monFrom ((y - 1900) * 12 + m - 1 + k * ev) + monSize ((y - 1900) * 12 + m - 1 + k * ev) - 1)], .bool true]) ?_ rfl ⟨rfl, ?_⟩
  · simp [results, Tryd.results57, go_sem, c0, c1, hl1]
  · exact ((hbb.setCell (by simp) _).setCell (by simp) _)

set_option maxRecDepth 100000 in
set_option maxHeartbeats 4000000 in
theorem of_3_none (ev ct ti k : Int) (am ad aw ap : Option Addr) (lm km ld kd lw kw lp kp : Nat) (y m d : Int) (w : World) (hw : Months w) (hd : Cal.dateB y m d = true) (hk : 0 ≤ k ∧ k ≤ 109573) (he : 0 ≤ k * ev ∧ k * ev ≤ 6000000) (hn : 3600 ≤ ((y - 1900) * 12 + m - 1 + k * ev)) :
    Calls Tryd.prog 57 #[.agg #[.int .i64 3, .int .i64 ev, .int .i64 ct, .int .i64 ti, .slice am lm km, .slice ad ld kd, .slice aw lw kw, .slice ap lp kp], .int .i64 (Cal.num y m d), .int .i64 k] w fun e w' => e = .returned (.tuple #[.agg #[.int .i64 0, .int .i64 0], .bool false]) ∧ Below w.heap.size w w' := by
  have hda := Cal.num_bd hd
  obtain ⟨_, _, b1, b2⟩ := hda
  obtain ⟨hm, d1, d2⟩ := Cal.date_yes hd
  obtain ⟨m1, m2, m3, m4⟩ := Cal.month_yes hm
  have hwa := (hw.alloc (.cells #[.int .i64 3, .int .i64 ev, .int .i64 ct, .int .i64 ti, .slice am lm km, .slice ad ld kd, .slice aw lw kw, .slice ap lp kp] 25)).alloc (.cells #[.int .i64 0, .int .i64 0] 88)
  go_enter Tryd.func57, Tryd.ntmps57
  go_wp2_with fail
  refine (date_num y m d _ hwa hd).mono ?_; rintro e w1 ⟨rfl, hb1⟩
  have hs1 := hb1.size; simp at hs1
  have r0 := hb1.cell (p := ⟨w.heap.size, 0, none⟩) (by simp; omega)
  have r1 := hb1.cell (p := ⟨w.heap.size, 1, none⟩) (by simp; omega)
  have c0 := hb1.cell (p := ⟨w.heap.size + 1, 0, none⟩) (by simp)
  have c1 := hb1.cell (p := ⟨w.heap.size + 1, 1, none⟩) (by simp)
  have f0 := hb1.frozen (p := ⟨w.heap.size + 1, 0, none⟩) (by simp)
  have f1 := hb1.frozen (p := ⟨w.heap.size + 1, 1, none⟩) (by simp)
  simp at r0 r1 c0 c1 f0 f1
  have hl1 : w.heap.size + 1 < w1.heap.size := by omega
  have hl2 : w.heap.size < w1.heap.size := by omega
  have hbb : Below w.heap.size w w1 := (((Below.refl _ _).alloc (Nat.le_refl _) _).alloc (by simp) _).trans (hb1.mono (by simp; omega))
  have hw1 := (hwa.below hb1).alloc (.cells #[.int .i64 y, .int .i64 m, .int .i64 d] 105)
  clear hb1 hwa hw
  go_wp2_with (go_at_call 22; refine (last_any _).mono ?_; rintro e w' ⟨rfl, rfl⟩)
  refine (month_none _ _ hw1 hn (by omega)).mono ?_; rintro e w2 ⟨rfl, hb2⟩
  have hb12 : Below w1.heap.size w1 w2 := ((Below.refl _ _).alloc (Nat.le_refl _) _).trans (hb2.mono (by simp))
  have c0 := (hb12.cell (p := ⟨w.heap.size + 1, 0, none⟩) hl1).trans c0
  have c1 := (hb12.cell (p := ⟨w.heap.size + 1, 1, none⟩) hl1).trans c1
  have f0 := (hb12.frozen (p := ⟨w.heap.size + 1, 0, none⟩) hl1).trans f0
  have f1 := (hb12.frozen (p := ⟨w.heap.size + 1, 1, none⟩) hl1).trans f1
  have hbb := hbb.trans (hb12.mono hbb.size)
  have hl1 : w.heap.size + 1 < w2.heap.size := Nat.lt_of_lt_of_le hl1 hb12.size
  clear hb2 hb12
  go_wp2_with fail
  refine bodyPost_ret (v := .tuple #[.agg #[.int .i64 0, .int .i64 0], .bool false]) ?_ rfl ⟨rfl, ?_⟩
  · simp [results, Tryd.results57, go_sem, c0, c1, hl1]
  · exact ((hbb.setCell (by simp) _).setCell (by simp) _)

set_option maxRecDepth 100000 in
set_option maxHeartbeats 4000000 in
theorem of_4 (ev ct ti k : Int) (am ad aw ap : Option Addr) (lm km ld kd lw kw lp kp : Nat) (y m d : Int) (w : World) (hw : Months w) (hd : Cal.dateB y m d = true) (hk : 0 ≤ k ∧ k ≤ 109573) (he : 0 ≤ k * ev ∧ k * ev ≤ 6000000) (hn : y + k * ev ≤ 2199) :
    Calls Tryd.prog 57 #[.agg #[.int .i64 4, .int .i64 ev, .int .i64 ct, .int .i64 ti, .slice am lm km, .slice ad ld kd, .slice aw lw kw, .slice ap lp kp], .int .i64 (Cal.num y m d), .int .i64 k] w fun e w' => e = .returned (.tuple #[.agg #[.int .i64 (Cal.num (y + k * ev) 1 1), .int .i64 (Cal.num (y + k * ev) 12 31)], .bool true]) ∧ Below w.heap.size w w' := by
  have hda := Cal.num_bd hd
  obtain ⟨_, _, b1, b2⟩ := hda
  obtain ⟨hm, d1, d2⟩ := Cal.date_yes hd
  obtain ⟨m1, m2, m3, m4⟩ := Cal.month_yes hm
  have hwa := (hw.alloc (.cells #[.int .i64 4, .int .i64 ev, .int .i64 ct, .int .i64 ti, .slice am lm km, .slice ad ld kd, .slice aw lw kw, .slice ap lp kp] 25)).alloc (.cells #[.int .i64 0, .int .i64 0] 88)
  go_enter Tryd.func57, Tryd.ntmps57
  go_wp2_with fail
  refine (date_num y m d _ hwa hd).mono ?_; rintro e w1 ⟨rfl, hb1⟩
  have hs1 := hb1.size; simp at hs1
  have r0 := hb1.cell (p := ⟨w.heap.size, 0, none⟩) (by simp; omega)
  have r1 := hb1.cell (p := ⟨w.heap.size, 1, none⟩) (by simp; omega)
  have c0 := hb1.cell (p := ⟨w.heap.size + 1, 0, none⟩) (by simp)
  have c1 := hb1.cell (p := ⟨w.heap.size + 1, 1, none⟩) (by simp)
  have f0 := hb1.frozen (p := ⟨w.heap.size + 1, 0, none⟩) (by simp)
  have f1 := hb1.frozen (p := ⟨w.heap.size + 1, 1, none⟩) (by simp)
  simp at r0 r1 c0 c1 f0 f1
  have hl1 : w.heap.size + 1 < w1.heap.size := by omega
  have hl2 : w.heap.size < w1.heap.size := by omega
  have hbb : Below w.heap.size w w1 := (((Below.refl _ _).alloc (Nat.le_refl _) _).alloc (by simp) _).trans (hb1.mono (by simp; omega))
  have hw1 := (hwa.below hb1).alloc (.cells #[.int .i64 y, .int .i64 m, .int .i64 d] 105)
  clear hb1 hwa hw
  have hy1 : Cal.dateB (y + k * ev) 1 1 = true := Cal.date_mk (Cal.month_mk (by omega) hn (by omega) (by omega)) (by omega) (by simp [Cal.dim])
  have hy2 : Cal.dateB (y + k * ev) 12 31 = true := Cal.date_mk (Cal.month_mk (by omega) hn (by omega) (by omega)) (by omega) (by simp [Cal.dim])
  go_wp2_with (go_at_call 22; refine (last_any _).mono ?_; rintro e w' ⟨rfl, rfl⟩)
  refine (of_yes _ _ _ _ hw1 hy1).mono ?_; rintro e w2 ⟨rfl, hb2⟩
  have hw2 := hw1.below hb2
  have hb12 : Below w1.heap.size w1 w2 := ((Below.refl _ _).alloc (Nat.le_refl _) _).trans (hb2.mono (by simp))
  have c0 := (hb12.cell (p := ⟨w.heap.size + 1, 0, none⟩) hl1).trans c0
  have c1 := (hb12.cell (p := ⟨w.heap.size + 1, 1, none⟩) hl1).trans c1
  have f0 := (hb12.frozen (p := ⟨w.heap.size + 1, 0, none⟩) hl1).trans f0
  have f1 := (hb12.frozen (p := ⟨w.heap.size + 1, 1, none⟩) hl1).trans f1
  have hbb := hbb.trans (hb12.mono hbb.size)
  have hl1 : w.heap.size + 1 < w2.heap.size := Nat.lt_of_lt_of_le hl1 hb12.size
  clear hb2 hb12
  go_wp2_with fail
  refine (of_yes _ _ _ _ hw2 hy2).mono ?_; rintro e w3 ⟨rfl, hb3⟩
  have c0 := (hb3.cell (p := ⟨w.heap.size + 1, 0, none⟩) hl1).trans c0
  have c1 := (hb3.cell (p := ⟨w.heap.size + 1, 1, none⟩) hl1).trans c1
  have f0 := (hb3.frozen (p := ⟨w.heap.size + 1, 0, none⟩) hl1).trans f0
  have f1 := (hb3.frozen (p := ⟨w.heap.size + 1, 1, none⟩) hl1).trans f1
  have hbb := hbb.trans (hb3.mono hbb.size)
  have hl1 : w.heap.size + 1 < w3.heap.size := Nat.lt_of_lt_of_le hl1 hb3.size
  clear hb3
  go_wp2_with fail
  go_region
  go_wp2
  refine bodyPost_ret (v := .tuple #[.agg #[.int .i64 (Cal.num (y + k * ev) 1 1), .int .i64 (Cal.num (y + k * ev) 12 31)], .bool true]) ?_ rfl ⟨rfl, ?_⟩
  · simp [results, Tryd.results57, go_sem, c0, c1, hl1]
  · exact ((hbb.setCell (by simp) _).setCell (by simp) _).drew

set_option maxRecDepth 100000 in
set_option maxHeartbeats 4000000 in
theorem of_4_none (ev ct ti k : Int) (am ad aw ap : Option Addr) (lm km ld kd lw kw lp kp : Nat) (y m d : Int) (w : World) (hw : Months w) (hd : Cal.dateB y m d = true) (hk : 0 ≤ k ∧ k ≤ 109573) (he : 0 ≤ k * ev ∧ k * ev ≤ 6000000) (hn : 2199 < y + k * ev) :
    Calls Tryd.prog 57 #[.agg #[.int .i64 4, .int .i64 ev, .int .i64 ct, .int .i64 ti, .slice am lm km, .slice ad ld kd, .slice aw lw kw, .slice ap lp kp], .int .i64 (Cal.num y m d), .int .i64 k] w fun e w' => e = .returned (.tuple #[.agg #[.int .i64 0, .int .i64 0], .bool false]) ∧ Below w.heap.size w w' := by
  have hda := Cal.num_bd hd
  obtain ⟨_, _, b1, b2⟩ := hda
  obtain ⟨hm, d1, d2⟩ := Cal.date_yes hd
  obtain ⟨m1, m2, m3, m4⟩ := Cal.month_yes hm
  have hwa := (hw.alloc (.cells #[.int .i64 4, .int .i64 ev, .int .i64 ct, .int .i64 ti, .slice am lm km, .slice ad ld kd, .slice aw lw kw, .slice ap lp kp] 25)).alloc (.cells #[.int .i64 0, .int .i64 0] 88)
  go_enter Tryd.func57, Tryd.ntmps57
  go_wp2_with fail
  refine (date_num y m d _ hwa hd).mono ?_; rintro e w1 ⟨rfl, hb1⟩
  have hs1 := hb1.size; simp at hs1
  have r0 := hb1.cell (p := ⟨w.heap.size, 0, none⟩) (by simp; omega)
  have r1 := hb1.cell (p := ⟨w.heap.size, 1, none⟩) (by simp; omega)
  have c0 := hb1.cell (p := ⟨w.heap.size + 1, 0, none⟩) (by simp)
  have c1 := hb1.cell (p := ⟨w.heap.size + 1, 1, none⟩) (by simp)
  have f0 := hb1.frozen (p := ⟨w.heap.size + 1, 0, none⟩) (by simp)
  have f1 := hb1.frozen (p := ⟨w.heap.size + 1, 1, none⟩) (by simp)
  simp at r0 r1 c0 c1 f0 f1
  have hl1 : w.heap.size + 1 < w1.heap.size := by omega
  have hl2 : w.heap.size < w1.heap.size := by omega
  have hbb : Below w.heap.size w w1 := (((Below.refl _ _).alloc (Nat.le_refl _) _).alloc (by simp) _).trans (hb1.mono (by simp; omega))
  have hw1 := (hwa.below hb1).alloc (.cells #[.int .i64 y, .int .i64 m, .int .i64 d] 105)
  clear hb1 hwa hw
  have hy1 : Cal.dateB (y + k * ev) 1 1 = false := Cal.date_mk_no' (Cal.month_mk_no (by omega))
  go_wp2_with (go_at_call 22; refine (last_any _).mono ?_; rintro e w' ⟨rfl, rfl⟩)
  refine (of_no _ _ _ _ hw1 hy1).mono ?_; rintro e w2 ⟨rfl, hb2⟩
  have hb12 : Below w1.heap.size w1 w2 := ((Below.refl _ _).alloc (Nat.le_refl _) _).trans (hb2.mono (by simp))
  have c0 := (hb12.cell (p := ⟨w.heap.size + 1, 0, none⟩) hl1).trans c0
  have c1 := (hb12.cell (p := ⟨w.heap.size + 1, 1, none⟩) hl1).trans c1
  have f0 := (hb12.frozen (p := ⟨w.heap.size + 1, 0, none⟩) hl1).trans f0
  have f1 := (hb12.frozen (p := ⟨w.heap.size + 1, 1, none⟩) hl1).trans f1
  have hbb := hbb.trans (hb12.mono hbb.size)
  have hl1 : w.heap.size + 1 < w2.heap.size := Nat.lt_of_lt_of_le hl1 hb12.size
  clear hb2 hb12
  go_wp2_with fail
  refine bodyPost_ret (v := .tuple #[.agg #[.int .i64 0, .int .i64 0], .bool false]) ?_ rfl ⟨rfl, ?_⟩
  · simp [results, Tryd.results57, go_sem, c0, c1, hl1]
  · exact ((hbb.setCell (by simp) _).setCell (by simp) _)

end Go.Proofs.YtkpmddlinlcobaaDoor
