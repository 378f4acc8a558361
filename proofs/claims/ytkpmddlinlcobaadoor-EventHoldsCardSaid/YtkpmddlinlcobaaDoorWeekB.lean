/- Contracts of week.Which, week.Nth. -/
import Derived.Test.YtkpmddlinlcobaaDoorWeekA
import Derived.BigRegion
namespace Go.Proofs.YtkpmddlinlcobaaDoor
open Go.RowKit

theorem cell_other {w : World} {a b : Addr} {v : Value} (h : a ≠ b) : (w.setCell a v).cell? b = w.cell? b := World.cell?_setCell_other _ _ _ _ h

theorem cell_same {w : World} {a : Addr} {v u : Value} (h : w.cell? a = some u) : (w.setCell a v).cell? a = some v := World.cell?_setCell_same _ _ _ h

/-- Four cells set, one behind the other: each holds its value, what lies in other blocks is untouched. -/
theorem set4 {w : World} {b c : Nat} {u0 u1 u2 u3 v0 v1 v2 v3 : Value} (hbc : b ≠ c) (h0 : w.cell? ⟨b, 0, none⟩ = some u0) (h1 : w.cell? ⟨b, 1, none⟩ = some u1) (h2 : w.cell? ⟨c, 0, none⟩ = some u2) (h3 : w.cell? ⟨c, 1, none⟩ = some u3) :
    ∃ wr, wr = (((w.setCell ⟨b, 0, none⟩ v0).setCell ⟨b, 1, none⟩ v1).setCell ⟨c, 0, none⟩ v2).setCell ⟨c, 1, none⟩ v3 ∧ wr.cell? ⟨b, 0, none⟩ = some v0 ∧ wr.cell? ⟨b, 1, none⟩ = some v1 ∧ wr.cell? ⟨c, 0, none⟩ = some v2 ∧ wr.cell? ⟨c, 1, none⟩ = some v3 ∧ wr.heap.size = w.heap.size ∧
      (∀ (B : Nat) (a : World), Below B a w → B ≤ b → B ≤ c → Below B a wr) := by
  refine ⟨_, rfl, ?_, ?_, ?_, ?_, ?_, ?_⟩
  · rw [cell_other (by simp), cell_other (by simp), cell_other (by simp)]
    exact cell_same h0
  · rw [cell_other (by simp), cell_other (by simp)]
    exact cell_same (u := u1) (by rw [cell_other (by simp)]; exact h1)
  · rw [cell_other (by simp)]
    exact cell_same (u := u2) (by rw [cell_other (by simp), cell_other (by simp)]; exact h2)
  · exact cell_same (u := u3) (by rw [cell_other (by simp), cell_other (by simp), cell_other (by simp)]; exact h3)
  · simp [World.setCell]
  · intro B a h hb hc
    exact (((h.setCell hb _).setCell hb _).setCell hc _).setCell hc _

set_option maxRecDepth 100000 in
set_option maxHeartbeats 2000000 in
theorem which_yes (y m d : Int) (w : World) (hw : Months w) (hd : Cal.dateB y m d = true) :
    Calls Tryd.prog 75 #[.int .i64 (Cal.num y m d)] w fun e w' => e = .returned (.tuple #[.agg #[.int .i64 ((d - 1) / 7 + 1), .int .i64 ((Cal.num y m d - 1) % 7 + 1)], .agg #[.int .i64 (-((Cal.dim y m - d) / 7 + 1)), .int .i64 ((Cal.num y m d - 1) % 7 + 1)], .nilIface]) ∧ Below w.heap.size w w' := by
  obtain ⟨hm, h1, h2⟩ := Cal.date_yes hd
  obtain ⟨_, _, b1, b2⟩ := Cal.num_bd hd
  have hdb := Cal.dim_bd y m
  have hwa := (hw.alloc (.cells #[.int .i64 0, .int .i64 0] 67)).alloc (.cells #[.int .i64 0, .int .i64 0] 67)
  go_enter Tryd.func75, Tryd.ntmps75
  go_wp2_with fail
  refine (date_num y m d _ hwa hd).mono ?_; rintro e w1 ⟨rfl, hb1⟩
  have hw1 := (hwa.below hb1).alloc (.cells #[.int .i64 y, .int .i64 m, .int .i64 d] 105)
  have hs1 := hb1.size; simp at hs1
  have c0 := hb1.cell (p := ⟨w.heap.size, 0, none⟩) (by simp; omega)
  have c1 := hb1.cell (p := ⟨w.heap.size, 1, none⟩) (by simp; omega)
  have c2 := hb1.cell (p := ⟨w.heap.size + 1, 0, none⟩) (by simp)
  have c3 := hb1.cell (p := ⟨w.heap.size + 1, 1, none⟩) (by simp)
  have f0 := hb1.frozen (p := ⟨w.heap.size, 0, none⟩) (by simp; omega)
  have f1 := hb1.frozen (p := ⟨w.heap.size, 1, none⟩) (by simp; omega)
  have f2 := hb1.frozen (p := ⟨w.heap.size + 1, 0, none⟩) (by simp)
  have f3 := hb1.frozen (p := ⟨w.heap.size + 1, 1, none⟩) (by simp)
  simp at c0 c1 c2 c3 f0 f1 f2 f3
  have hl1 : w.heap.size + 1 < w1.heap.size := by omega
  have hl2 : w.heap.size < w1.heap.size := by omega
  have hbb : Below w.heap.size w w1 := (((Below.refl _ _).alloc (Nat.le_refl _) _).alloc (by simp) _).trans (hb1.mono (by simp; omega))
  clear hb1 hwa
  go_wp2_with fail
  refine (days_yes y m _ hw1 hm).mono ?_; rintro e w' ⟨rfl, rfl⟩
  go_wp2_with fail
  go_region
  go_wp2
  obtain ⟨wr, hwr, q0, q1, q2, q3, hsz, hbr⟩ := set4 (v0 := .int .i64 ((d - 1) / 7 + 1)) (v1 := .int .i64 ((Cal.num y m d - 1) % 7 + 1)) (v2 := .int .i64 (-((Cal.dim y m - d) / 7 + 1))) (v3 := .int .i64 ((Cal.num y m d - 1) % 7 + 1)) (by omega) c0 c1 c2 c3
  rw [← hwr]
  have hbb2 := hbr _ _ hbb (Nat.le_refl _) (by omega)
  have k1 : w.heap.size + 1 < wr.heap.size := by omega
  have k2 : w.heap.size < wr.heap.size := by omega
  clear hbr hwr c0 c1 c2 c3 hsz
  refine bodyPost_ret (v := .tuple #[.agg #[.int .i64 ((d - 1) / 7 + 1), .int .i64 ((Cal.num y m d - 1) % 7 + 1)], .agg #[.int .i64 (-((Cal.dim y m - d) / 7 + 1)), .int .i64 ((Cal.num y m d - 1) % 7 + 1)], .nilIface]) ?_ rfl ⟨rfl, ?_⟩
  · simp [results, Tryd.results75, go_sem, q0, q1, q2, q3, k1, k2]
  · exact (hbb2.alloc (by omega) _).drew

set_option maxRecDepth 100000 in
theorem which_no (n : Int) (w : World) (h : n < 1 ∨ 109573 < n) :
    Calls Tryd.prog 75 #[.int .i64 n] w fun e w' => e = .returned (.tuple #[.agg #[.int .i64 0, .int .i64 0], .agg #[.int .i64 0, .int .i64 0], .iface 39 (.int .i64 1)]) ∧ Below w.heap.size w w' := by
  go_enter Tryd.func75, Tryd.ntmps75
  go_wp2_with fail
  refine (date_no n _ h).mono ?_; rintro e w1 ⟨rfl, hb1⟩
  have hs1 := hb1.size; simp at hs1
  have c0 := hb1.cell (p := ⟨w.heap.size, 0, none⟩) (by simp; omega)
  have c1 := hb1.cell (p := ⟨w.heap.size, 1, none⟩) (by simp; omega)
  have c2 := hb1.cell (p := ⟨w.heap.size + 1, 0, none⟩) (by simp)
  have c3 := hb1.cell (p := ⟨w.heap.size + 1, 1, none⟩) (by simp)
  have f0 := hb1.frozen (p := ⟨w.heap.size, 0, none⟩) (by simp; omega)
  have f1 := hb1.frozen (p := ⟨w.heap.size, 1, none⟩) (by simp; omega)
  have f2 := hb1.frozen (p := ⟨w.heap.size + 1, 0, none⟩) (by simp)
  have f3 := hb1.frozen (p := ⟨w.heap.size + 1, 1, none⟩) (by simp)
  simp at c0 c1 c2 c3 f0 f1 f2 f3
  have hl1 : w.heap.size + 1 < w1.heap.size := by omega
  have hl2 : w.heap.size < w1.heap.size := by omega
  have hbb : Below w.heap.size w w1 := (((Below.refl _ _).alloc (Nat.le_refl _) _).alloc (by simp) _).trans (hb1.mono (by simp; omega))
  clear hb1
  go_wp2
  obtain ⟨wr, hwr, q0, q1, q2, q3, hsz, hbr⟩ := set4 (v0 := .int .i64 0) (v1 := .int .i64 0) (v2 := .int .i64 0) (v3 := .int .i64 0) (by omega) c0 c1 c2 c3
  rw [← hwr]
  have hbb2 := hbr _ _ hbb (Nat.le_refl _) (by omega)
  have k1 : w.heap.size + 1 < wr.heap.size := by omega
  have k2 : w.heap.size < wr.heap.size := by omega
  clear hbr hwr c0 c1 c2 c3 hsz
  refine bodyPost_ret (v := .tuple #[.agg #[.int .i64 0, .int .i64 0], .agg #[.int .i64 0, .int .i64 0], .iface 39 (.int .i64 1)]) ?_ rfl ⟨rfl, ?_⟩
  · simp [results, Tryd.results75, go_sem, q0, q1, q2, q3, k1, k2]
  · exact hbb2.alloc (by omega) _
end Go.Proofs.YtkpmddlinlcobaaDoor
