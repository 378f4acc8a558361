/- Texts joined into one (a claim has at most 60 files): Contracts of week.Monday, week.first, week.Weeks, week.First, week.Week; Contracts of week.Which, week.Nth; Contracts of week.Nth; Contracts of period.month and period.of. -/
import Derived.Test.YtgelojhpanbnaaaGreatDoorQ01
import Derived.BigRegion
import Derived.Deep.DeepCutAuto
import Derived.Outline
namespace Go.Proofs.YtgelojhpanbnaaaGreatDoor
open Go.RowKit

theorem monday_any (n : Int) (w : World) (h1 : 1 ≤ n) (h2 : n ≤ 1000000) :
    Calls Tryz.prog 235 #[.int .i64 n] w fun e w' => e = .returned (.int .i64 (Cal.mondayI n)) ∧ w = w' := by
  go_enter Tryz.func235, Tryz.ntmps235
  go_wp2
  go_ret
  exact ⟨rfl, rfl⟩

end Go.Proofs.YtgelojhpanbnaaaGreatDoor

namespace Go.Proofs.YtgelojhpanbnaaaGreatDoor
open Go.RowKit

theorem cell_other {w : World} {a b : Addr} {v : Value} (h : a ≠ b) : (w.setCell a v).cell? b = w.cell? b := World.cell?_setCell_other _ _ _ _ h

theorem cell_same {w : World} {a : Addr} {v u : Value} (h : w.cell? a = some u) : (w.setCell a v).cell? a = some v := World.cell?_setCell_same _ _ _ h

theorem set4 {w : World} {b c : Nat} {u0 u1 u2 u3 v0 v1 v2 v3 : Value} (hbc : b ≠ c) (h0 : w.cell? ⟨b, 0, none⟩ = some u0) (h1 : w.cell? ⟨b, 1, none⟩ = some u1) (h2 : w.cell? ⟨c, 0, none⟩ = some u2) (h3 : w.cell? ⟨c, 1, none⟩ = some u3) :
    ∃ wr, wr = (((w.setCell ⟨b, 0, none⟩ v0).setCell ⟨b, 1, none⟩ v1).setCell ⟨c, 0, none⟩ v2).setCell ⟨c, 1, none⟩ v3 ∧ wr.cell? ⟨b, 0, none⟩ = some v0 ∧ wr.cell? ⟨b, 1, none⟩ = some v1 ∧ wr.cell? ⟨c, 0, none⟩ = some v2 ∧ wr.cell? ⟨c, 1, none⟩ = some v3 ∧ wr.heap.size = w.heap.size ∧
      (∀ (B : Nat) (a : World), Below B a w → B ≤ b → B ≤ c → Below B a wr) := by
  refine ⟨_, rfl, ?_, ?_, ?_, ?_, ?_, ?_⟩
  · rw [cell_other (by simp), cell_other (by simp), cell_other (by simp)]
    exact cell_same h0
  · rw [cell_other (by simp), cell_other (by simp)]
    exact cell_same (u := u1) (by rw [cell_other (by simp)]; exact h1)
  · rw [cell_other (by simp)]
    exact cell_same (u := u2) (by rw [cell_other (by simp), cell_other (by simp)]; exact h2)
  · exact cell_same (u := u3) (by rw [cell_other (by simp), cell_other (by simp), cell_other (by simp)]; exact h3)
  · simp [World.setCell]
  · intro B a h hb hc
    exact (((h.setCell hb _).setCell hb _).setCell hc _).setCell hc _

set_option maxRecDepth 100000 in
set_option maxHeartbeats 2000000 in
theorem which_yes (y m d : Int) (w : World) (hw : Months w) (hd : Cal.dateB y m d = true) :
    Calls Tryz.prog 237 #[.int .i64 (Cal.num y m d)] w fun e w' => e = .returned (.tuple #[.agg #[.int .i64 ((d - 1) / 7 + 1), .int .i64 ((Cal.num y m d - 1) % 7 + 1)], .agg #[.int .i64 (-((Cal.dim y m - d) / 7 + 1)), .int .i64 ((Cal.num y m d - 1) % 7 + 1)], .nilIface]) ∧ Below w.heap.size w w' := by
  obtain ⟨hm, h1, h2⟩ := Cal.date_yes hd
  obtain ⟨_, _, b1, b2⟩ := Cal.num_bd hd
  have hdb := Cal.dim_bd y m
  have hwa := (hw.alloc (.cells #[.int .i64 0, .int .i64 0] 198)).alloc (.cells #[.int .i64 0, .int .i64 0] 198)
  go_enter Tryz.func237, Tryz.ntmps237
  go_wp2_with fail
  refine (date_num y m d _ hwa hd).mono ?_; rintro e w1 ⟨rfl, hb1⟩
  have hw1 := (hwa.below hb1).alloc (.cells #[.int .i64 y, .int .i64 m, .int .i64 d] 41)
  have hs1 := hb1.size; simp at hs1
  have c0 := hb1.cell (p := ⟨w.heap.size, 0, none⟩) (by simp; omega)
  have c1 := hb1.cell (p := ⟨w.heap.size, 1, none⟩) (by simp; omega)
  have c2 := hb1.cell (p := ⟨w.heap.size + 1, 0, none⟩) (by simp)
  have c3 := hb1.cell (p := ⟨w.heap.size + 1, 1, none⟩) (by simp)
  have f0 := hb1.frozen (p := ⟨w.heap.size, 0, none⟩) (by simp; omega)
  have f1 := hb1.frozen (p := ⟨w.heap.size, 1, none⟩) (by simp; omega)
  have f2 := hb1.frozen (p := ⟨w.heap.size + 1, 0, none⟩) (by simp)
  have f3 := hb1.frozen (p := ⟨w.heap.size + 1, 1, none⟩) (by simp)
  simp at c0 c1 c2 c3 f0 f1 f2 f3
  have hl1 : w.heap.size + 1 < w1.heap.size := by omega
  have hl2 : w.heap.size < w1.heap.size := by omega
  have hbb : Below w.heap.size w w1 := (((Below.refl _ _).alloc (Nat.le_refl _) _).alloc (by simp) _).trans (hb1.mono (by simp; omega))
  clear hb1 hwa
  go_wp2_with fail
  refine (days_yes y m _ hw1 hm).mono ?_; rintro e w' ⟨rfl, rfl⟩
  go_wp2_with fail
  go_region
  go_wp2
  obtain ⟨wr, hwr, q0, q1, q2, q3, hsz, hbr⟩ := set4 (v0 := .int .i64 ((d - 1) / 7 + 1)) (v1 := .int .i64 ((Cal.num y m d - 1) % 7 + 1)) (v2 := .int .i64 (-((Cal.dim y m - d) / 7 + 1))) (v3 := .int .i64 ((Cal.num y m d - 1) % 7 + 1)) (by omega) c0 c1 c2 c3
  rw [← hwr]
  have hbb2 := hbr _ _ hbb (Nat.le_refl _) (by omega)
  have k1 : w.heap.size + 1 < wr.heap.size := by omega
  have k2 : w.heap.size < wr.heap.size := by omega
  clear hbr hwr c0 c1 c2 c3 hsz
  refine bodyPost_ret (v := .tuple #[.agg #[.int .i64 ((d - 1) / 7 + 1), .int .i64 ((Cal.num y m d - 1) % 7 + 1)], .agg #[.int .i64 (-((Cal.dim y m - d) / 7 + 1)), .int .i64 ((Cal.num y m d - 1) % 7 + 1)], .nilIface]) ?_ rfl ⟨rfl, ?_⟩
  · simp [results, Tryz.results237, go_sem, q0, q1, q2, q3, k1, k2]
  · exact (hbb2.alloc (by omega) _).drew

set_option maxRecDepth 100000 in
theorem which_no (n : Int) (w : World) (h : n < 1 ∨ 109573 < n) :
    Calls Tryz.prog 237 #[.int .i64 n] w fun e w' => e = .returned (.tuple #[.agg #[.int .i64 0, .int .i64 0], .agg #[.int .i64 0, .int .i64 0], .iface 124 (.int .i64 1)]) ∧ Below w.heap.size w w' := by
  go_enter Tryz.func237, Tryz.ntmps237
  go_wp2_with fail
  refine (date_no n _ h).mono ?_; rintro e w1 ⟨rfl, hb1⟩
  have hs1 := hb1.size; simp at hs1
  have c0 := hb1.cell (p := ⟨w.heap.size, 0, none⟩) (by simp; omega)
  have c1 := hb1.cell (p := ⟨w.heap.size, 1, none⟩) (by simp; omega)
  have c2 := hb1.cell (p := ⟨w.heap.size + 1, 0, none⟩) (by simp)
  have c3 := hb1.cell (p := ⟨w.heap.size + 1, 1, none⟩) (by simp)
  have f0 := hb1.frozen (p := ⟨w.heap.size, 0, none⟩) (by simp; omega)
  have f1 := hb1.frozen (p := ⟨w.heap.size, 1, none⟩) (by simp; omega)
  have f2 := hb1.frozen (p := ⟨w.heap.size + 1, 0, none⟩) (by simp)
  have f3 := hb1.frozen (p := ⟨w.heap.size + 1, 1, none⟩) (by simp)
  simp at c0 c1 c2 c3 f0 f1 f2 f3
  have hl1 : w.heap.size + 1 < w1.heap.size := by omega
  have hl2 : w.heap.size < w1.heap.size := by omega
  have hbb : Below w.heap.size w w1 := (((Below.refl _ _).alloc (Nat.le_refl _) _).alloc (by simp) _).trans (hb1.mono (by simp; omega))
  clear hb1
  go_wp2
  obtain ⟨wr, hwr, q0, q1, q2, q3, hsz, hbr⟩ := set4 (v0 := .int .i64 0) (v1 := .int .i64 0) (v2 := .int .i64 0) (v3 := .int .i64 0) (by omega) c0 c1 c2 c3
  rw [← hwr]
  have hbb2 := hbr _ _ hbb (Nat.le_refl _) (by omega)
  have k1 : w.heap.size + 1 < wr.heap.size := by omega
  have k2 : w.heap.size < wr.heap.size := by omega
  clear hbr hwr c0 c1 c2 c3 hsz
  refine bodyPost_ret (v := .tuple #[.agg #[.int .i64 0, .int .i64 0], .agg #[.int .i64 0, .int .i64 0], .iface 124 (.int .i64 1)]) ?_ rfl ⟨rfl, ?_⟩
  · simp [results, Tryz.results237, go_sem, q0, q1, q2, q3, k1, k2]
  · exact hbb2.alloc (by omega) _
end Go.Proofs.YtgelojhpanbnaaaGreatDoor

namespace Go.Proofs.YtgelojhpanbnaaaGreatDoor
open Go.RowKit

end Go.Proofs.YtgelojhpanbnaaaGreatDoor

namespace Go.Proofs.YtgelojhpanbnaaaGreatDoor
open Go.RowKit
set_option linter.unusedSimpArgs false
set_option linter.unusedVariables false

def monFrom (n : Int) : Int := Cal.num (1900 + n / 12) (n % 12 + 1) 1

def monSize (n : Int) : Int := Cal.dim (1900 + n / 12) (n % 12 + 1)

theorem mon_date (n : Int) (h0 : 0 ≤ n) (h1 : n < 3600) : Cal.monthB (1900 + n / 12) (n % 12 + 1) = true ∧ Cal.dateB (1900 + n / 12) (n % 12 + 1) 1 = true := by
  have hm : Cal.monthB (1900 + n / 12) (n % 12 + 1) = true := Cal.month_mk (by omega) (by omega) (by omega) (by omega)
  exact ⟨hm, Cal.date_mk hm (by omega) (by have := Cal.dim_bd (1900 + n / 12) (n % 12 + 1); omega)⟩

set_option maxRecDepth 100000 in
set_option maxHeartbeats 4000000 in
theorem month_yes (n : Int) (w : World) (hw : Months w) (h0 : 0 ≤ n) (h1 : n < 3600) :
    Calls Tryz.prog 236 #[.int .i64 n] w fun e w' => e = .returned (.tuple #[.agg #[.int .i64 (monFrom n), .int .i64 (monFrom n + monSize n - 1)], .bool true]) ∧ Below w.heap.size w w' := by
  obtain ⟨hm, hd⟩ := mon_date n h0 h1
  obtain ⟨_, _, b1, b2⟩ := Cal.num_bd hd
  have hdb := Cal.dim_bd (1900 + n / 12) (n % 12 + 1)
  have hF : monFrom n = Cal.num (1900 + n / 12) (n % 12 + 1) 1 := rfl
  have hS : monSize n = Cal.dim (1900 + n / 12) (n % 12 + 1) := rfl
  rw [← hF] at b1 b2
  rw [← hS] at hdb
  have F := Lib.hid hF; have Z := Lib.hid hS
  clear hF hS
  have hw0 := hw.alloc (.cells #[.int .i64 0, .int .i64 0] 244)
  go_enter Tryz.func236, Tryz.ntmps236
  go_wp2_with (go_at_call 14; refine (days_yes _ _ _ hw0 hm).mono ?_; rintro e w' ⟨rfl, rfl⟩)
  refine (of_yes _ _ 1 _ hw0 hd).mono ?_; rintro e w1 ⟨rfl, hb1⟩
  rw [← F.out, ← Z.out]
  have hs1 := hb1.size; simp at hs1
  have c0 := hb1.cell (p := ⟨w.heap.size, 0, none⟩) (by simp)
  have c1 := hb1.cell (p := ⟨w.heap.size, 1, none⟩) (by simp)
  have f0 := hb1.frozen (p := ⟨w.heap.size, 0, none⟩) (by simp)
  have f1 := hb1.frozen (p := ⟨w.heap.size, 1, none⟩) (by simp)
  simp at c0 c1 f0 f1
  have hbb : Below w.heap.size w w1 := ((Below.refl _ _).alloc (Nat.le_refl _) _).trans (hb1.mono (by simp))
  clear hb1 hw0 hw
  go_wp2_with fail
  go_region
  go_wp2
  refine bodyPost_ret (v := .tuple #[.agg #[.int .i64 (monFrom n), .int .i64 (monFrom n + monSize n - 1)], .bool true]) ?_ rfl ⟨rfl, ?_⟩
  · simp [results, Tryz.results236, go_sem, c0, c1]
  · exact ((hbb.setCell (Nat.le_refl _) _).setCell (Nat.le_refl _) _).drew

set_option maxRecDepth 100000 in
set_option maxHeartbeats 4000000 in
theorem month_none (n : Int) (w : World) (hw : Months w) (h0 : 3600 ≤ n) (h1 : n ≤ 10000000) :
    Calls Tryz.prog 236 #[.int .i64 n] w fun e w' => e = .returned (.tuple #[.agg #[.int .i64 0, .int .i64 0], .bool false]) ∧ Below w.heap.size w w' := by
  have hm : Cal.monthB (1900 + n / 12) (n % 12 + 1) = false := Cal.month_mk_no (by omega)
  have hw0 := hw.alloc (.cells #[.int .i64 0, .int .i64 0] 244)
  go_enter Tryz.func236, Tryz.ntmps236
  go_wp2_with (go_at_call 14; refine (days_no _ _ _ hm).mono ?_; rintro e w' ⟨rfl, rfl⟩)
  refine bodyPost_ret (v := .tuple #[.agg #[.int .i64 0, .int .i64 0], .bool false]) ?_ rfl ⟨rfl, ?_⟩
  · simp [results, Tryz.results236, go_sem]
  · exact (Below.refl _ _).alloc (Nat.le_refl _) _

end Go.Proofs.YtgelojhpanbnaaaGreatDoor
