/- Contracts of period.month and period.of. -/
import Derived.Test.YtkpmddlinlcobaaDoorWeekC
import Derived.Deep.DeepCutAuto
import Derived.Outline
namespace Go.Proofs.YtkpmddlinlcobaaDoor
open Go.RowKit
set_option linter.unusedSimpArgs false
set_option linter.unusedVariables false

/-- the first day of the n-th month (from the first year on). -/
def monFrom (n : Int) : Int := Cal.num (1900 + n / 12) (n % 12 + 1) 1

/-- how many days the n-th month has. -/
def monSize (n : Int) : Int := Cal.dim (1900 + n / 12) (n % 12 + 1)

theorem mon_date (n : Int) (h0 : 0 ≤ n) (h1 : n < 3600) : Cal.monthB (1900 + n / 12) (n % 12 + 1) = true ∧ Cal.dateB (1900 + n / 12) (n % 12 + 1) 1 = true := by
  have hm : Cal.monthB (1900 + n / 12) (n % 12 + 1) = true := Cal.month_mk (by omega) (by omega) (by omega) (by omega)
  exact ⟨hm, Cal.date_mk hm (by omega) (by have := Cal.dim_bd (1900 + n / 12) (n % 12 + 1); omega)⟩

set_option maxRecDepth 100000 in
set_option maxHeartbeats 4000000 in
theorem month_yes (n : Int) (w : World) (hw : Months w) (h0 : 0 ≤ n) (h1 : n < 3600) :
    Calls Tryd.prog 72 #[.int .i64 n] w fun e w' => e = .returned (.tuple #[.agg #[.int .i64 (monFrom n), .int .i64 (monFrom n + monSize n - 1)], .bool true]) ∧ Below w.heap.size w w' := by
  obtain ⟨hm, hd⟩ := mon_date n h0 h1
  obtain ⟨_, _, b1, b2⟩ := Cal.num_bd hd
  have hdb := Cal.dim_bd (1900 + n / 12) (n % 12 + 1)
  have hF : monFrom n = Cal.num (1900 + n / 12) (n % 12 + 1) 1 := rfl
  have hS : monSize n = Cal.dim (1900 + n / 12) (n % 12 + 1) := rfl
  rw [← hF] at b1 b2
  rw [← hS] at hdb
  have F := Lib.hid hF; have Z := Lib.hid hS
  clear hF hS
  have hw0 := hw.alloc (.cells #[.int .i64 0, .int .i64 0] 88)
  go_enter Tryd.func72, Tryd.ntmps72
  go_wp2_with (go_at_call 74; refine (days_yes _ _ _ hw0 hm).mono ?_; rintro e w' ⟨rfl, rfl⟩)
  refine (of_yes _ _ 1 _ hw0 hd).mono ?_; rintro e w1 ⟨rfl, hb1⟩
  rw [← F.out, ← Z.out]
  have hs1 := hb1.size; simp at hs1
  have c0 := hb1.cell (p := ⟨w.heap.size, 0, none⟩) (by simp)
  have c1 := hb1.cell (p := ⟨w.heap.size, 1, none⟩) (by simp)
  have f0 := hb1.frozen (p := ⟨w.heap.size, 0, none⟩) (by simp)
  have f1 := hb1.frozen (p := ⟨w.heap.size, 1, none⟩) (by simp)
  simp at c0 c1 f0 f1
  have hbb : Below w.heap.size w w1 := ((Below.refl _ _).alloc (Nat.le_refl _) _).trans (hb1.mono (by simp))
  clear hb1 hw0 hw
  go_wp2_with fail
  go_region
  go_wp2
  refine bodyPost_ret (v := .tuple #[.agg #[.int .i64 (monFrom n), .int .i64 (monFrom n + monSize n - 1)], .bool true]) ?_ rfl ⟨rfl, ?_⟩
  · simp [results, Tryd.results72, go_sem, c0, c1]
  · exact ((hbb.setCell (Nat.le_refl _) _).setCell (Nat.le_refl _) _).drew

set_option maxRecDepth 100000 in
set_option maxHeartbeats 4000000 in
theorem month_none (n : Int) (w : World) (hw : Months w) (h0 : 3600 ≤ n) (h1 : n ≤ 10000000) :
    Calls Tryd.prog 72 #[.int .i64 n] w fun e w' => e = .returned (.tuple #[.agg #[.int .i64 0, .int .i64 0], .bool false]) ∧ Below w.heap.size w w' := by
  have hm : Cal.monthB (1900 + n / 12) (n % 12 + 1) = false := Cal.month_mk_no (by omega)
  have hw0 := hw.alloc (.cells #[.int .i64 0, .int .i64 0] 88)
  go_enter Tryd.func72, Tryd.ntmps72
  go_wp2_with (go_at_call 74; refine (days_no _ _ _ hm).mono ?_; rintro e w' ⟨rfl, rfl⟩)
  refine bodyPost_ret (v := .tuple #[.agg #[.int .i64 0, .int .i64 0], .bool false]) ?_ rfl ⟨rfl, ?_⟩
  · simp [results, Tryd.results72, go_sem]
  · exact (Below.refl _ _).alloc (Nat.le_refl _) _

end Go.Proofs.YtkpmddlinlcobaaDoor
