/- Contracts of the reference's weeks (chimeref1.Monday, Week, Weeks, Ends, NthOf). -/
import Derived.Test.YtdkcgggnkhbkkaaGreatDoorRefA
import Derived.Test.YtdkcgggnkhbkkaaGreatDoorWeekC
import Derived.BigRegion
import Derived.IntWalk
import Derived.Test.YtdkcgggnkhbkkaaGreatDoorSl
import Derived.Deep.LoopGhost
namespace Go.Proofs.YtdkcgggnkhbkkaaGreatDoor
open Go.RowKit

theorem rmonday_any (n : Int) (w : World) (h1 : 1 ≤ n) (h2 : n ≤ 1000000) :
    Calls Tryz.prog 84 #[.int .i64 n] w fun e w' => e = .returned (.int .i64 (Cal.mondayI n)) ∧ w = w' := by
  go_enter Tryz.func84, Tryz.ntmps84
  go_wp2
  go_ret
  exact ⟨rfl, rfl⟩

theorem weeks_alt {y : Int} (h1 : 1900 ≤ y) (h2 : y ≤ 2199) : Cal.wk1 y ≤ Cal.mondayI (Cal.num y 12 28) ∧ (Cal.mondayI (Cal.num y 12 28) - Cal.wk1 y) / 7 + 1 = Cal.weeksI y := by
  obtain ⟨c0, c1, c2, c3⟩ := Cal.wk1_bd h1 h2
  have e1 := Cal.num_d28 y
  have e2 := Cal.lp_01 y
  have d1 := Cal.monday_bd (Cal.num y 12 28)
  have d2 := Cal.monday_mod (Cal.num y 12 28)
  unfold Cal.weeksI
  omega

theorem rends_any (y m d : Int) (w : World) (hd : Cal.dateB y m d = true) :
    Calls Tryz.prog 171 #[.int .i64 (Cal.num y m d)] w fun e w' => e = .returned (.tuple #[.int .i64 ((d - 1) / 7 + 1), .int .i64 (-((Cal.dim y m - d) / 7 + 1))]) ∧ Below w.heap.size w w' := by
  obtain ⟨hm, h1, h2⟩ := Cal.date_yes hd
  have hdb := Cal.dim_bd y m
  go_enter Tryz.func171, Tryz.ntmps171
  go_wp2_with fail
  refine (rdate_num y m d _ hd).mono ?_; rintro e w1 ⟨rfl, hb1⟩
  go_wp2_with fail
  refine (rdays_yes y m _ hm).mono ?_; rintro e w' ⟨rfl, rfl⟩
  go_wp2
  go_region
  all_goals
    go_wp2
    go_ret2
    exact ⟨rfl, (hb1.alloc hb1.size _).drew⟩

theorem cell_drewN {w : World} {p : Addr} {v : Value} (h : w.cell? p = some v) (n : Nat) : (w.drewN n).cell? p = some v := h

/-- the day and the fault of the k-th weekday of a month. -/
def nthAt (y m k wd : Int) : Int := if Cal.monthB y m = true ∧ nthB k wd = true ∧ Cal.num y m 1 ≤ nthI (Cal.num y m 1) (Cal.dim y m) k wd ∧ nthI (Cal.num y m 1) (Cal.dim y m) k wd < Cal.num y m 1 + Cal.dim y m then nthI (Cal.num y m 1) (Cal.dim y m) k wd else 0

def nthE (y m k wd : Int) : Int := if Cal.monthB y m = true ∧ nthB k wd = true then (if Cal.num y m 1 ≤ nthI (Cal.num y m 1) (Cal.dim y m) k wd ∧ nthI (Cal.num y m 1) (Cal.dim y m) k wd < Cal.num y m 1 + Cal.dim y m then 0 else 5) else 1

/-- A day of a month is the k-th of its weekday just where its weekday is that and its place, from either end, is k. -/
theorem nth_iff {y m d k wd : Int} (h : Cal.dateB y m d = true) (hk : nthB k wd = true) :
    ((Cal.num y m d - 1) % 7 + 1 = wd ∧ ((d - 1) / 7 + 1 = k ∨ -((Cal.dim y m - d) / 7 + 1) = k)) ↔ nthI (Cal.num y m 1) (Cal.dim y m) k wd = Cal.num y m d := by
  obtain ⟨hm, h1, h2⟩ := Cal.date_yes h
  have hdb := Cal.dim_bd y m
  obtain ⟨k1, k2, k3, k4, k5⟩ := nth_ok hk
  have e : Cal.num y m 1 = Cal.num y m d - (d - 1) := by unfold Cal.num; omega
  rw [e]
  unfold nthI
  split <;> constructor <;> intro h <;> omega

end Go.Proofs.YtdkcgggnkhbkkaaGreatDoor
