/- Contracts of week.Monday, week.first, week.Weeks, week.First, week.Week. -/
import Derived.Test.YtdkcgggnkhbkkaaGreatDoorDayD
namespace Go.Proofs.YtdkcgggnkhbkkaaGreatDoor
open Go.RowKit

theorem monday_any (n : Int) (w : World) (h1 : 1 ≤ n) (h2 : n ≤ 1000000) :
    Calls Tryz.prog 87 #[.int .i64 n] w fun e w' => e = .returned (.int .i64 (Cal.mondayI n)) ∧ w = w' := by
  go_enter Tryz.func87, Tryz.ntmps87
  go_wp2
  go_ret
  exact ⟨rfl, rfl⟩

end Go.Proofs.YtdkcgggnkhbkkaaGreatDoor
