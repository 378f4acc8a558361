/- Contracts of week.Monday, week.first, week.Weeks, week.First, week.Week. -/
import Derived.Test.YtkpmddlinlcobaaDoorDayD
namespace Go.Proofs.YtkpmddlinlcobaaDoor
open Go.RowKit

theorem monday_any (n : Int) (w : World) (h1 : 1 ≤ n) (h2 : n ≤ 1000000) :
    Calls Tryd.prog 71 #[.int .i64 n] w fun e w' => e = .returned (.int .i64 (Cal.mondayI n)) ∧ w = w' := by
  go_enter Tryd.func71, Tryd.ntmps71
  go_wp2
  go_ret
  exact ⟨rfl, rfl⟩

end Go.Proofs.YtkpmddlinlcobaaDoor
