/- Contracts of day.ahead, day.Last, clock.Valid, clock.Add, clock.Split: they only compute. No condition but the bounds that each states. -/
import Derived.Test.YtiihkdefhhdfnaaGreatDoorProg
import Derived.Test.YtiihkdefhhdfnaaGreatDoorCal
import Derived.WalkKit
import Derived.WalkSpells
import Derived.WalkLawsBesides
import Derived.Lib.Hide
import Derived.Below
import Derived.Deep.QuietTactic
import Derived.BigQuiet
namespace Go.Proofs.YtiihkdefhhdfnaaGreatDoor
open Go.RowKit

theorem ret_int {k : IntKind} {a b : Int} (h : a = b) : Ending.returned (.int k a) = .returned (.int k b) := by rw [h]

theorem ret_bool {a b : Bool} (h : a = b) : Ending.returned (.bool a) = .returned (.bool b) := by rw [h]

/-- an error by its number; 0: nil. -/
def errV (c : Int) : Value := if c = 0 then .nilIface else .iface 44 (.int .i64 c)

theorem errV_0 : errV 0 = .nilIface := rfl

/-- A callee that leaves the world alone, met in a region that draws (the world ahead of it has drawn n times). -/
theorem quiet_l {P : Program} {f : FuncId} {args : Array Value} {w : World} {n : Nat} {v : Value}
    (h : Calls P f args (w.drewN n) fun e w' => e = .returned v ∧ w.drewN n = w') : Calls P f args (w.drewN n) fun e w'' => e = .returned v ∧ ∃ m, w'' = w.drewN m :=
  h.mono fun _ _ ⟨he, hm⟩ => ⟨he, n, hm.symm⟩

/-- the same where an earlier region has drawn already. -/
theorem quiet_la {P : Program} {f : FuncId} {args : Array Value} {w : World} {a n : Nat} {v : Value}
    (h : Calls P f args (w.drewN (a + n)) fun e w' => e = .returned v ∧ w.drewN (a + n) = w') : Calls P f args (w.drewN (a + n)) fun e w'' => e = .returned v ∧ ∃ m, w'' = w.drewN (a + m) :=
  h.mono fun _ _ ⟨he, hm⟩ => ⟨he, n, hm.symm⟩

theorem below_drewN {B : Nat} {a w : World} (h : Below B a w) (n : Nat) : Below B a (w.drewN n) := ⟨h.os, h.tape, h.output, h.size, h.block⟩

/-- all days ahead of a year, as the closure in day.ahead counts them. -/
theorem ahead1_any (y : Int) (c : World) (h0 : 0 ≤ y) (h1 : y ≤ 10000) :
    Calls Tryz.prog 58 #[.int .i64 y] c fun e w' => e = .returned (.int .i64 (365 * y + y / 4 - y / 100 + y / 400)) ∧ c = w' := by
  go_enter Tryz.func58, Tryz.ntmps58
  go_wp2
  go_ret
  exact ⟨rfl, rfl⟩

theorem ahead_any (y : Int) (w : World) (h0 : 1 ≤ y) (h1 : y ≤ 10000) :
    Calls Tryz.prog 44 #[.int .i64 y] w fun e w' => e = .returned (.int .i64 (Cal.ahead y)) ∧ w = w' := by
  go_enter Tryz.func44, Tryz.ntmps44
  go_wp2
  go_ret
  exact ⟨by rfl, rfl⟩

theorem last_any (w : World) :
    Calls Tryz.prog 34 #[] w fun e w' => e = .returned (.int .i64 109573) ∧ w = w' := by
  go_enter Tryz.func34, Tryz.ntmps34
  go_wp2_with (go_at_call 44; refine (ahead_any 2200 _ (by omega) (by omega)).mono ?_; rintro e w' ⟨rfl, rfl⟩)
  go_ret
  exact ⟨ret_int (by decide), rfl⟩

end Go.Proofs.YtiihkdefhhdfnaaGreatDoor
