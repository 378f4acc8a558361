/- Texts joined into one (a claim has at most 60 files): The contracts of line.Escape and line.Plain; Contracts of clock.Valid, clock.Add, clock.Split: they only compute. -/
import Derived.Test.YtgelojhpanbnaaaGreatDoorQ05
import Derived.Test.YtgelojhpanbnaaaGreatDoorQ01
import Derived.Deep.AppendLies
import Derived.Laws.OwnMore
import Derived.Laws.IdiomStrings
import Derived.Laws.BytesArg
import Derived.Lib.ConvBytes
import Derived.Lib.SmallJoins
namespace Go.Proofs.YtgelojhpanbnaaaGreatDoor
open Go.RowKit
set_option linter.unusedSimpArgs false
set_option linter.unusedVariables false

def byV (l : List UInt8) : List Value := l.map fun b => .int .u8 (b.toNat : Int)

theorem bs_get (l : List UInt8) (k : Nat) (h : k < l.length) (h2 : k < (bs l).size) : (bs l)[k] = l[k] := by
  rfl

end Go.Proofs.YtgelojhpanbnaaaGreatDoor

namespace Go.Proofs.YtgelojhpanbnaaaGreatDoor
open Go.RowKit

def timeB (t : Int) : Bool := decide (1 ≤ t) && decide (t < 157785120)

theorem timeB_yes {t : Int} (h : timeB t = true) : 1 ≤ t ∧ t < 157785120 := by simpa [timeB] using h

theorem timeB_mk {t : Int} (h : 1 ≤ t) (h2 : t < 157785120) : timeB t = true := by simp [timeB, h, h2]

theorem timeB_mk_no {t : Int} (h : t < 1 ∨ 157785120 ≤ t) : timeB t = false := by
  simp [timeB]; omega

theorem valid_any (t : Int) (w : World) :
    Calls Tryz.prog 58 #[.int .i64 t] w fun e w' => e = .returned (.bool (timeB t)) ∧ w = w' := by
  by_cases h : 1 ≤ t
  · by_cases h2 : t < 157785120
    · go_enter Tryz.func58, Tryz.ntmps58
      go_wp2_with (go_at_call 23; refine (last_any _).mono ?_; rintro e w' ⟨rfl, rfl⟩)
      go_ret
      exact ⟨ret_bool (timeB_mk h h2).symm, rfl⟩
    · go_enter Tryz.func58, Tryz.ntmps58
      go_wp2_with (go_at_call 23; refine (last_any _).mono ?_; rintro e w' ⟨rfl, rfl⟩)
      go_ret
      exact ⟨ret_bool (by rw [timeB_mk_no (by omega)]; simp; omega), rfl⟩
  · go_enter Tryz.func58, Tryz.ntmps58
    go_wp2_with (go_at_call 23; refine (last_any _).mono ?_; rintro e w' ⟨rfl, rfl⟩)
    go_ret
    exact ⟨ret_bool (timeB_mk_no (by omega)).symm, rfl⟩

theorem valid_yes (t : Int) (w : World) (h : timeB t = true) :
    Calls Tryz.prog 58 #[.int .i64 t] w fun e w' => e = .returned (.bool true) ∧ w = w' := by
  rw [← h]; exact valid_any t w

theorem valid_no (t : Int) (w : World) (h : timeB t = false) :
    Calls Tryz.prog 58 #[.int .i64 t] w fun e w' => e = .returned (.bool false) ∧ w = w' := by
  rw [← h]; exact valid_any t w

end Go.Proofs.YtgelojhpanbnaaaGreatDoor
