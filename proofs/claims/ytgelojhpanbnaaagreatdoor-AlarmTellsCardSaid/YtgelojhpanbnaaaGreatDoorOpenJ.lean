/- What the reach says of all arguments it says of all but the first. No condition. -/
import Derived.Test.YtgelojhpanbnaaaGreatDoorQ10
namespace Go.Proofs.YtgelojhpanbnaaaGreatDoor
open Go.RowKit

theorem each_tail {H : Type} {P : Program} {t : TypeId} {ts : List TypeId} {d : DataW H} {ds : List (DataW H)} (h : (DataW.weightsEach P (t :: ts) (d :: ds)).all (· ≤ reachBytes) = true) : (DataW.weightsEach P ts ds).all (· ≤ reachBytes) = true := by
  rw [List.all_eq_true] at h ⊢
  intro n hn
  exact h n (by rw [DataW.weightsEach]; exact List.mem_append_right _ hn)

end Go.Proofs.YtgelojhpanbnaaaGreatDoor
