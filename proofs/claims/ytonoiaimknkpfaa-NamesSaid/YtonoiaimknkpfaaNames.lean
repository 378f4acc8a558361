/- The law Names: the numbers and errors of package api are the document's. It has no input. The walk: its loop of nine rounds, round by round. -/
import Derived.Test.YtonoiaimknkpfaaDayA
namespace Go.Proofs.Ytonoiaimknkpfaa
open Go.RowKit

set_option maxHeartbeats 4000000 in
theorem names_walk (w : World) :
    Calls Try.prog 5 #[] w fun e w' => e = .returned (.bool true) ∧ Below w.heap.size w w' := by
  go_enter Try.func5, Try.ntmps5
  go_wp2
  refine wp_loop_rounds 10 ?_
  iterate 10 (rw [rounds_succ]; go_wp2)
  go_ret
  exact ⟨rfl, (Below.refl _ _).alloc (Nat.le_refl _) _⟩
theorem names_top (w : World) :
    Calls Try.prog 5 #[] w fun e w' => e = .returned (.bool true) ∧ Below w.heap.size w w' := names_walk w
end Go.Proofs.Ytonoiaimknkpfaa
