/- chimesame.Busies: two lists that are the same. -/
import Derived.Test.YtdkcgggnkhbkkaaDoorRefY
namespace Go.Proofs.YtdkcgggnkhbkkaaDoor
open Go.RowKit
set_option linter.unusedSimpArgs false
set_option linter.unusedVariables false

set_option maxHeartbeats 4000000 in
theorem busies_same (u v : Value) (L : List (Int × Int)) (w : World) (hu : PairsR w u L) (hv : PairsR w v L) :
    Calls Tryd.prog 21 #[u, v] w fun e w' => e = .returned (.bool true) ∧ Below w.heap.size w w' := by
  obtain ⟨p, cap, rfl, hc1, hc2, hcell⟩ := pairsR_open hu
  obtain ⟨q, caq, rfl, hd1, hd2, hdell⟩ := pairsR_open hv
  unfold maxLen at hc2 hd2
  have HC := Lib.hid hcell; have HD := Lib.hid hdell; clear hcell hdell hu hv
  go_enter Tryd.func21, Tryd.ntmps21
  go_wp2
  go_loopg [5] L.length (fun g i wr => ∃ k : Nat, k ≤ L.length ∧ i = .int .i64 k ∧ g = L.length - k ∧ ∃ n, wr = w.drewN n)
  case atStart => exact ⟨0, Nat.zero_le _, rfl, rfl, 0, rfl⟩
  case round =>
    obtain ⟨k, hk, rfl, hg, n, rfl⟩ := hrel
    have G := Lib.hid hg; clear hg
    by_cases hlt : k < L.length
    · obtain ⟨b1, off1, rfl, hcs⟩ := HC.out (by omega)
      obtain ⟨b2, off2, rfl, hds⟩ := HD.out (by omega)
      have c0 := (hcs k hlt).1
      have c1 := (hcs k hlt).2
      have d0 := (hds k hlt).1
      have d1 := (hds k hlt).2
      obtain ⟨x, hx⟩ : ∃ x, x = L[k].1 := ⟨_, rfl⟩
      obtain ⟨y, hy⟩ : ∃ y, y = L[k].2 := ⟨_, rfl⟩
      rw [← hx] at c0 d0; rw [← hy] at c1 d1
      clear hx hy hcs hds
      have i1 : (0 : Int) ≤ (k : Int) := Int.natCast_nonneg _
      have i2 : (k : Int) < (L.length : Int) := by omega
      go_wp2
      go_quiet (fail)
      go_wp2
      go_roundg (L.length - (k + 1))
      case measure => rw [G.out]; omega
      case rel => exact ⟨k + 1, by omega, by go_num, rfl, _, rfl⟩
    · obtain rfl : k = L.length := by omega
      go_wp2
      go_ret
      exact ⟨rfl, below_drewN (Below.refl _ _) _⟩

end Go.Proofs.YtdkcgggnkhbkkaaDoor
