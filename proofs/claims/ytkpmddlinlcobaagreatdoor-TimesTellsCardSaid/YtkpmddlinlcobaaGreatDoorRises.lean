/- The reference's Rises: its contract. No condition. -/
import Derived.Test.YtkpmddlinlcobaaGreatDoorQ04
namespace Go.Proofs.YtkpmddlinlcobaaGreatDoor
open Go.RowKit
set_option linter.unusedSimpArgs false
set_option linter.unusedVariables false

set_option maxHeartbeats 1000000 in
theorem rrises_any (v : Value) (L : List Int) (w : World) (hL : IntsR w v L) :
    Calls Tryz.prog 60 #[v] w fun e w' => e = .returned (.bool (risesB L)) ∧ Below w.heap.size w w' := by
  obtain ⟨a, cap, rfl, hc1, hc2, hcell⟩ := intsR_open hL
  unfold maxLen at hc2
  have HC := Lib.hid hcell; clear hcell hL
  go_enter Tryz.func60, Tryz.ntmps60
  go_wp2
  go_loopg [3] L.length (fun g i wr => ∃ k : Nat, 1 ≤ k ∧ k ≤ L.length + 1 ∧ i = .int .i64 k ∧ Hid ((L.take k).Pairwise (· < ·)) ∧ g = L.length + 1 - k ∧ Below w.heap.size w wr)
  case atStart => exact ⟨1, by omega, by omega, rfl, Lib.hid (by cases L <;> simp), by omega, Below.refl _ _⟩
  case round =>
    obtain ⟨k, hk1, hk, rfl, hS, hg, hb⟩ := hrel
    have G := Lib.hid hg; clear hg
    by_cases hlt : k < L.length
    · obtain ⟨b, off, rfl, hcs⟩ := HC.out (by omega)
      have hkm : k - 1 < L.length := by omega
      have c0 := cell_below hb (hcs k hlt)
      have d0 := cell_below hb (hcs (k - 1) hkm)
      obtain ⟨x, hx⟩ : ∃ x, x = L[k] := ⟨_, rfl⟩
      obtain ⟨p, hp⟩ : ∃ p, p = L[k - 1] := ⟨_, rfl⟩
      rw [← hx] at c0; rw [← hp] at d0
      have X := Lib.hid hx; have P := Lib.hid hp; have B := Lib.hid hb
      clear hx hp hcs hb
      have i1 : (0 : Int) ≤ (k : Int) := Int.natCast_nonneg _
      have i2 : (k : Int) < (L.length : Int) := by omega
      by_cases he : p < x
      · have E := Lib.hid (pw_snoc hlt (by omega) hS.out (by rw [← X.out, ← P.out]; exact he))
        have t1 : decide (x ≤ p) = false := decide_eq_false (by omega)
        clear he
        go_wp2
        have s1 : IntKind.i64.wrap ((k : Int) - 1) = (k : Int) - 1 := IntWalk.i64_in _ (by omega)
        have s2 : (0 : Int) ≤ (k : Int) - 1 := by omega
        have s3 : (1 : Int) ≤ (k : Int) := by omega
        have s4 : ((k : Int) - 1).toNat = k - 1 := by omega
        have s5 : (k : Int) - 1 < (L.length : Int) := by omega
        go_quiet (fail)
        clear s1 s2 s3 s4 s5
        go_wp2
        go_roundg (L.length + 1 - (k + 1))
        case measure => rw [G.out]; omega
        case rel => exact ⟨k + 1, by omega, by omega, by go_num, E, rfl, below_drewN B.out _⟩
      · have E := Lib.hid (risesB_no hlt (by omega) (by rw [← X.out, ← P.out]; omega))
        have t1 : decide (x ≤ p) = true := decide_eq_true (by omega)
        clear he
        go_wp2
        have s1 : IntKind.i64.wrap ((k : Int) - 1) = (k : Int) - 1 := IntWalk.i64_in _ (by omega)
        have s2 : (0 : Int) ≤ (k : Int) - 1 := by omega
        have s3 : (1 : Int) ≤ (k : Int) := by omega
        have s4 : ((k : Int) - 1).toNat = k - 1 := by omega
        have s5 : (k : Int) - 1 < (L.length : Int) := by omega
        go_quiet (fail)
        clear s1 s2 s3 s4 s5
        go_wp2
        go_ret
        exact ⟨by rw [E.out]; rfl, below_drewN B.out _⟩
    · have E := Lib.hid (risesB_yes (L := L) (by have := hS.out; rwa [List.take_of_length_le (by omega)] at this))
      have B := Lib.hid hb
      have hge : ¬ (k : Int) < (L.length : Int) := by omega
      clear hS hb
      go_wp2
      go_ret
      exact ⟨by rw [E.out]; rfl, B.out⟩

end Go.Proofs.YtkpmddlinlcobaaGreatDoor
