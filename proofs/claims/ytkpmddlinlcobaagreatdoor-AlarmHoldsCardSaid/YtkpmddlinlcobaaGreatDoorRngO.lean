/- chimesame.Rings of two lists that are the same. No condition. -/
import Derived.Test.YtkpmddlinlcobaaGreatDoorRngN
namespace Go.Proofs.YtkpmddlinlcobaaGreatDoor
open Go.RowKit Go.Shelf
set_option linter.unusedSimpArgs false
set_option linter.unusedVariables false

/-- a list of rings, as it lies. -/
def RngsR (nm : ByteArray) (w : World) (v : Value) (L : List Rng) : Prop := Reads w v 5 L.length (L.flatMap (encR nm))

theorem RngsR.below {nm : ByteArray} {w w' : World} {v : Value} {L : List Rng} (h : RngsR nm w v L) (hb : Below w.heap.size w w') : RngsR nm w' v L := Reads.below h hb

theorem OwnR.rngs {nm : ByteArray} {B : Nat} {w : World} {v : Value} {L : List Rng} (h : OwnR nm B w v L) : RngsR nm w v L := ownsRow_reads h

theorem rngsR_open {nm : ByteArray} {w : World} {v : Value} {L : List Rng} (h : RngsR nm w v L) : ∃ a cap, v = .slice a L.length cap ∧ L.length ≤ cap ∧ cap ≤ maxLen ∧
    (0 < L.length → ∃ b off, a = some ⟨b, off, none⟩ ∧ ∀ (i : Nat) (hi : i < L.length), w.cell? ⟨b, off + i * 5, none⟩ = some (.int .i64 L[i].1) ∧ w.cell? ⟨b, off + i * 5 + 1, none⟩ = some (.string nm) ∧ w.cell? ⟨b, off + i * 5 + 2, none⟩ = some (.int .i64 L[i].2.1) ∧ w.cell? ⟨b, off + i * 5 + 3, none⟩ = some (.int .i64 L[i].2.2.1) ∧ w.cell? ⟨b, off + i * 5 + 4, none⟩ = some (.int .i64 L[i].2.2.2)) := by
  obtain ⟨p, cap, rfl, k1, k2, k3, k4⟩ := h
  refine ⟨p, cap, rfl, k2, k3, fun hp => ?_⟩
  obtain ⟨b, off, rfl, hc⟩ := k4 hp
  have q : ∀ (i : Nat) (hi : i < L.length) (o : Nat) (ho : o < 5) (u : Value), (encR nm L[i])[o]? = some u → w.cell? ⟨b, off + i * 5 + o, none⟩ = some u := fun i hi o ho u hu => by
    rw [Nat.add_assoc]
    exact hc _ _ ((flatMap_at (enc := encR nm) (k := 5) (fun _ => rfl) L i o hi ho).trans hu)
  exact ⟨b, off, rfl, fun i hi => ⟨q i hi 0 (by omega) _ rfl, q i hi 1 (by omega) _ rfl, q i hi 2 (by omega) _ rfl, q i hi 3 (by omega) _ rfl, q i hi 4 (by omega) _ rfl⟩⟩

set_option maxHeartbeats 4000000 in
theorem rings_same (nm : ByteArray) (u v : Value) (L : List Rng) (w : World) (hu : RngsR nm w u L) (hv : RngsR nm w v L) :
    Calls Tryz.prog 35 #[u, v] w fun e w' => e = .returned (.bool true) ∧ Below w.heap.size w w' := by
  obtain ⟨p, cap, rfl, hc1, hc2, hcell⟩ := rngsR_open hu
  obtain ⟨q, caq, rfl, hd1, hd2, hdell⟩ := rngsR_open hv
  unfold maxLen at hc2 hd2
  have HC := Lib.hid hcell; have HD := Lib.hid hdell; clear hcell hdell hu hv
  go_enter Tryz.func35, Tryz.ntmps35
  go_wp2
  go_loopg [5] L.length (fun g i wr => ∃ k : Nat, k ≤ L.length ∧ i = .int .i64 k ∧ g = L.length - k ∧ ∃ n, wr = w.drewN n)
  case atStart => exact ⟨0, Nat.zero_le _, rfl, rfl, 0, rfl⟩
  case round =>
    obtain ⟨k, hk, rfl, hg, n, rfl⟩ := hrel
    have G := Lib.hid hg; clear hg
    by_cases hlt : k < L.length
    · obtain ⟨b1, off1, rfl, hcs⟩ := HC.out (by omega)
      obtain ⟨b2, off2, rfl, hds⟩ := HD.out (by omega)
      obtain ⟨c0, c1, c2, c3, c4⟩ := hcs k hlt
      obtain ⟨d0, d1, d2, d3, d4⟩ := hds k hlt
      obtain ⟨x, hx⟩ : ∃ x, x = L[k] := ⟨_, rfl⟩
      rw [← hx] at c0 c2 c3 c4 d0 d2 d3 d4
      obtain ⟨x1, x2, x3, x4⟩ := x
      simp only at c0 c2 c3 c4 d0 d2 d3 d4
      clear hx hcs hds
      have i1 : (0 : Int) ≤ (k : Int) := Int.natCast_nonneg _
      have i2 : (k : Int) < (L.length : Int) := by omega
      go_wp2
      go_quiet (fail)
      go_wp2
      go_roundg (L.length - (k + 1))
      case measure => rw [G.out]; omega
      case rel => exact ⟨k + 1, by omega, by go_num, rfl, _, rfl⟩
    · obtain rfl : k = L.length := by omega
      go_wp2
      go_ret
      exact ⟨rfl, below_drewN (Below.refl _ _) _⟩

end Go.Proofs.YtkpmddlinlcobaaGreatDoor
