/- Texts joined into one (a claim has at most 60 files): Contracts of slices.Sort and slices.Compact at a slice of integers that the call owns. -/
import Derived.Test.YtgelojhpanbnaaaGreatDoorShSort
import Derived.Test.YtgelojhpanbnaaaGreatDoorQ01
import Derived.Sort.OwnSortedInts
import Derived.Lib.OwnBridge
namespace Go.Proofs.YtgelojhpanbnaaaGreatDoor
open Go.RowKit Go.Sort Go.Lib

def srt (xs : List Int) : List Int := xs.mergeSort fun x y => decide (x ≤ y)

theorem srt_len (xs : List Int) : (srt xs).length = xs.length := List.length_mergeSort xs

theorem sort_own {base : Nat} (v : Value) (xs : List Int) (w : World) (hown : w.ownsRow base 3 1 v xs.length (xs.map (Value.int .i64))) (hlen : xs.length < 4611686018427387904) :
    Calls Tryz.prog 147 #[v] w fun e w' => e = .returned (.tuple #[]) ∧ w'.ownsRow base 3 1 v xs.length ((srt xs).map (Value.int .i64)) ∧ w.grownBy w' v.ownBlock := by
  have hown0 := hown
  rcases hown.2 with ⟨rfl, h0⟩ | ⟨g, cap, cur, rfl, hb, hg, hn, hc, hs, ht⟩
  · have hx : xs = [] := List.length_eq_zero_iff.1 h0
    subst hx
    exact (Tryz.slices_Sort_int_none none 0 w).mono fun e w' ⟨he, hw⟩ => ⟨he, by subst hw; rw [show srt [] = [] by simp [srt]]; exact hown0, by subst hw; exact World.grownBy.refl _ _⟩
  · have hgl : g < w.heap.size := (Array.getElem?_eq_some_iff.1 hg).1
    have hH : Holds (Value.int .i64) w g 0 xs.toArray := holds_of_blockI hg (by simpa using ht)
    exact (Tryz.slices_Sort_int g 0 cap xs w hH hgl hlen).mono fun e w' ⟨he, n, os, hw⟩ => ⟨he, by subst hw; exact ownsRow_sortedI (ts := srt xs) (srt_len xs) hb hg hn hc hs, by subst hw; exact grownBy_sortedI _⟩

theorem compact_own {base : Nat} (v : Value) (xs : List Int) (w : World) (hown : w.ownsRow base 3 1 v xs.length (xs.map (Value.int .i64))) (hlen : xs.length ≤ 9223372036854775807) :
    Calls Tryz.prog 148 #[v] w fun e w' => ∃ u, e = .returned u ∧ w'.ownsRow base 3 1 u (compact xs).length ((compact xs).map (Value.int .i64)) ∧ w.grownBy w' v.ownBlock := by
  have hown0 := hown
  rcases hown.2 with ⟨rfl, h0⟩ | ⟨g, cap, cur, rfl, hb, hg, hn, hc, hs, ht⟩
  · have hx : xs = [] := List.length_eq_zero_iff.1 h0
    subst hx
    exact (Tryz.slices_Compact_int_empty none 0 w).mono fun e w' ⟨he, hw⟩ => ⟨_, he, by subst hw; exact hown0, by subst hw; exact World.grownBy.refl _ _⟩
  · have hH : Holds (Value.int .i64) w g 0 xs.toArray := holds_of_blockI hg (by simpa using ht)
    refine (Tryz.slices_Compact_int g 0 cap xs w hH hlen hn).mono fun e w' ⟨he, q, hw⟩ => ⟨_, he, ?_, ?_⟩
    · subst hw
      have h := ownsRow_putRow (q := q) (k := (compact xs).length) (ys := compact xs ++ List.replicate (xs.length - (compact xs).length) 0) hown0 (by have := compact_length_le xs; simp; omega) (compact_length_le xs)
      rw [List.take_left] at h
      exact h
    · subst hw
      have h := grownBy_sortedI (w := w) (g := g) (n := q) (os := #[]) (compact xs ++ List.replicate (xs.length - (compact xs).length) 0).toArray
      rw [grow_empty] at h
      exact h

end Go.Proofs.YtgelojhpanbnaaaGreatDoor
