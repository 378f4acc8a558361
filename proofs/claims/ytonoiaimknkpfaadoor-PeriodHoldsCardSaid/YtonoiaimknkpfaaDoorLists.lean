/- Contracts of chimeref1.In and chimesame.Ints at slices of integers. No condition. -/
import Derived.Test.YtonoiaimknkpfaaDoorSl
import Derived.Test.YtonoiaimknkpfaaDoorDayA
import Derived.Deep.LoopGhost
import Derived.Deep.QuietTactic
import Derived.BigQuiet
import Derived.IntWalk
namespace Go.Proofs.YtonoiaimknkpfaaDoor
open Go.RowKit

/-- is a number in a list? -/
def inB (L : List Int) (n : Int) : Bool := decide (n ∈ L)

theorem inB_snoc_yes {L : List Int} {n : Int} {k : Nat} (h : k < L.length) (e : L[k] = n) : inB L n = true := by
  rw [inB, decide_eq_true_eq, ← e]; exact List.getElem_mem h

theorem inB_snoc_no {L : List Int} {n : Int} {k : Nat} (h : k < L.length) (e : L[k] ≠ n) (hk : inB (L.take k) n = false) : inB (L.take (k + 1)) n = false := by
  rw [inB, decide_eq_false_iff_not] at *
  rw [List.take_succ_eq_append_getElem h, List.mem_append]
  rintro (h1 | h1)
  · exact hk h1
  · exact e (Eq.symm (by simpa using h1))

theorem rin_any (v : Value) (L : List Int) (n : Int) (w : World) (hL : IntsR w v L) :
    Calls Tryd.prog 29 #[v, .int .i64 n] w fun e w' => e = .returned (.bool (inB L n)) ∧ w = w' := by
  obtain ⟨a, cap, rfl, hc1, hc2, hcell⟩ := intsR_open hL
  unfold maxLen at hc2
  have HC := Lib.hid hcell; clear hcell hL
  go_enter Tryd.func29, Tryd.ntmps29
  go_wp2
  go_loopg [5] L.length (fun g i wr => ∃ k : Nat, k ≤ L.length ∧ i = .int .i64 k ∧ Hid (inB (L.take k) n = false) ∧ g = L.length - k ∧ wr = w)
  case atStart => exact ⟨0, Nat.zero_le _, rfl, Lib.hid (by simp [inB]), rfl, rfl⟩
  case round =>
    obtain ⟨k, hk, rfl, hS, hg, rfl⟩ := hrel
    have G := Lib.hid hg; clear hg
    by_cases hlt : k < L.length
    · obtain ⟨b, off, rfl, hcs⟩ := HC.out (by omega)
      have c0 := hcs k hlt
      obtain ⟨x, hx⟩ : ∃ x, x = L[k] := ⟨_, rfl⟩
      rw [← hx] at c0
      have X := Lib.hid hx; clear hx hcs
      by_cases he : x = n
      · have E := Lib.hid (inB_snoc_yes (n := n) hlt (by rw [← X.out]; exact he))
        have he2 : (x == n) = true := by simpa using he
        clear he
        go_wp2
        go_ret
        exact ⟨by rw [E.out]; rfl, rfl⟩
      · have E := Lib.hid (inB_snoc_no (n := n) hlt (by rw [← X.out]; exact he) hS.out)
        have he2 : (x == n) = false := by simpa using he
        clear he
        go_wp2
        go_roundg (L.length - (k + 1))
        case measure => rw [G.out]; omega
        case rel => exact ⟨k + 1, by omega, by go_num, E, rfl, rfl⟩
    · obtain rfl : k = L.length := by omega
      have E := Lib.hid (show inB L n = false by have := hS.out; rwa [List.take_length] at this)
      clear hS
      go_wp2
      go_ret
      exact ⟨by rw [E.out]; rfl, rfl⟩

/-- are two lists the same? -/
def intsB (a b : List Int) : Bool := decide (a = b)

theorem take_snoc_eq {a b : List Int} {k : Nat} (h : k < a.length) (h2 : k < b.length) (e : a[k] = b[k]) (ht : a.take k = b.take k) : a.take (k + 1) = b.take (k + 1) := by
  rw [List.take_succ_eq_append_getElem h, List.take_succ_eq_append_getElem h2, ht, e]

theorem intsB_no {a b : List Int} {k : Nat} (h : k < a.length) (h2 : k < b.length) (e : a[k] ≠ b[k]) : intsB a b = false := by
  rw [intsB, decide_eq_false_iff_not]; rintro rfl; exact e rfl

end Go.Proofs.YtonoiaimknkpfaaDoor
