/- Contracts of chimeref1.In and chimesame.Ints at slices of integers. No condition. -/
import Derived.Test.YtkpmddlinlcobaaDoorSl
import Derived.Test.YtkpmddlinlcobaaDoorDayA
import Derived.Deep.LoopGhost
import Derived.Deep.QuietTactic
import Derived.BigQuiet
import Derived.IntWalk
namespace Go.Proofs.YtkpmddlinlcobaaDoor
open Go.RowKit

/-- is a number in a list? -/
def inB (L : List Int) (n : Int) : Bool := decide (n ∈ L)

theorem inB_snoc_yes {L : List Int} {n : Int} {k : Nat} (h : k < L.length) (e : L[k] = n) : inB L n = true := by
  rw [inB, decide_eq_true_eq, ← e]; exact List.getElem_mem h

theorem inB_snoc_no {L : List Int} {n : Int} {k : Nat} (h : k < L.length) (e : L[k] ≠ n) (hk : inB (L.take k) n = false) : inB (L.take (k + 1)) n = false := by
  rw [inB, decide_eq_false_iff_not] at *
  rw [List.take_succ_eq_append_getElem h, List.mem_append]
  rintro (h1 | h1)
  · exact hk h1
  · exact e (Eq.symm (by simpa using h1))

theorem rin_any (v : Value) (L : List Int) (n : Int) (w : World) (hL : IntsR w v L) :
    Calls Tryd.prog 5 #[v, .int .i64 n] w fun e w' => e = .returned (.bool (inB L n)) ∧ w = w' := by
  obtain ⟨a, cap, rfl, hc1, hc2, hcell⟩ := intsR_open hL
  unfold maxLen at hc2
  have HC := Lib.hid hcell; clear hcell hL
  go_enter Tryd.func5, Tryd.ntmps5
  go_wp2
  go_loopg [5] L.length (fun g i wr => ∃ k : Nat, k ≤ L.length ∧ i = .int .i64 k ∧ Hid (inB (L.take k) n = false) ∧ g = L.length - k ∧ wr = w)
  case atStart => exact ⟨0, Nat.zero_le _, rfl, Lib.hid (by simp [inB]), rfl, rfl⟩
  case round =>
    obtain ⟨k, hk, rfl, hS, hg, rfl⟩ := hrel
    have G := Lib.hid hg; clear hg
    by_cases hlt : k < L.length
    · obtain ⟨b, off, rfl, hcs⟩ := HC.out (by omega)
      have c0 := hcs k hlt
      obtain ⟨x, hx⟩ : ∃ x, x = L[k] := ⟨_, rfl⟩
      rw [← hx] at c0
      have X := Lib.hid hx; clear hx hcs
      by_cases he : x = n
      · have E := Lib.hid (inB_snoc_yes (n := n) hlt (by rw [← X.out]; exact he))
        have he2 : (x == n) = true := by simpa using he
        clear he
        go_wp2
        go_ret
        exact ⟨by rw [E.out]; rfl, rfl⟩
      · have E := Lib.hid (inB_snoc_no (n := n) hlt (by rw [← X.out]; exact he) hS.out)
        have he2 : (x == n) = false := by simpa using he
        clear he
        go_wp2
        go_roundg (L.length - (k + 1))
        case measure => rw [G.out]; omega
        case rel => exact ⟨k + 1, by omega, by go_num, E, rfl, rfl⟩
    · obtain rfl : k = L.length := by omega
      have E := Lib.hid (show inB L n = false by have := hS.out; rwa [List.take_length] at this)
      clear hS
      go_wp2
      go_ret
      exact ⟨by rw [E.out]; rfl, rfl⟩

/-- are two lists the same? -/
def intsB (a b : List Int) : Bool := decide (a = b)

theorem take_snoc_eq {a b : List Int} {k : Nat} (h : k < a.length) (h2 : k < b.length) (e : a[k] = b[k]) (ht : a.take k = b.take k) : a.take (k + 1) = b.take (k + 1) := by
  rw [List.take_succ_eq_append_getElem h, List.take_succ_eq_append_getElem h2, ht, e]

theorem intsB_no {a b : List Int} {k : Nat} (h : k < a.length) (h2 : k < b.length) (e : a[k] ≠ b[k]) : intsB a b = false := by
  rw [intsB, decide_eq_false_iff_not]; rintro rfl; exact e rfl

theorem ints_any (u v : Value) (a b : List Int) (w : World) (ha : IntsR w u a) (hb : IntsR w v b) :
    Calls Tryd.prog 6 #[u, v] w fun e w' => e = .returned (.bool (intsB a b)) ∧ Below w.heap.size w w' := by
  obtain ⟨p, cap, rfl, hc1, hc2, hcell⟩ := intsR_open ha
  obtain ⟨q, caq, rfl, hd1, hd2, hdell⟩ := intsR_open hb
  unfold maxLen at hc2 hd2
  have HC := Lib.hid hcell; have HD := Lib.hid hdell; clear hcell hdell ha hb
  by_cases hlen : a.length = b.length
  · have HL := Lib.hid hlen
    have hl2 : ((a.length : Int) != (b.length : Int)) = false := by simp; omega
    have hl3 : a.length ≤ b.length := by omega
    clear hlen
    go_enter Tryd.func6, Tryd.ntmps6
    go_wp2
    go_loopg [5] a.length (fun g i wr => ∃ k : Nat, k ≤ a.length ∧ i = .int .i64 k ∧ Hid (a.take k = b.take k) ∧ g = a.length - k ∧ ∃ n, wr = w.drewN n)
    case atStart => exact ⟨0, Nat.zero_le _, rfl, Lib.hid (by simp), rfl, 0, rfl⟩
    case round =>
      obtain ⟨k, hk, rfl, hS, hg, n, rfl⟩ := hrel
      have G := Lib.hid hg; clear hg
      by_cases hlt : k < a.length
      · obtain ⟨b1, off1, rfl, hcs⟩ := HC.out (by omega)
        obtain ⟨b2, off2, rfl, hds⟩ := HD.out (by omega)
        have hlb : k < b.length := by omega
        have c0 := hcs k hlt
        have d0 := hds k hlb
        obtain ⟨x, hx⟩ : ∃ x, x = a[k] := ⟨_, rfl⟩
        obtain ⟨y, hy⟩ : ∃ y, y = b[k] := ⟨_, rfl⟩
        rw [← hx] at c0; rw [← hy] at d0
        have X := Lib.hid hx; have Y := Lib.hid hy; clear hx hy hcs hds
        have i1 : (0 : Int) ≤ (k : Int) := Int.natCast_nonneg _
        have i2 : (k : Int) < (a.length : Int) := by omega
        have i3 : (k : Int) < (b.length : Int) := by omega
        by_cases he : x = y
        · have E := Lib.hid (take_snoc_eq hlt hlb (by rw [← X.out, ← Y.out]; exact he) hS.out)
          have he2 : (x != y) = false := by simpa using he
          clear he
          go_wp2
          go_quiet (fail)
          go_wp2
          go_roundg (a.length - (k + 1))
          case measure => rw [G.out]; omega
          case rel => exact ⟨k + 1, by omega, by go_num, E, rfl, _, rfl⟩
        · have E := Lib.hid (intsB_no hlt hlb (by rw [← X.out, ← Y.out]; exact he))
          have he2 : (x != y) = true := by simpa using he
          clear he
          go_wp2
          go_quiet (fail)
          go_wp2
          go_ret
          exact ⟨by rw [E.out]; rfl, below_drewN (below_drewN (Below.refl _ _) _) _⟩
      · obtain rfl : k = a.length := by omega
        have E := Lib.hid (show intsB a b = true by have := hS.out; rw [List.take_length, HL.out, List.take_length] at this; rw [intsB, this]; simp)
        clear hS
        go_wp2
        go_ret
        exact ⟨by rw [E.out]; rfl, below_drewN (Below.refl _ _) _⟩
  · have HL := Lib.hid (show intsB a b = false by rw [intsB, decide_eq_false_iff_not]; rintro rfl; exact hlen rfl)
    have hl2 : ((a.length : Int) != (b.length : Int)) = true := by simp; omega
    clear hlen
    go_enter Tryd.func6, Tryd.ntmps6
    go_wp2
    go_ret
    exact ⟨by rw [HL.out]; rfl, Below.refl _ _⟩

end Go.Proofs.YtkpmddlinlcobaaDoor
