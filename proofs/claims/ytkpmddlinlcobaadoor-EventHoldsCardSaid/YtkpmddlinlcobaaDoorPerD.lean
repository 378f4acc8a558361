/- Contracts: slices.Contains at []int, slices.ContainsFunc at the closure of period.days. No condition. (printed by gen_perd.py) -/
import Derived.Test.YtkpmddlinlcobaaDoorRuleA
import Derived.Test.YtkpmddlinlcobaaDoorLists
namespace Go.Proofs.YtkpmddlinlcobaaDoor
open Go.RowKit
set_option linter.unusedSimpArgs false

theorem sidx_any (v : Value) (L : List Int) (n : Int) (w : World) (hL : IntsR w v L) :
    Calls Tryd.prog 51 #[v, .int .i64 n] w (IdxSays (inB L n) w) := by
  obtain ⟨a, cap, rfl, hc1, hc2, hcell⟩ := intsR_open hL
  unfold maxLen at hc2
  have HC := Lib.hid hcell; clear hcell hL
  go_enter Tryd.func51, Tryd.ntmps51
  go_wp2
  go_loopg [8] L.length (fun g i wr => ∃ k : Nat, k ≤ L.length ∧ i = .int .i64 k ∧ Hid (inB (L.take k) n = false) ∧ g = L.length - k ∧ wr = w)
  case atStart => exact ⟨0, Nat.zero_le _, rfl, Lib.hid (by simp [inB]), rfl, rfl⟩
  case round =>
    obtain ⟨k, hk, rfl, hS, hg, rfl⟩ := hrel
    have G := Lib.hid hg; clear hg
    by_cases hlt : k < L.length
    · obtain ⟨b, off, rfl, hcs⟩ := HC.out (by omega)
      have c0 := hcs k hlt
      obtain ⟨x, hx⟩ : ∃ x, x = L[k] := ⟨_, rfl⟩
      rw [← hx] at c0
      have X := Lib.hid hx; clear hx hcs
      by_cases he : x = n
      · have E := Lib.hid (inB_snoc_yes (n := n) hlt (by rw [← X.out]; exact he))
        have he2 : (n == x) = true := by simpa using he.symm
        clear he
        go_wp2
        go_ret
        exact ⟨k, rfl, by rw [E.out]; simp, Below.refl _ _⟩
      · have E := Lib.hid (inB_snoc_no (n := n) hlt (by rw [← X.out]; exact he) hS.out)
        have he2 : (n == x) = false := by simpa using fun h => he h.symm
        clear he
        go_wp2
        go_roundg (L.length - (k + 1))
        case measure => rw [G.out]; omega
        case rel => exact ⟨k + 1, by omega, by go_num, E, rfl, rfl⟩
    · obtain rfl : k = L.length := by omega
      have E := Lib.hid (show inB L n = false by have := hS.out; rwa [List.take_length] at this)
      clear hS
      go_wp2
      go_ret
      exact ⟨-1, rfl, by rw [E.out]; simp, Below.refl _ _⟩

theorem scont_any (v : Value) (L : List Int) (n : Int) (w : World) (hL : IntsR w v L) :
    Calls Tryd.prog 29 #[v, .int .i64 n] w fun e w' => e = .returned (.bool (inB L n)) ∧ Below w.heap.size w w' := by
  go_enter Tryd.func29, Tryd.ntmps29
  go_wp2_with fail
  refine (sidx_any v L n _ hL).mono ?_
  rintro e w1 ⟨r, rfl, hr, hb⟩
  have R := Lib.hid hr; clear hr
  go_wp2
  go_ret
  exact ⟨ret_bool R.out, hb⟩

/-- does a wish for a weekday fit a day's place in its month (from its beginning, from its end)? -/
def nthP (a1 a2 b1 b2 : Int) (s : Int × Int) : Bool := (s.1 == a1 && s.2 == a2) || (s.1 == b1 && s.2 == b2) || (s.1 == 0 && s.2 == a2)

/-- two places in their month lie in two blocks. -/
def Nths (w : World) (p q : Nat) (a1 a2 b1 b2 : Int) : Prop := (w.cell? ⟨p, 0, none⟩ = some (.int .i64 a1) ∧ w.cell? ⟨p, 1, none⟩ = some (.int .i64 a2)) ∧ w.cell? ⟨q, 0, none⟩ = some (.int .i64 b1) ∧ w.cell? ⟨q, 1, none⟩ = some (.int .i64 b2)

theorem Nths.below {w w' : World} {p q : Nat} {a1 a2 b1 b2 : Int} (h : Nths w p q a1 a2 b1 b2) (hb : Below w.heap.size w w') : Nths w' p q a1 a2 b1 b2 :=
  ⟨⟨cell_below hb h.1.1, cell_below hb h.1.2⟩, cell_below hb h.2.1, cell_below hb h.2.2⟩

theorem Nths.lt {w : World} {p q : Nat} {a1 a2 b1 b2 : Int} (h : Nths w p q a1 a2 b1 b2) : p < w.heap.size ∧ q < w.heap.size := ⟨World.block_lt_of_cell? w _ h.1.1, World.block_lt_of_cell? w _ h.2.1⟩

set_option maxHeartbeats 1000000 in
theorem fits_any (x y a1 a2 b1 b2 : Int) (p q : Nat) (w : World) (h : Nths w p q a1 a2 b1 b2) :
    Calls Tryd.prog 76 #[.agg #[.int .i64 x, .int .i64 y], .pointer (some ⟨p, 0, none⟩), .pointer (some ⟨q, 0, none⟩)] w fun e w' => e = .returned (.bool (nthP a1 a2 b1 b2 (x, y))) ∧ Below w.heap.size w w' := by
  obtain ⟨l1, l2⟩ := h.lt
  obtain ⟨⟨c0, c1⟩, c2, c3⟩ := h
  go_enter Tryd.func76, Tryd.ntmps76
  go_wp2
  all_goals
    go_ret
    exact ⟨ret_bool (by simp_all [nthP]), (Below.refl _ _).alloc (Nat.le_refl _) _⟩

theorem idxP_any (v : Value) (L : List (Int × Int)) (a1 a2 b1 b2 : Int) (p q : Nat) (w : World) (hL : PairsR w v L) (hn : Nths w p q a1 a2 b1 b2) :
    Calls Tryd.prog 52 #[v, .func (.func 76) #[] #[.pointer (some ⟨p, 0, none⟩), .pointer (some ⟨q, 0, none⟩)]] w (IdxSays (L.any (nthP a1 a2 b1 b2)) w) := by
  obtain ⟨a, cap, rfl, hc1, hc2, hcell⟩ := pairsR_open hL
  unfold maxLen at hc2
  have HC := Lib.hid hcell; clear hcell hL
  have HN := Lib.hid hn; clear hn
  go_enter Tryd.func52, Tryd.ntmps52
  go_wp2
  go_loopg [8] L.length (fun g i wr => ∃ k : Nat, k ≤ L.length ∧ i = .int .i64 k ∧ Hid ((L.take k).any (nthP a1 a2 b1 b2) = false) ∧ g = L.length - k ∧ Below w.heap.size w wr)
  case atStart => exact ⟨0, Nat.zero_le _, rfl, Lib.hid (by simp), rfl, Below.refl _ _⟩
  case round =>
    obtain ⟨k, hk, rfl, hS, hg, hb⟩ := hrel
    have G := Lib.hid hg; clear hg
    have B := Lib.hid hb
    by_cases hlt : k < L.length
    · obtain ⟨b, off, rfl, hcs⟩ := HC.out (by omega)
      have c0 := cell_below hb (hcs k hlt).1
      have c1 := cell_below hb (hcs k hlt).2
      obtain ⟨x, hx⟩ : ∃ x, x = L[k].1 := ⟨_, rfl⟩
      obtain ⟨y, hy⟩ : ∃ y, y = L[k].2 := ⟨_, rfl⟩
      rw [← hx] at c0; rw [← hy] at c1
      have XY := Lib.hid (show L[k] = (x, y) by rw [hx, hy])
      have HN2 := Lib.hid (HN.out.below hb)
      clear hx hy hcs hb
      by_cases he : nthP a1 a2 b1 b2 (x, y) = true
      · have E := Lib.hid (any_yes (p := nthP a1 a2 b1 b2) hlt (by rw [XY.out]; exact he))
        have V := Lib.hid he
        clear he
        go_wp2_with fail
        refine (fits_any x y a1 a2 b1 b2 p q _ HN2.out).mono ?_; rintro e w2 ⟨rfl, hb2⟩
        rw [V.out]
        have B2 := Lib.hid (B.out.trans (hb2.mono B.out.size)); clear hb2
        go_wp2
        go_ret
        exact ⟨k, rfl, by rw [E.out]; simp, B2.out⟩
      · have he' : nthP a1 a2 b1 b2 (x, y) = false := by simpa using he
        have E := Lib.hid (any_no (p := nthP a1 a2 b1 b2) hlt hS.out (by rw [XY.out]; exact he'))
        have V := Lib.hid he'
        clear he he'
        go_wp2_with fail
        refine (fits_any x y a1 a2 b1 b2 p q _ HN2.out).mono ?_; rintro e w2 ⟨rfl, hb2⟩
        rw [V.out]
        have B2 := Lib.hid (B.out.trans (hb2.mono B.out.size)); clear hb2
        go_wp2
        go_roundg (L.length - (k + 1))
        case measure => rw [G.out]; omega
        case rel => exact ⟨k + 1, by omega, by go_num, E, rfl, B2.out⟩
    · obtain rfl : k = L.length := by omega
      have E := Lib.hid (show L.any (nthP a1 a2 b1 b2) = false by have := hS.out; rwa [List.take_length] at this)
      clear hS hb
      go_wp2
      go_ret
      exact ⟨-1, rfl, by rw [E.out]; simp, B.out⟩

theorem contP_any (v : Value) (L : List (Int × Int)) (a1 a2 b1 b2 : Int) (p q : Nat) (w : World) (hL : PairsR w v L) (hn : Nths w p q a1 a2 b1 b2) :
    Calls Tryd.prog 32 #[v, .func (.func 76) #[] #[.pointer (some ⟨p, 0, none⟩), .pointer (some ⟨q, 0, none⟩)]] w fun e w' => e = .returned (.bool (L.any (nthP a1 a2 b1 b2))) ∧ Below w.heap.size w w' := by
  go_enter Tryd.func32, Tryd.ntmps32
  go_wp2_with fail
  refine (idxP_any v L a1 a2 b1 b2 p q _ hL hn).mono ?_
  rintro e w1 ⟨r, rfl, hr, hb⟩
  have R := Lib.hid hr; clear hr
  go_wp2
  go_ret
  exact ⟨ret_bool R.out, hb⟩

end Go.Proofs.YtkpmddlinlcobaaDoor
