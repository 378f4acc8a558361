/- Contracts of what rule.Check leans on: cmp.Compare, cmp.Or, rule.freq, rule.within, rule.rises, rule.order, slices.ContainsFunc with the rule's own closures. No condition. -/
import Derived.Test.YtkpmddlinlcobaaDoorSl
import Derived.Test.YtkpmddlinlcobaaDoorDayB
import Derived.Deep.LoopGhost
import Derived.Deep.QuietTactic
import Derived.Deep.RegionHeld3
import Derived.BigQuiet
import Derived.IntWalk
namespace Go.Proofs.YtkpmddlinlcobaaDoor
open Go.RowKit

/-- how one number stands to another. -/
def cmpI (a b : Int) : Int := if a < b then -1 else if b < a then 1 else 0

theorem cmp_any (a b : Int) (w : World) :
    Calls Tryd.prog 39 #[.int .i64 a, .int .i64 b] w fun e w' => e = .returned (.int .i64 (cmpI a b)) ∧ w = w' := by
  by_cases h : a < b
  · have E := Lib.hid (show cmpI a b = -1 by rw [cmpI, if_pos h])
    go_enter Tryd.func39, Tryd.ntmps39
    go_wp2
    go_ret
    exact ⟨by rw [E.out]; rfl, rfl⟩
  · by_cases h2 : b < a
    · have E := Lib.hid (show cmpI a b = 1 by rw [cmpI, if_neg h, if_pos h2])
      go_enter Tryd.func39, Tryd.ntmps39
      go_wp2
      go_ret
      exact ⟨by rw [E.out]; rfl, rfl⟩
    · have E := Lib.hid (show cmpI a b = 0 by rw [cmpI, if_neg h, if_neg h2])
      go_enter Tryd.func39, Tryd.ntmps39
      go_wp2
      go_ret
      exact ⟨by rw [E.out]; rfl, rfl⟩

/-- is a number one of how often a rule goes? -/
def freqB (n : Int) : Bool := decide (1 ≤ n) && decide (n ≤ 4)

theorem freq_any (n : Int) (w : World) :
    Calls Tryd.prog 35 #[.int .i64 n] w fun e w' => e = .returned (.bool (freqB n)) ∧ w = w' := by
  by_cases h1 : 1 ≤ n
  · by_cases h2 : n ≤ 4
    · go_enter Tryd.func35, Tryd.ntmps35
      go_wp2
      go_ret
      exact ⟨ret_bool (by simp [freqB, h1, h2]), rfl⟩
    · go_enter Tryd.func35, Tryd.ntmps35
      go_wp2
      go_ret
      exact ⟨ret_bool (by simp [freqB]; omega), rfl⟩
  · go_enter Tryd.func35, Tryd.ntmps35
    go_wp2
    go_ret
    exact ⟨ret_bool (by simp [freqB]; omega), rfl⟩

theorem any_yes {α : Type} {p : α → Bool} {L : List α} {k : Nat} (h : k < L.length) (hp : p L[k] = true) : L.any p = true := List.any_eq_true.2 ⟨_, List.getElem_mem h, hp⟩

theorem any_no {α : Type} {p : α → Bool} {L : List α} {k : Nat} (h : k < L.length) (hk : (L.take k).any p = false) (hp : p L[k] = false) : (L.take (k + 1)).any p = false := by
  rw [List.take_succ_eq_append_getElem h, List.any_append, hk]; simp [hp]

/-- A place is told that is one, or none. -/
def IdxSays (b : Bool) (w : World) (e : Ending) (w' : World) : Prop := ∃ r : Int, e = .returned (.int .i64 r) ∧ decide (0 ≤ r) = b ∧ Below w.heap.size w w'

/-- is a number out of bounds, or 0? -/
def outB (lo hi n : Int) : Bool := n == 0 || decide (n < lo) || decide (hi < n)

theorem within1_any (n lo hi : Int) (b1 b2 : Nat) (w : World) (c1 : w.cell? ⟨b1, 0, none⟩ = some (.int .i64 lo)) (c2 : w.cell? ⟨b2, 0, none⟩ = some (.int .i64 hi)) :
    Calls Tryd.prog 53 #[.int .i64 n, .pointer (some ⟨b1, 0, none⟩), .pointer (some ⟨b2, 0, none⟩)] w fun e w' => e = .returned (.bool (outB lo hi n)) ∧ w = w' := by
  by_cases h0 : n = 0
  · have E := Lib.hid (show outB lo hi n = true by simp [outB, h0])
    have h2 : (n == 0) = true := by simpa using h0
    clear h0
    go_enter Tryd.func53, Tryd.ntmps53
    go_wp2
    go_ret
    exact ⟨by rw [E.out]; rfl, rfl⟩
  · have h2 : (n == 0) = false := by simpa using h0
    by_cases h3 : n < lo
    · have E := Lib.hid (show outB lo hi n = true by simp [outB, h3])
      clear h0
      go_enter Tryd.func53, Tryd.ntmps53
      go_wp2
      go_ret
      exact ⟨by rw [E.out]; rfl, rfl⟩
    · by_cases h4 : hi < n
      · have E := Lib.hid (show outB lo hi n = true by simp [outB, h4])
        clear h0
        go_enter Tryd.func53, Tryd.ntmps53
        go_wp2
        go_ret
        exact ⟨by rw [E.out]; rfl, rfl⟩
      · have E := Lib.hid (show outB lo hi n = false by simp [outB, h0]; omega)
        clear h0
        go_enter Tryd.func53, Tryd.ntmps53
        go_wp2
        go_ret
        exact ⟨by rw [E.out]; rfl, rfl⟩

theorem idxIn_any (v : Value) (L : List Int) (lo hi : Int) (b1 b2 : Nat) (w : World) (hL : IntsR w v L) (c1 : w.cell? ⟨b1, 0, none⟩ = some (.int .i64 lo)) (c2 : w.cell? ⟨b2, 0, none⟩ = some (.int .i64 hi)) :
    Calls Tryd.prog 42 #[v, .func (.func 53) #[] #[.pointer (some ⟨b1, 0, none⟩), .pointer (some ⟨b2, 0, none⟩)]] w (IdxSays (L.any (outB lo hi)) w) := by
  obtain ⟨a, cap, rfl, hc1, hc2, hcell⟩ := intsR_open hL
  unfold maxLen at hc2
  have HC := Lib.hid hcell; clear hcell hL
  have C1 := Lib.hid c1; have C2 := Lib.hid c2; clear c1 c2
  go_enter Tryd.func42, Tryd.ntmps42
  go_wp2
  go_loopg [8] L.length (fun g i wr => ∃ k : Nat, k ≤ L.length ∧ i = .int .i64 k ∧ Hid ((L.take k).any (outB lo hi) = false) ∧ g = L.length - k ∧ wr = w)
  case atStart => exact ⟨0, Nat.zero_le _, rfl, Lib.hid (by simp), rfl, rfl⟩
  case round =>
    obtain ⟨k, hk, rfl, hS, hg, rfl⟩ := hrel
    have G := Lib.hid hg; clear hg
    by_cases hlt : k < L.length
    · obtain ⟨b, off, rfl, hcs⟩ := HC.out (by omega)
      have c0 := hcs k hlt
      obtain ⟨x, hx⟩ : ∃ x, x = L[k] := ⟨_, rfl⟩
      rw [← hx] at c0
      have X := Lib.hid hx; clear hx hcs
      by_cases he : outB lo hi x = true
      · have E := Lib.hid (any_yes (p := outB lo hi) hlt (by rw [← X.out]; exact he))
        have V := Lib.hid he
        clear he
        go_wp2_with fail
        refine (within1_any x lo hi b1 b2 _ C1.out C2.out).mono ?_; rintro e w' ⟨rfl, rfl⟩
        rw [V.out]
        go_wp2
        go_ret
        exact ⟨k, rfl, by rw [E.out]; simp, Below.refl _ _⟩
      · have he' : outB lo hi x = false := by simpa using he
        have E := Lib.hid (any_no (p := outB lo hi) hlt hS.out (by rw [← X.out]; exact he'))
        have V := Lib.hid he'
        clear he he'
        go_wp2_with fail
        refine (within1_any x lo hi b1 b2 _ C1.out C2.out).mono ?_; rintro e w' ⟨rfl, rfl⟩
        rw [V.out]
        go_wp2
        go_roundg (L.length - (k + 1))
        case measure => rw [G.out]; omega
        case rel => exact ⟨k + 1, by omega, by go_num, E, rfl, rfl⟩
    · obtain rfl : k = L.length := by omega
      have E := Lib.hid (show L.any (outB lo hi) = false by have := hS.out; rwa [List.take_length] at this)
      clear hS
      go_wp2
      go_ret
      exact ⟨-1, rfl, by rw [E.out]; simp, Below.refl _ _⟩

theorem contIn_any (v : Value) (L : List Int) (lo hi : Int) (b1 b2 : Nat) (w : World) (hL : IntsR w v L) (c1 : w.cell? ⟨b1, 0, none⟩ = some (.int .i64 lo)) (c2 : w.cell? ⟨b2, 0, none⟩ = some (.int .i64 hi)) :
    Calls Tryd.prog 16 #[v, .func (.func 53) #[] #[.pointer (some ⟨b1, 0, none⟩), .pointer (some ⟨b2, 0, none⟩)]] w fun e w' => e = .returned (.bool (L.any (outB lo hi))) ∧ Below w.heap.size w w' := by
  go_enter Tryd.func16, Tryd.ntmps16
  go_wp2_with fail
  refine (idxIn_any v L lo hi b1 b2 _ hL c1 c2).mono ?_
  rintro e w1 ⟨r, rfl, hr, hb⟩
  have R := Lib.hid hr; clear hr c1 c2
  go_wp2
  go_ret
  exact ⟨ret_bool R.out, hb⟩

/-- are all numbers from one to another one, and none 0? -/
def withinB (lo hi : Int) (L : List Int) : Bool := !L.any (outB lo hi)

theorem within_any (v : Value) (L : List Int) (lo hi : Int) (w : World) (hL : IntsR w v L) :
    Calls Tryd.prog 37 #[v, .int .i64 lo, .int .i64 hi] w fun e w' => e = .returned (.bool (withinB lo hi L)) ∧ Below w.heap.size w w' := by
  have hb : Below w.heap.size w ((w.alloc (.cells #[.int .i64 lo] 3)).alloc (.cells #[.int .i64 hi] 3)) := ((Below.refl _ _).alloc (Nat.le_refl _) _).alloc (by simp) _
  obtain ⟨b, hbq⟩ : ∃ b, b = L.any (outB lo hi) := ⟨_, rfl⟩
  have BQ := Lib.hid hbq; clear hbq
  go_enter Tryd.func37, Tryd.ntmps37
  go_wp2_with fail
  refine (contIn_any v L lo hi w.heap.size (w.heap.size + 1) _ (hL.below hb) (by simp) (by simp)).mono ?_
  rintro e w1 ⟨rfl, hb1⟩
  rw [← BQ.out]
  have B := Lib.hid (hb.trans (hb1.mono (by simp; omega))); clear hb hb1
  go_wp2
  go_ret
  exact ⟨ret_bool (by rw [withinB, ← BQ.out]), B.out⟩

end Go.Proofs.YtkpmddlinlcobaaDoor
