/- The references of what is taken: chimeref2.Busy, Slot, Free (its list by Norm's contract: XRefV), chimesame.Busies. -/
import Derived.Test.YtdkcgggnkhbkkaaDoorBusyD
import Derived.BigQuiet
namespace Go.Proofs.YtdkcgggnkhbkkaaDoor
open Go.RowKit
set_option linter.unusedSimpArgs false
set_option linter.unusedVariables false

theorem btime_any (t : Int) (w : World) :
    Calls Tryd.prog 24 #[.int .i64 t] w fun e w' => e = .returned (.bool (timeB t)) ∧ w = w' := by
  by_cases h : 1 ≤ t
  · by_cases h2 : t < 157785120
    · go_enter Tryd.func24, Tryd.ntmps24
      go_wp2
      go_ret
      exact ⟨ret_bool (timeB_mk h h2).symm, rfl⟩
    · go_enter Tryd.func24, Tryd.ntmps24
      go_wp2
      go_ret
      exact ⟨ret_bool (timeB_mk_no (by omega)).symm, rfl⟩
  · go_enter Tryd.func24, Tryd.ntmps24
    go_wp2
    go_ret
    exact ⟨ret_bool (timeB_mk_no (by omega)).symm, rfl⟩

set_option maxHeartbeats 4000000 in
theorem rbusy_any (v : Value) (L : List (Int × Int)) (w : World) (hL : PairsR w v L) :
    Calls Tryd.prog 18 #[v] w fun e w' => e = .returned (.int .i64 (busyE L)) ∧ Below w.heap.size w w' := by
  obtain ⟨a, cap, rfl, hc1, hc2, hcell⟩ := pairsR_open hL
  unfold maxLen at hc2
  by_cases hl : 200 < L.length
  · have e := Lib.hid (show busyE L = 4 by rw [busyE, if_pos hl])
    go_enter Tryd.func18, Tryd.ntmps18
    go_wp2
    go_ret
    exact ⟨by rw [e.out]; rfl, Below.refl _ _⟩
  have e := Lib.hid (show busyE L = bF L by rw [busyE, if_neg hl])
  have hcap : L.length ≤ 200 := by omega
  have CS := Lib.hid hcell
  clear hl hL hcell
  go_enter Tryd.func18, Tryd.ntmps18
  go_wp2
  go_loopg [3] L.length (fun g i wr => ∃ k : Nat, k ≤ L.length ∧ i = .int .i64 k ∧ Hid (bF (L.drop k) = bF L) ∧ g = L.length - k ∧ Below w.heap.size w wr)
  case atStart => exact ⟨0, Nat.zero_le _, rfl, Lib.hid (by simp), rfl, Below.refl _ _⟩
  case round =>
    obtain ⟨k, hk, rfl, hS, hg, hb⟩ := hrel
    have G := Lib.hid hg; clear hg
    by_cases hlt : k < L.length
    · obtain ⟨b, off, rfl, hcs⟩ := CS.out (by omega)
      have c0 := cell_below hb (hcs k hlt).1
      have c1 := cell_below hb (hcs k hlt).2
      have BW := Lib.hid hb
      clear hcs hb
      obtain ⟨x, hx⟩ : ∃ x, x = L[k].1 := ⟨_, rfl⟩
      obtain ⟨y, hy⟩ : ∃ y, y = L[k].2 := ⟨_, rfl⟩
      rw [← hx] at c0; rw [← hy] at c1
      have X := Lib.hid hx; have Y := Lib.hid hy; clear hx hy
      have i1 : (0 : Int) ≤ (k : Int) := Int.natCast_nonneg _
      have i2 : (k : Int) < (L.length : Int) := by omega
      by_cases t1 : timeB x = true
      · by_cases t2 : timeB y = true
        · by_cases t3 : y < x
          · have S2 := Lib.hid (bF_shape hlt (by rw [← X.out]; exact t1) (by rw [← Y.out]; exact t2) (by rw [← X.out, ← Y.out]; exact t3))
            go_wp2_with (go_at_call 24; refine (btime_any _ _).mono ?_; rintro e w' ⟨rfl, rfl⟩)
            go_quiet (fail)
            go_wp2
            go_ret
            exact ⟨by rw [e.out, ← hS.out, S2.out]; rfl, below_drewN BW.out _⟩
          · have S2 := Lib.hid (bF_next hlt (by rw [← X.out]; exact t1) (by rw [← Y.out]; exact t2) (by rw [← X.out, ← Y.out]; exact t3))
            go_wp2_with (go_at_call 24; refine (btime_any _ _).mono ?_; rintro e w' ⟨rfl, rfl⟩)
            go_quiet (fail)
            go_wp2
            go_roundg (L.length - (k + 1))
            case measure => rw [G.out]; omega
            case rel => exact ⟨k + 1, by omega, by go_num, Lib.hid (by rw [← S2.out]; exact hS.out), rfl, below_drewN BW.out _⟩
        · have t2' : timeB y = false := by simpa using t2
          have S2 := Lib.hid (bF_bad hlt (.inr (by rw [← Y.out]; exact t2')))
          clear t2
          go_wp2_with (go_at_call 24; refine (btime_any _ _).mono ?_; rintro e w' ⟨rfl, rfl⟩)
          go_ret
          exact ⟨by rw [e.out, ← hS.out, S2.out]; rfl, BW.out⟩
      · have t1' : timeB x = false := by simpa using t1
        have S2 := Lib.hid (bF_bad hlt (.inl (by rw [← X.out]; exact t1')))
        clear t1
        go_wp2_with (go_at_call 24; refine (btime_any _ _).mono ?_; rintro e w' ⟨rfl, rfl⟩)
        go_ret
        exact ⟨by rw [e.out, ← hS.out, S2.out]; rfl, BW.out⟩
    · obtain rfl : k = L.length := by omega
      have e2 := Lib.hid (show bF L = 0 by rw [← hS.out]; simp [bF])
      go_wp2
      go_ret
      exact ⟨by rw [e.out, e2.out]; rfl, hb⟩

set_option maxHeartbeats 4000000 in
theorem rslot_any (v : Value) (L : List (Int × Int)) (n : Int) (w : World) (hL : PairsR w v L) (hg : Good L) :
    Calls Tryd.prog 27 #[v, .int .i64 n] w fun e w' => e = .returned (.tuple #[.int .i64 (firstV n L), .int .i64 (firstE n L)]) ∧ Below w.heap.size w w' := by
  obtain ⟨a, cap, rfl, hc1, hc2, hcell⟩ := pairsR_open hL
  unfold maxLen at hc2
  have CS := Lib.hid hcell
  have GD := Lib.hid hg
  clear hcell hL hg
  by_cases h1 : n < 1
  · have E := Lib.hid (show firstE n L = 1 by rw [firstE, if_pos (.inl h1)])
    have V := Lib.hid (show firstV n L = 0 by rw [firstV, if_pos (.inl h1)])
    go_enter Tryd.func27, Tryd.ntmps27
    go_wp2
    go_ret2
    exact ⟨by rw [E.out, V.out]; rfl, Below.refl _ _⟩
  by_cases h2 : 1000000 < n
  · have E := Lib.hid (show firstE n L = 1 by rw [firstE, if_pos (.inr h2)])
    have V := Lib.hid (show firstV n L = 0 by rw [firstV, if_pos (.inr h2)])
    go_enter Tryd.func27, Tryd.ntmps27
    go_wp2
    go_ret2
    exact ⟨by rw [E.out, V.out]; rfl, Below.refl _ _⟩
  have HN := Lib.hid (show ¬ (n < 1 ∨ 1000000 < n) by omega)
  go_enter Tryd.func27, Tryd.ntmps27
  go_wp2
  go_loopg [6] L.length (fun g i wr => ∃ k : Nat, k ≤ L.length ∧ i = .int .i64 k ∧ Hid ((L.take k).any (fitB n) = false) ∧ g = L.length - k ∧ Below w.heap.size w wr)
  case atStart => exact ⟨0, Nat.zero_le _, rfl, Lib.hid (by simp), rfl, Below.refl _ _⟩
  case round =>
    obtain ⟨k, hk, rfl, hS, hg, hb⟩ := hrel
    have G := Lib.hid hg; clear hg
    have B := Lib.hid hb
    by_cases hlt : k < L.length
    · obtain ⟨b, off, rfl, hcs⟩ := CS.out (by omega)
      have c0 := cell_below hb (hcs k hlt).1
      have c1 := cell_below hb (hcs k hlt).2
      have hg := GD.out L[k] (List.getElem_mem hlt)
      obtain ⟨x, hx⟩ : ∃ x, x = L[k].1 := ⟨_, rfl⟩
      obtain ⟨y, hy⟩ : ∃ y, y = L[k].2 := ⟨_, rfl⟩
      rw [← hx, ← hy] at hg
      rw [← hx] at c0; rw [← hy] at c1
      have XY := Lib.hid (show L[k] = (x, y) by rw [hx, hy])
      clear hx hy hcs hb
      obtain ⟨g1, g2, g3⟩ := hg
      have i1 : (0 : Int) ≤ (k : Int) := Int.natCast_nonneg _
      have i2 : (k : Int) < (L.length : Int) := by omega
      have s1 : IntKind.i64.wrap (y - x) = y - x := IntWalk.i64_in _ (by omega)
      by_cases he : n ≤ y - x
      · have F := Lib.hid (find_yes (p := fitB n) hlt hS.out (by rw [XY.out, fitB]; simpa using he))
        have E := Lib.hid (show firstE n L = 0 by rw [firstE, if_neg HN.out, F.out]; rfl)
        have V := Lib.hid (show firstV n L = x by rw [firstV, if_neg HN.out, F.out, XY.out]; rfl)
        go_wp2
        go_quiet (fail)
        go_wp2
        go_ret2
        exact ⟨by rw [E.out, V.out]; rfl, below_drewN B.out _⟩
      · have E := Lib.hid (take_no (p := fitB n) hlt hS.out (by rw [XY.out, fitB]; simpa using he))
        go_wp2
        go_quiet (fail)
        go_wp2
        go_roundg (L.length - (k + 1))
        case measure => rw [G.out]; omega
        case rel => exact ⟨k + 1, by omega, by go_num, E, rfl, below_drewN B.out _⟩
    · obtain rfl : k = L.length := by omega
      have F := Lib.hid (show L.find? (fitB n) = none by
        have := hS.out; rw [List.take_length] at this
        exact List.find?_eq_none.2 fun x hx => by have := List.any_eq_false.1 this x hx; simpa using this)
      have E := Lib.hid (show firstE n L = 5 by rw [firstE, if_neg HN.out, F.out]; rfl)
      have V := Lib.hid (show firstV n L = 0 by rw [firstV, if_neg HN.out, F.out]; rfl)
      clear hS hb
      go_wp2
      go_ret2
      exact ⟨by rw [E.out, V.out]; rfl, B.out⟩

end Go.Proofs.YtdkcgggnkhbkkaaDoor
