/- Texts joined into one (a claim has at most 60 files): Contracts: slices.ContainsFunc at rule.Check's closures, rule.rises at int and at Nth, rule.order, cmp.Or; Contracts of chimeref1.In and chimesame.Ints at slices of integers; Contracts: slices.Contains at []int, slices.ContainsFunc at the closure of period.days. -/
import Derived.Test.YtgelojhpanbnaaaGreatDoorQ03
import Derived.Test.YtgelojhpanbnaaaGreatDoorQ01
import Derived.Deep.LoopGhost
import Derived.Deep.QuietTactic
import Derived.BigQuiet
import Derived.IntWalk
namespace Go.Proofs.YtgelojhpanbnaaaGreatDoor
open Go.RowKit
set_option linter.unusedSimpArgs false

def nth1B (s : Int × Int) : Bool := s.1 != 0

def nth2B (s : Int × Int) : Bool := decide (s.2 < 1) || decide (7 < s.2) || decide (s.1 < -5) || decide (5 < s.1)

theorem chk1_any (x y : Int) (w : World) :
    Calls Tryz.prog 132 #[.agg #[.int .i64 x, .int .i64 y]] w fun e w' => e = .returned (.bool (nth1B (x, y))) ∧ Below w.heap.size w w' := by
  go_enter Tryz.func132, Tryz.ntmps132
  go_wp2
  go_ret
  exact ⟨ret_bool (by simp [nth1B]), (Below.refl _ _).alloc (Nat.le_refl _) _⟩

theorem chk2_any (x y : Int) (w : World) :
    Calls Tryz.prog 133 #[.agg #[.int .i64 x, .int .i64 y]] w fun e w' => e = .returned (.bool (nth2B (x, y))) ∧ Below w.heap.size w w' := by
  by_cases h1 : y < 1
  · have E := Lib.hid (show nth2B (x, y) = true by simp [nth2B, h1])
    go_enter Tryz.func133, Tryz.ntmps133
    go_wp2
    go_ret
    exact ⟨by rw [E.out]; rfl, (Below.refl _ _).alloc (Nat.le_refl _) _⟩
  by_cases h2 : 7 < y
  · have E := Lib.hid (show nth2B (x, y) = true by simp [nth2B, h2])
    go_enter Tryz.func133, Tryz.ntmps133
    go_wp2
    go_ret
    exact ⟨by rw [E.out]; rfl, (Below.refl _ _).alloc (Nat.le_refl _) _⟩
  by_cases h3 : x < -5
  · have E := Lib.hid (show nth2B (x, y) = true by simp [nth2B, h3])
    go_enter Tryz.func133, Tryz.ntmps133
    go_wp2
    go_ret
    exact ⟨by rw [E.out]; rfl, (Below.refl _ _).alloc (Nat.le_refl _) _⟩
  by_cases h4 : 5 < x
  · have E := Lib.hid (show nth2B (x, y) = true by simp [nth2B, h4])
    go_enter Tryz.func133, Tryz.ntmps133
    go_wp2
    go_ret
    exact ⟨by rw [E.out]; rfl, (Below.refl _ _).alloc (Nat.le_refl _) _⟩
  · have E := Lib.hid (show nth2B (x, y) = false by simp [nth2B]; omega)
    go_enter Tryz.func133, Tryz.ntmps133
    go_wp2
    go_ret
    exact ⟨by rw [E.out]; rfl, (Below.refl _ _).alloc (Nat.le_refl _) _⟩

theorem idxN1_any (v : Value) (L : List (Int × Int)) (w : World) (hL : PairsR w v L) :
    Calls Tryz.prog 192 #[v, .func (.func 132) #[] #[]] w (IdxSays (L.any nth1B) w) := by
  obtain ⟨a, cap, rfl, hc1, hc2, hcell⟩ := pairsR_open hL
  unfold maxLen at hc2
  have HC := Lib.hid hcell; clear hcell hL
  go_enter Tryz.func192, Tryz.ntmps192
  go_wp2
  go_loopg [8] L.length (fun g i wr => ∃ k : Nat, k ≤ L.length ∧ i = .int .i64 k ∧ Hid ((L.take k).any nth1B = false) ∧ g = L.length - k ∧ Below w.heap.size w wr)
  case atStart => exact ⟨0, Nat.zero_le _, rfl, Lib.hid (by simp), rfl, Below.refl _ _⟩
  case round =>
    obtain ⟨k, hk, rfl, hS, hg, hb⟩ := hrel
    have G := Lib.hid hg; clear hg
    have B := Lib.hid hb
    by_cases hlt : k < L.length
    · obtain ⟨b, off, rfl, hcs⟩ := HC.out (by omega)
      have c0 := cell_below hb (hcs k hlt).1
      have c1 := cell_below hb (hcs k hlt).2
      obtain ⟨x, hx⟩ : ∃ x, x = L[k].1 := ⟨_, rfl⟩
      obtain ⟨y, hy⟩ : ∃ y, y = L[k].2 := ⟨_, rfl⟩
      rw [← hx] at c0; rw [← hy] at c1
      have XY := Lib.hid (show L[k] = (x, y) by rw [hx, hy])
      clear hx hy hcs hb
      by_cases he : nth1B (x, y) = true
      · have E := Lib.hid (any_yes (p := nth1B) hlt (by rw [XY.out]; exact he))
        have V := Lib.hid he
        clear he
        go_wp2_with fail
        refine (chk1_any x y _).mono ?_; rintro e w2 ⟨rfl, hb2⟩
        rw [V.out]
        have B2 := Lib.hid (B.out.trans (hb2.mono B.out.size)); clear hb2
        go_wp2
        go_ret
        exact ⟨k, rfl, by rw [E.out]; simp, B2.out⟩
      · have he' : nth1B (x, y) = false := by simpa using he
        have E := Lib.hid (any_no (p := nth1B) hlt hS.out (by rw [XY.out]; exact he'))
        have V := Lib.hid he'
        clear he he'
        go_wp2_with fail
        refine (chk1_any x y _).mono ?_; rintro e w2 ⟨rfl, hb2⟩
        rw [V.out]
        have B2 := Lib.hid (B.out.trans (hb2.mono B.out.size)); clear hb2
        go_wp2
        go_roundg (L.length - (k + 1))
        case measure => rw [G.out]; omega
        case rel => exact ⟨k + 1, by omega, by go_num, E, rfl, B2.out⟩
    · obtain rfl : k = L.length := by omega
      have E := Lib.hid (show L.any nth1B = false by have := hS.out; rwa [List.take_length] at this)
      clear hS hb
      go_wp2
      go_ret
      exact ⟨-1, rfl, by rw [E.out]; simp, B.out⟩

theorem contN1_any (v : Value) (L : List (Int × Int)) (w : World) (hL : PairsR w v L) :
    Calls Tryz.prog 131 #[v, .func (.func 132) #[] #[]] w fun e w' => e = .returned (.bool (L.any nth1B)) ∧ Below w.heap.size w w' := by
  go_enter Tryz.func131, Tryz.ntmps131
  go_wp2_with fail
  refine (idxN1_any v L _ hL).mono ?_
  rintro e w1 ⟨r, rfl, hr, hb⟩
  have R := Lib.hid hr; clear hr
  go_wp2
  go_ret
  exact ⟨ret_bool R.out, hb⟩

theorem idxN2_any (v : Value) (L : List (Int × Int)) (w : World) (hL : PairsR w v L) :
    Calls Tryz.prog 192 #[v, .func (.func 133) #[] #[]] w (IdxSays (L.any nth2B) w) := by
  obtain ⟨a, cap, rfl, hc1, hc2, hcell⟩ := pairsR_open hL
  unfold maxLen at hc2
  have HC := Lib.hid hcell; clear hcell hL
  go_enter Tryz.func192, Tryz.ntmps192
  go_wp2
  go_loopg [8] L.length (fun g i wr => ∃ k : Nat, k ≤ L.length ∧ i = .int .i64 k ∧ Hid ((L.take k).any nth2B = false) ∧ g = L.length - k ∧ Below w.heap.size w wr)
  case atStart => exact ⟨0, Nat.zero_le _, rfl, Lib.hid (by simp), rfl, Below.refl _ _⟩
  case round =>
    obtain ⟨k, hk, rfl, hS, hg, hb⟩ := hrel
    have G := Lib.hid hg; clear hg
    have B := Lib.hid hb
    by_cases hlt : k < L.length
    · obtain ⟨b, off, rfl, hcs⟩ := HC.out (by omega)
      have c0 := cell_below hb (hcs k hlt).1
      have c1 := cell_below hb (hcs k hlt).2
      obtain ⟨x, hx⟩ : ∃ x, x = L[k].1 := ⟨_, rfl⟩
      obtain ⟨y, hy⟩ : ∃ y, y = L[k].2 := ⟨_, rfl⟩
      rw [← hx] at c0; rw [← hy] at c1
      have XY := Lib.hid (show L[k] = (x, y) by rw [hx, hy])
      clear hx hy hcs hb
      by_cases he : nth2B (x, y) = true
      · have E := Lib.hid (any_yes (p := nth2B) hlt (by rw [XY.out]; exact he))
        have V := Lib.hid he
        clear he
        go_wp2_with fail
        refine (chk2_any x y _).mono ?_; rintro e w2 ⟨rfl, hb2⟩
        rw [V.out]
        have B2 := Lib.hid (B.out.trans (hb2.mono B.out.size)); clear hb2
        go_wp2
        go_ret
        exact ⟨k, rfl, by rw [E.out]; simp, B2.out⟩
      · have he' : nth2B (x, y) = false := by simpa using he
        have E := Lib.hid (any_no (p := nth2B) hlt hS.out (by rw [XY.out]; exact he'))
        have V := Lib.hid he'
        clear he he'
        go_wp2_with fail
        refine (chk2_any x y _).mono ?_; rintro e w2 ⟨rfl, hb2⟩
        rw [V.out]
        have B2 := Lib.hid (B.out.trans (hb2.mono B.out.size)); clear hb2
        go_wp2
        go_roundg (L.length - (k + 1))
        case measure => rw [G.out]; omega
        case rel => exact ⟨k + 1, by omega, by go_num, E, rfl, B2.out⟩
    · obtain rfl : k = L.length := by omega
      have E := Lib.hid (show L.any nth2B = false by have := hS.out; rwa [List.take_length] at this)
      clear hS hb
      go_wp2
      go_ret
      exact ⟨-1, rfl, by rw [E.out]; simp, B.out⟩

theorem contN2_any (v : Value) (L : List (Int × Int)) (w : World) (hL : PairsR w v L) :
    Calls Tryz.prog 131 #[v, .func (.func 133) #[] #[]] w fun e w' => e = .returned (.bool (L.any nth2B)) ∧ Below w.heap.size w w' := by
  go_enter Tryz.func131, Tryz.ntmps131
  go_wp2_with fail
  refine (idxN2_any v L _ hL).mono ?_
  rintro e w1 ⟨r, rfl, hr, hb⟩
  have R := Lib.hid hr; clear hr
  go_wp2
  go_ret
  exact ⟨ret_bool R.out, hb⟩

def orI (L : List Int) : Int := (L.find? fun x => x != 0).getD 0

theorem orI_yes {L : List Int} {k : Nat} (h : k < L.length) (hk : (L.take k).any (fun x => x != 0) = false) (hp : L[k] ≠ 0) : orI L = L[k] := by
  have e : L = L.take k ++ L[k] :: L.drop (k + 1) := by rw [← List.drop_eq_getElem_cons h, List.take_append_drop]
  have h1 : (L.take k).find? (fun x => x != 0) = none := by
    rw [List.find?_eq_none]; intro x hx hc
    exact absurd (List.any_eq_true.2 ⟨x, hx, hc⟩) (by rw [hk]; simp)
  rw [orI]
  conv => lhs; rw [e]
  rw [List.find?_append, h1, Option.none_or, List.find?_cons_of_pos (by simpa using hp)]
  rfl

theorem orI_no {L : List Int} (hk : L.any (fun x => x != 0) = false) : orI L = 0 := by
  have h1 : L.find? (fun x => x != 0) = none := by
    rw [List.find?_eq_none]; intro x hx hc
    exact absurd (List.any_eq_true.2 ⟨x, hx, hc⟩) (by rw [hk]; simp)
  rw [orI, h1]; rfl

theorem or_any (v : Value) (L : List Int) (w : World) (hL : IntsR w v L) :
    Calls Tryz.prog 100 #[v] w fun e w' => e = .returned (.int .i64 (orI L)) ∧ w = w' := by
  obtain ⟨a, cap, rfl, hc1, hc2, hcell⟩ := intsR_open hL
  unfold maxLen at hc2
  have HC := Lib.hid hcell; clear hcell hL
  go_enter Tryz.func100, Tryz.ntmps100
  go_wp2
  go_loopg [8] L.length (fun g i wr => ∃ k : Nat, k ≤ L.length ∧ i = .int .i64 k ∧ Hid ((L.take k).any (fun x => x != 0) = false) ∧ g = L.length - k ∧ wr = w)
  case atStart => exact ⟨0, Nat.zero_le _, rfl, Lib.hid (by simp), rfl, rfl⟩
  case round =>
    obtain ⟨k, hk, rfl, hS, hg, rfl⟩ := hrel
    have G := Lib.hid hg; clear hg
    by_cases hlt : k < L.length
    · obtain ⟨b, off, rfl, hcs⟩ := HC.out (by omega)
      have c0 := hcs k hlt
      obtain ⟨x, hx⟩ : ∃ x, x = L[k] := ⟨_, rfl⟩
      rw [← hx] at c0
      have X := Lib.hid hx; clear hx hcs
      by_cases he : x = 0
      · have E := Lib.hid (any_no (p := fun x => x != 0) hlt hS.out (by rw [← X.out, he]; rfl))
        have V : (x != 0) = false := by simpa using he
        clear he
        go_wp2
        go_roundg (L.length - (k + 1))
        case measure => rw [G.out]; omega
        case rel => exact ⟨k + 1, by omega, by go_num, E, rfl, rfl⟩
      · have E := Lib.hid (orI_yes hlt hS.out (by rw [← X.out]; exact he))
        have V : (x != 0) = true := by simpa using he
        clear he
        go_wp2
        go_ret
        exact ⟨by rw [E.out, ← X.out]; rfl, rfl⟩
    · obtain rfl : k = L.length := by omega
      have E := Lib.hid (orI_no (L := L) (by have := hS.out; rwa [List.take_length] at this))
      clear hS
      go_wp2
      go_ret
      exact ⟨by rw [E.out]; rfl, rfl⟩

def risesB (L : List Int) : Bool := decide (L.Pairwise (· < ·))

theorem pw_snoc {L : List Int} {k : Nat} (h : k < L.length) (h0 : 0 < k) (hp : (L.take k).Pairwise (· < ·)) (he : L[k - 1] < L[k]) : (L.take (k + 1)).Pairwise (· < ·) := by
  rw [List.take_succ_eq_append_getElem h, List.pairwise_append]
  refine ⟨hp, by simp, fun x hx y hy => ?_⟩
  obtain rfl : y = L[k] := by simpa using hy
  obtain ⟨i, hi, rfl⟩ := List.mem_take_iff_getElem.1 hx
  have hs := List.pairwise_iff_getElem.1 hp
  by_cases e : i = k - 1
  · subst e; exact he
  · have h2 := hs i (k - 1) (by simp; omega) (by simp; omega) (by omega)
    simp at h2
    omega

theorem risesB_no {L : List Int} {k : Nat} (h : k < L.length) (h0 : 0 < k) (he : L[k] ≤ L[k - 1]) : risesB L = false := by
  rw [risesB, decide_eq_false_iff_not]
  intro hp
  have := List.pairwise_iff_getElem.1 hp (k - 1) k (by omega) h (by omega)
  omega

theorem risesB_yes {L : List Int} (h : L.Pairwise (· < ·)) : risesB L = true := by rw [risesB, decide_eq_true_eq]; exact h

set_option maxHeartbeats 1000000 in
theorem rises_any (v : Value) (L : List Int) (w : World) (hL : IntsR w v L) :
    Calls Tryz.prog 137 #[v, .func (.func 101) #[] #[]] w fun e w' => e = .returned (.bool (risesB L)) ∧ Below w.heap.size w w' := by
  obtain ⟨a, cap, rfl, hc1, hc2, hcell⟩ := intsR_open hL
  unfold maxLen at hc2
  have HC := Lib.hid hcell; clear hcell hL
  go_enter Tryz.func137, Tryz.ntmps137
  go_wp2
  go_loopg [5] L.length (fun g i wr => ∃ k : Nat, 1 ≤ k ∧ k ≤ L.length + 1 ∧ i = .int .i64 k ∧ Hid ((L.take k).Pairwise (· < ·)) ∧ g = L.length + 1 - k ∧ Below w.heap.size w wr)
  case atStart => exact ⟨1, by omega, by omega, rfl, Lib.hid (by cases L <;> simp), by omega, Below.refl _ _⟩
  case round =>
    obtain ⟨k, hk1, hk, rfl, hS, hg, hb⟩ := hrel
    have G := Lib.hid hg; clear hg
    by_cases hlt : k < L.length
    · obtain ⟨b, off, rfl, hcs⟩ := HC.out (by omega)
      have hkm : k - 1 < L.length := by omega
      have c0 := cell_below hb (hcs k hlt)
      have d0 := cell_below hb (hcs (k - 1) hkm)
      obtain ⟨x, hx⟩ : ∃ x, x = L[k] := ⟨_, rfl⟩
      obtain ⟨p, hp⟩ : ∃ p, p = L[k - 1] := ⟨_, rfl⟩
      rw [← hx] at c0; rw [← hp] at d0
      have X := Lib.hid hx; have P := Lib.hid hp; have B := Lib.hid hb
      clear hx hp hcs hb
      have i1 : (0 : Int) ≤ (k : Int) := Int.natCast_nonneg _
      have i2 : (k : Int) < (L.length : Int) := by omega
      by_cases he : p < x
      · have E := Lib.hid (pw_snoc hlt (by omega) hS.out (by rw [← X.out, ← P.out]; exact he))
        have CM : cmpI p x = -1 := by rw [cmpI, if_pos he]
        go_wp2
        have s1 : IntKind.i64.wrap ((k : Int) - 1) = (k : Int) - 1 := IntWalk.i64_in _ (by omega)
        have s2 : (0 : Int) ≤ (k : Int) - 1 := by omega
        have s3 : (1 : Int) ≤ (k : Int) := by omega
        have s4 : ((k : Int) - 1).toNat = k - 1 := by omega
        have s5 : (k : Int) - 1 < (L.length : Int) := by omega
        go_quiet ((go_at_call 101; exact Calls.quiet_of_same ((cmp_any _ _ _).mono fun _ _ h => ⟨h.1, h.2.symm⟩)))
        clear s1 s2 s3 s4 s5
        go_wp2
        go_roundg (L.length + 1 - (k + 1))
        case measure => rw [G.out]; omega
        case rel => exact ⟨k + 1, by omega, by omega, by go_num, E, rfl, below_drewN B.out _⟩
      · have E := Lib.hid (risesB_no hlt (by omega) (by rw [← X.out, ← P.out]; omega))
        have hcm : cmpI p x = 0 ∨ cmpI p x = 1 := by rw [cmpI, if_neg he]; split <;> simp
        clear he
        rcases hcm with CM | CM
        all_goals
          go_wp2
          have s1 : IntKind.i64.wrap ((k : Int) - 1) = (k : Int) - 1 := IntWalk.i64_in _ (by omega)
          have s2 : (0 : Int) ≤ (k : Int) - 1 := by omega
          have s3 : (1 : Int) ≤ (k : Int) := by omega
          have s4 : ((k : Int) - 1).toNat = k - 1 := by omega
          have s5 : (k : Int) - 1 < (L.length : Int) := by omega
          go_quiet ((go_at_call 101; exact Calls.quiet_of_same ((cmp_any _ _ _).mono fun _ _ h => ⟨h.1, h.2.symm⟩)))
          clear s1 s2 s3 s4 s5
          go_wp2
          go_ret
          exact ⟨by rw [E.out]; rfl, below_drewN B.out _⟩
    · have E := Lib.hid (risesB_yes (L := L) (by have := hS.out; rwa [List.take_of_length_le (by omega)] at this))
      have B := Lib.hid hb
      have hge : ¬ (k : Int) < (L.length : Int) := by omega
      clear hS hb
      go_wp2
      go_ret
      exact ⟨by rw [E.out]; rfl, B.out⟩

def ordI (s t : Int × Int) : Int := orI [cmpI s.2 t.2, cmpI s.1 t.1]

set_option maxHeartbeats 1000000 in
theorem order_any (x y p q : Int) (w : World) :
    Calls Tryz.prog 139 #[.agg #[.int .i64 x, .int .i64 y], .agg #[.int .i64 p, .int .i64 q]] w fun e w' => e = .returned (.int .i64 (ordI (x, y) (p, q))) ∧ Below w.heap.size w w' := by
  obtain ⟨r, hr⟩ : ∃ r, r = ordI (x, y) (p, q) := ⟨_, rfl⟩
  have R := Lib.hid (show orI [cmpI y q, cmpI x p] = r by rw [hr]; rfl)
  rw [← hr]
  clear hr
  have hb0 : Below w.heap.size w ((w.alloc (.cells #[.int .i64 x, .int .i64 y] 198)).alloc (.cells #[.int .i64 p, .int .i64 q] 198)) := ((Below.refl _ _).alloc (Nat.le_refl _) _).alloc (by simp) _
  go_enter Tryz.func139, Tryz.ntmps139
  go_wp2_with fail
  obtain ⟨w0, hw0⟩ : ∃ w0, w0 = (w.alloc (.cells #[.int .i64 x, .int .i64 y] 198)).alloc (.cells #[.int .i64 p, .int .i64 q] 198) := ⟨_, rfl⟩
  rw [← hw0] at hb0 ⊢
  have c0 : w0.cell? ⟨w.heap.size, 0, none⟩ = some (.int .i64 x) := by rw [hw0]; simp
  have c1 : w0.cell? ⟨w.heap.size, 1, none⟩ = some (.int .i64 y) := by rw [hw0]; simp
  have d0 : w0.cell? ⟨w.heap.size + 1, 0, none⟩ = some (.int .i64 p) := by rw [hw0]; simp
  have d1 : w0.cell? ⟨w.heap.size + 1, 1, none⟩ = some (.int .i64 q) := by rw [hw0]; simp
  have B0 := Lib.hid hb0
  clear hw0 hb0
  go_region_held3 (fun w' => w'.cell? ⟨w.heap.size, 0, none⟩ = some (.int .i64 x) ∧ w'.cell? ⟨w.heap.size, 1, none⟩ = some (.int .i64 y) ∧ w'.cell? ⟨w.heap.size + 1, 0, none⟩ = some (.int .i64 p) ∧ w'.cell? ⟨w.heap.size + 1, 1, none⟩ = some (.int .i64 q))
    (go_keep)
    (first
      | (go_at_call 101; refine (cmp_any _ _ _).mono ?_; rintro e w' ⟨rfl, rfl⟩)
      | (go_at_call 100; refine (or_any _ [cmpI y q, cmpI x p] _ ⟨_, 2, rfl, by simp, by simp, by decide, fun _ => ⟨_, 0, rfl, fun j u hj => by match j, hj with | 0, hj => (simp at hj; subst hj; simp) | 1, hj => (simp at hj; subst hj; simp)⟩⟩).mono ?_; rintro e w' ⟨rfl, rfl⟩))
  all_goals
    go_wp2
    go_ret
    exact ⟨by rw [← R.out]; rfl, by first | exact (B0.out.drew).alloc B0.out.size _ | exact (B0.out.alloc B0.out.size _).drew⟩

def nthLt (s t : Int × Int) : Prop := s.2 < t.2 ∨ (s.2 = t.2 ∧ s.1 < t.1)

instance (s t : Int × Int) : Decidable (nthLt s t) := inferInstanceAs (Decidable (_ ∨ _))

theorem ordI_lt (s t : Int × Int) : ordI s t < 0 ↔ nthLt s t := by
  unfold ordI orI nthLt cmpI
  by_cases h1 : s.2 < t.2
  · simp [h1]
  · by_cases h2 : t.2 < s.2
    · simp [h1, h2]; omega
    · have e : s.2 = t.2 := by omega
      by_cases h3 : s.1 < t.1
      · simp [h1, h2, h3, e]
      · by_cases h4 : t.1 < s.1
        · simp [h1, h2, h3, h4, e]
        · simp [h1, h2, h3, h4, e]

def risesNB (L : List (Int × Int)) : Bool := decide (L.Pairwise nthLt)

theorem nthLt_trans {a b c : Int × Int} (h1 : nthLt a b) (h2 : nthLt b c) : nthLt a c := by unfold nthLt at *; omega

theorem pwN_snoc {L : List (Int × Int)} {k : Nat} (h : k < L.length) (h0 : 0 < k) (hp : (L.take k).Pairwise nthLt) (he : nthLt L[k - 1] L[k]) : (L.take (k + 1)).Pairwise nthLt := by
  rw [List.take_succ_eq_append_getElem h, List.pairwise_append]
  refine ⟨hp, by simp, fun x hx y hy => ?_⟩
  obtain rfl : y = L[k] := by simpa using hy
  obtain ⟨i, hi, rfl⟩ := List.mem_take_iff_getElem.1 hx
  have hs := List.pairwise_iff_getElem.1 hp
  by_cases e : i = k - 1
  · subst e; exact he
  · have h2 := hs i (k - 1) (by simp; omega) (by simp; omega) (by omega)
    simp at h2
    exact nthLt_trans h2 he

theorem risesNB_no {L : List (Int × Int)} {k : Nat} (h : k < L.length) (h0 : 0 < k) (he : ¬ nthLt L[k - 1] L[k]) : risesNB L = false := by
  rw [risesNB, decide_eq_false_iff_not]
  intro hp
  exact he (List.pairwise_iff_getElem.1 hp (k - 1) k (by omega) h (by omega))

theorem risesNB_yes {L : List (Int × Int)} (h : L.Pairwise nthLt) : risesNB L = true := by rw [risesNB, decide_eq_true_eq]; exact h

set_option maxHeartbeats 4000000 in
theorem risesN_any (v : Value) (L : List (Int × Int)) (w : World) (hL : PairsR w v L) :
    Calls Tryz.prog 138 #[v, .func (.func 139) #[] #[]] w fun e w' => e = .returned (.bool (risesNB L)) ∧ Below w.heap.size w w' := by
  obtain ⟨a, cap, rfl, hc1, hc2, hcell⟩ := pairsR_open hL
  unfold maxLen at hc2
  have HC := Lib.hid hcell; clear hcell hL
  go_enter Tryz.func138, Tryz.ntmps138
  go_wp2
  go_loopg [5] L.length (fun g i wr => ∃ k : Nat, 1 ≤ k ∧ k ≤ L.length + 1 ∧ i = .int .i64 k ∧ Hid ((L.take k).Pairwise nthLt) ∧ g = L.length + 1 - k ∧ Below w.heap.size w wr)
  case atStart => exact ⟨1, by omega, by omega, rfl, Lib.hid (by cases L <;> simp), by omega, Below.refl _ _⟩
  case round =>
    obtain ⟨k, hk1, hk, rfl, hS, hg, hb⟩ := hrel
    have G := Lib.hid hg; clear hg
    by_cases hlt : k < L.length
    · obtain ⟨b, off, rfl, hcs⟩ := HC.out (by omega)
      have hkm : k - 1 < L.length := by omega
      have c0 := cell_below hb (hcs k hlt).1
      have c1 := cell_below hb (hcs k hlt).2
      have d0 := cell_below hb (hcs (k - 1) hkm).1
      have d1 := cell_below hb (hcs (k - 1) hkm).2
      obtain ⟨x, hx⟩ : ∃ x, x = L[k].1 := ⟨_, rfl⟩
      obtain ⟨y, hy⟩ : ∃ y, y = L[k].2 := ⟨_, rfl⟩
      obtain ⟨p, hp⟩ : ∃ p, p = L[k - 1].1 := ⟨_, rfl⟩
      obtain ⟨q, hq⟩ : ∃ q, q = L[k - 1].2 := ⟨_, rfl⟩
      rw [← hx] at c0; rw [← hy] at c1; rw [← hp] at d0; rw [← hq] at d1
      have X := Lib.hid (show L[k] = (x, y) by rw [hx, hy]); have P := Lib.hid (show L[k - 1] = (p, q) by rw [hp, hq]); have B := Lib.hid hb
      have hbl : b < wr.heap.size := World.block_lt_of_cell? wr _ c0
      clear hx hy hp hq hcs hb
      have i1 : (0 : Int) ≤ (k : Int) := Int.natCast_nonneg _
      have i2 : (k : Int) < (L.length : Int) := by omega
      obtain ⟨o, ho⟩ : ∃ o, o = ordI (p, q) (x, y) := ⟨_, rfl⟩
      have OI := Lib.hid ho
      have OL := Lib.hid (ordI_lt (p, q) (x, y))
      clear ho
      by_cases he : o < 0
      · have E := Lib.hid (pwN_snoc hlt (by omega) hS.out (by rw [X.out, P.out]; exact OL.out.1 (by rw [← OI.out]; exact he)))
        go_wp2_with fail
        have s1 : IntKind.i64.wrap ((k : Int) - 1) = (k : Int) - 1 := IntWalk.i64_in _ (by omega)
        have s2 : (0 : Int) ≤ (k : Int) - 1 := by omega
        have s3 : (1 : Int) ≤ (k : Int) := by omega
        have s4 : ((k : Int) - 1).toNat = k - 1 := by omega
        have s5 : (k : Int) - 1 < (L.length : Int) := by omega
        go_region_held3 (fun w' => w'.cell? ⟨b, off + k * 2, none⟩ = some (.int .i64 x) ∧ w'.cell? ⟨b, off + k * 2 + 1, none⟩ = some (.int .i64 y) ∧ w'.cell? ⟨b, off + (k - 1) * 2, none⟩ = some (.int .i64 p) ∧ w'.cell? ⟨b, off + (k - 1) * 2 + 1, none⟩ = some (.int .i64 q))
          (first | go_keep | (go_split_ands; refine ⟨?_, ?_, ?_, ?_⟩ <;> (exact cell_below hb4 (by assumption))))
          ((go_at_call 139; refine (order_any p q x y _).mono ?_; rintro e w4 ⟨rfl, hb4⟩))
        clear s1 s2 s3 s4 s5
        rw [← OI.out]
        have B4 := Lib.hid ((B.out.drew).trans (hb4.mono B.out.size))
        clear hb4
        go_wp2
        go_roundg (L.length + 1 - (k + 1))
        case measure => rw [G.out]; omega
        case rel => exact ⟨k + 1, by omega, by omega, by go_num, E, rfl, B4.out⟩
      · have E := Lib.hid (risesNB_no hlt (by omega) (by rw [X.out, P.out]; intro h; exact he (by rw [OI.out]; exact OL.out.2 h)))
        go_wp2_with fail
        have s1 : IntKind.i64.wrap ((k : Int) - 1) = (k : Int) - 1 := IntWalk.i64_in _ (by omega)
        have s2 : (0 : Int) ≤ (k : Int) - 1 := by omega
        have s3 : (1 : Int) ≤ (k : Int) := by omega
        have s4 : ((k : Int) - 1).toNat = k - 1 := by omega
        have s5 : (k : Int) - 1 < (L.length : Int) := by omega
        go_region_held3 (fun w' => w'.cell? ⟨b, off + k * 2, none⟩ = some (.int .i64 x) ∧ w'.cell? ⟨b, off + k * 2 + 1, none⟩ = some (.int .i64 y) ∧ w'.cell? ⟨b, off + (k - 1) * 2, none⟩ = some (.int .i64 p) ∧ w'.cell? ⟨b, off + (k - 1) * 2 + 1, none⟩ = some (.int .i64 q))
          (first | go_keep | (go_split_ands; refine ⟨?_, ?_, ?_, ?_⟩ <;> (exact cell_below hb4 (by assumption))))
          ((go_at_call 139; refine (order_any p q x y _).mono ?_; rintro e w4 ⟨rfl, hb4⟩))
        clear s1 s2 s3 s4 s5
        rw [← OI.out]
        have B4 := Lib.hid ((B.out.drew).trans (hb4.mono B.out.size))
        clear hb4
        go_wp2
        go_ret
        exact ⟨by rw [E.out]; rfl, B4.out⟩
    · have E := Lib.hid (risesNB_yes (L := L) (by have := hS.out; rwa [List.take_of_length_le (by omega)] at this))
      have B := Lib.hid hb
      have hge : ¬ (k : Int) < (L.length : Int) := by omega
      clear hS hb
      go_wp2
      go_ret
      exact ⟨by rw [E.out]; rfl, B.out⟩

end Go.Proofs.YtgelojhpanbnaaaGreatDoor

namespace Go.Proofs.YtgelojhpanbnaaaGreatDoor
open Go.RowKit

def inB (L : List Int) (n : Int) : Bool := decide (n ∈ L)

theorem inB_snoc_yes {L : List Int} {n : Int} {k : Nat} (h : k < L.length) (e : L[k] = n) : inB L n = true := by
  rw [inB, decide_eq_true_eq, ← e]; exact List.getElem_mem h

theorem inB_snoc_no {L : List Int} {n : Int} {k : Nat} (h : k < L.length) (e : L[k] ≠ n) (hk : inB (L.take k) n = false) : inB (L.take (k + 1)) n = false := by
  rw [inB, decide_eq_false_iff_not] at *
  rw [List.take_succ_eq_append_getElem h, List.mem_append]
  rintro (h1 | h1)
  · exact hk h1
  · exact e (Eq.symm (by simpa using h1))

theorem rin_any (v : Value) (L : List Int) (n : Int) (w : World) (hL : IntsR w v L) :
    Calls Tryz.prog 190 #[v, .int .i64 n] w fun e w' => e = .returned (.bool (inB L n)) ∧ w = w' := by
  obtain ⟨a, cap, rfl, hc1, hc2, hcell⟩ := intsR_open hL
  unfold maxLen at hc2
  have HC := Lib.hid hcell; clear hcell hL
  go_enter Tryz.func190, Tryz.ntmps190
  go_wp2
  go_loopg [5] L.length (fun g i wr => ∃ k : Nat, k ≤ L.length ∧ i = .int .i64 k ∧ Hid (inB (L.take k) n = false) ∧ g = L.length - k ∧ wr = w)
  case atStart => exact ⟨0, Nat.zero_le _, rfl, Lib.hid (by simp [inB]), rfl, rfl⟩
  case round =>
    obtain ⟨k, hk, rfl, hS, hg, rfl⟩ := hrel
    have G := Lib.hid hg; clear hg
    by_cases hlt : k < L.length
    · obtain ⟨b, off, rfl, hcs⟩ := HC.out (by omega)
      have c0 := hcs k hlt
      obtain ⟨x, hx⟩ : ∃ x, x = L[k] := ⟨_, rfl⟩
      rw [← hx] at c0
      have X := Lib.hid hx; clear hx hcs
      by_cases he : x = n
      · have E := Lib.hid (inB_snoc_yes (n := n) hlt (by rw [← X.out]; exact he))
        have he2 : (x == n) = true := by simpa using he
        clear he
        go_wp2
        go_ret
        exact ⟨by rw [E.out]; rfl, rfl⟩
      · have E := Lib.hid (inB_snoc_no (n := n) hlt (by rw [← X.out]; exact he) hS.out)
        have he2 : (x == n) = false := by simpa using he
        clear he
        go_wp2
        go_roundg (L.length - (k + 1))
        case measure => rw [G.out]; omega
        case rel => exact ⟨k + 1, by omega, by go_num, E, rfl, rfl⟩
    · obtain rfl : k = L.length := by omega
      have E := Lib.hid (show inB L n = false by have := hS.out; rwa [List.take_length] at this)
      clear hS
      go_wp2
      go_ret
      exact ⟨by rw [E.out]; rfl, rfl⟩

def intsB (a b : List Int) : Bool := decide (a = b)

theorem take_snoc_eq {a b : List Int} {k : Nat} (h : k < a.length) (h2 : k < b.length) (e : a[k] = b[k]) (ht : a.take k = b.take k) : a.take (k + 1) = b.take (k + 1) := by
  rw [List.take_succ_eq_append_getElem h, List.take_succ_eq_append_getElem h2, ht, e]

theorem intsB_no {a b : List Int} {k : Nat} (h : k < a.length) (h2 : k < b.length) (e : a[k] ≠ b[k]) : intsB a b = false := by
  rw [intsB, decide_eq_false_iff_not]; rintro rfl; exact e rfl

theorem ints_any (u v : Value) (a b : List Int) (w : World) (ha : IntsR w u a) (hb : IntsR w v b) :
    Calls Tryz.prog 51 #[u, v] w fun e w' => e = .returned (.bool (intsB a b)) ∧ Below w.heap.size w w' := by
  obtain ⟨p, cap, rfl, hc1, hc2, hcell⟩ := intsR_open ha
  obtain ⟨q, caq, rfl, hd1, hd2, hdell⟩ := intsR_open hb
  unfold maxLen at hc2 hd2
  have HC := Lib.hid hcell; have HD := Lib.hid hdell; clear hcell hdell ha hb
  by_cases hlen : a.length = b.length
  · have HL := Lib.hid hlen
    have hl2 : ((a.length : Int) != (b.length : Int)) = false := by simp; omega
    have hl3 : a.length ≤ b.length := by omega
    clear hlen
    go_enter Tryz.func51, Tryz.ntmps51
    go_wp2
    go_loopg [5] a.length (fun g i wr => ∃ k : Nat, k ≤ a.length ∧ i = .int .i64 k ∧ Hid (a.take k = b.take k) ∧ g = a.length - k ∧ ∃ n, wr = w.drewN n)
    case atStart => exact ⟨0, Nat.zero_le _, rfl, Lib.hid (by simp), rfl, 0, rfl⟩
    case round =>
      obtain ⟨k, hk, rfl, hS, hg, n, rfl⟩ := hrel
      have G := Lib.hid hg; clear hg
      by_cases hlt : k < a.length
      · obtain ⟨b1, off1, rfl, hcs⟩ := HC.out (by omega)
        obtain ⟨b2, off2, rfl, hds⟩ := HD.out (by omega)
        have hlb : k < b.length := by omega
        have c0 := hcs k hlt
        have d0 := hds k hlb
        obtain ⟨x, hx⟩ : ∃ x, x = a[k] := ⟨_, rfl⟩
        obtain ⟨y, hy⟩ : ∃ y, y = b[k] := ⟨_, rfl⟩
        rw [← hx] at c0; rw [← hy] at d0
        have X := Lib.hid hx; have Y := Lib.hid hy; clear hx hy hcs hds
        have i1 : (0 : Int) ≤ (k : Int) := Int.natCast_nonneg _
        have i2 : (k : Int) < (a.length : Int) := by omega
        have i3 : (k : Int) < (b.length : Int) := by omega
        by_cases he : x = y
        · have E := Lib.hid (take_snoc_eq hlt hlb (by rw [← X.out, ← Y.out]; exact he) hS.out)
          have he2 : (x != y) = false := by simpa using he
          clear he
          go_wp2
          go_quiet (fail)
          go_wp2
          go_roundg (a.length - (k + 1))
          case measure => rw [G.out]; omega
          case rel => exact ⟨k + 1, by omega, by go_num, E, rfl, _, rfl⟩
        · have E := Lib.hid (intsB_no hlt hlb (by rw [← X.out, ← Y.out]; exact he))
          have he2 : (x != y) = true := by simpa using he
          clear he
          go_wp2
          go_quiet (fail)
          go_wp2
          go_ret
          exact ⟨by rw [E.out]; rfl, below_drewN (below_drewN (Below.refl _ _) _) _⟩
      · obtain rfl : k = a.length := by omega
        have E := Lib.hid (show intsB a b = true by have := hS.out; rw [List.take_length, HL.out, List.take_length] at this; rw [intsB, this]; simp)
        clear hS
        go_wp2
        go_ret
        exact ⟨by rw [E.out]; rfl, below_drewN (Below.refl _ _) _⟩
  · have HL := Lib.hid (show intsB a b = false by rw [intsB, decide_eq_false_iff_not]; rintro rfl; exact hlen rfl)
    have hl2 : ((a.length : Int) != (b.length : Int)) = true := by simp; omega
    clear hlen
    go_enter Tryz.func51, Tryz.ntmps51
    go_wp2
    go_ret
    exact ⟨by rw [HL.out]; rfl, Below.refl _ _⟩

end Go.Proofs.YtgelojhpanbnaaaGreatDoor

namespace Go.Proofs.YtgelojhpanbnaaaGreatDoor
open Go.RowKit
set_option linter.unusedSimpArgs false

theorem sidx_any (v : Value) (L : List Int) (n : Int) (w : World) (hL : IntsR w v L) :
    Calls Tryz.prog 199 #[v, .int .i64 n] w (IdxSays (inB L n) w) := by
  obtain ⟨a, cap, rfl, hc1, hc2, hcell⟩ := intsR_open hL
  unfold maxLen at hc2
  have HC := Lib.hid hcell; clear hcell hL
  go_enter Tryz.func199, Tryz.ntmps199
  go_wp2
  go_loopg [8] L.length (fun g i wr => ∃ k : Nat, k ≤ L.length ∧ i = .int .i64 k ∧ Hid (inB (L.take k) n = false) ∧ g = L.length - k ∧ wr = w)
  case atStart => exact ⟨0, Nat.zero_le _, rfl, Lib.hid (by simp [inB]), rfl, rfl⟩
  case round =>
    obtain ⟨k, hk, rfl, hS, hg, rfl⟩ := hrel
    have G := Lib.hid hg; clear hg
    by_cases hlt : k < L.length
    · obtain ⟨b, off, rfl, hcs⟩ := HC.out (by omega)
      have c0 := hcs k hlt
      obtain ⟨x, hx⟩ : ∃ x, x = L[k] := ⟨_, rfl⟩
      rw [← hx] at c0
      have X := Lib.hid hx; clear hx hcs
      by_cases he : x = n
      · have E := Lib.hid (inB_snoc_yes (n := n) hlt (by rw [← X.out]; exact he))
        have he2 : (n == x) = true := by simpa using he.symm
        clear he
        go_wp2
        go_ret
        exact ⟨k, rfl, by rw [E.out]; simp, Below.refl _ _⟩
      · have E := Lib.hid (inB_snoc_no (n := n) hlt (by rw [← X.out]; exact he) hS.out)
        have he2 : (n == x) = false := by simpa using fun h => he h.symm
        clear he
        go_wp2
        go_roundg (L.length - (k + 1))
        case measure => rw [G.out]; omega
        case rel => exact ⟨k + 1, by omega, by go_num, E, rfl, rfl⟩
    · obtain rfl : k = L.length := by omega
      have E := Lib.hid (show inB L n = false by have := hS.out; rwa [List.take_length] at this)
      clear hS
      go_wp2
      go_ret
      exact ⟨-1, rfl, by rw [E.out]; simp, Below.refl _ _⟩

theorem scont_any (v : Value) (L : List Int) (n : Int) (w : World) (hL : IntsR w v L) :
    Calls Tryz.prog 155 #[v, .int .i64 n] w fun e w' => e = .returned (.bool (inB L n)) ∧ Below w.heap.size w w' := by
  go_enter Tryz.func155, Tryz.ntmps155
  go_wp2_with fail
  refine (sidx_any v L n _ hL).mono ?_
  rintro e w1 ⟨r, rfl, hr, hb⟩
  have R := Lib.hid hr; clear hr
  go_wp2
  go_ret
  exact ⟨ret_bool R.out, hb⟩

def nthP (a1 a2 b1 b2 : Int) (s : Int × Int) : Bool := (s.1 == a1 && s.2 == a2) || (s.1 == b1 && s.2 == b2) || (s.1 == 0 && s.2 == a2)

def Nths (w : World) (p q : Nat) (a1 a2 b1 b2 : Int) : Prop := (w.cell? ⟨p, 0, none⟩ = some (.int .i64 a1) ∧ w.cell? ⟨p, 1, none⟩ = some (.int .i64 a2)) ∧ w.cell? ⟨q, 0, none⟩ = some (.int .i64 b1) ∧ w.cell? ⟨q, 1, none⟩ = some (.int .i64 b2)

theorem Nths.below {w w' : World} {p q : Nat} {a1 a2 b1 b2 : Int} (h : Nths w p q a1 a2 b1 b2) (hb : Below w.heap.size w w') : Nths w' p q a1 a2 b1 b2 :=
  ⟨⟨cell_below hb h.1.1, cell_below hb h.1.2⟩, cell_below hb h.2.1, cell_below hb h.2.2⟩

theorem Nths.lt {w : World} {p q : Nat} {a1 a2 b1 b2 : Int} (h : Nths w p q a1 a2 b1 b2) : p < w.heap.size ∧ q < w.heap.size := ⟨World.block_lt_of_cell? w _ h.1.1, World.block_lt_of_cell? w _ h.2.1⟩

set_option maxHeartbeats 1000000 in
theorem fits_any (x y a1 a2 b1 b2 : Int) (p q : Nat) (w : World) (h : Nths w p q a1 a2 b1 b2) :
    Calls Tryz.prog 238 #[.agg #[.int .i64 x, .int .i64 y], .pointer (some ⟨p, 0, none⟩), .pointer (some ⟨q, 0, none⟩)] w fun e w' => e = .returned (.bool (nthP a1 a2 b1 b2 (x, y))) ∧ Below w.heap.size w w' := by
  obtain ⟨l1, l2⟩ := h.lt
  obtain ⟨⟨c0, c1⟩, c2, c3⟩ := h
  go_enter Tryz.func238, Tryz.ntmps238
  go_wp2
  all_goals
    go_ret
    exact ⟨ret_bool (by simp_all [nthP]), (Below.refl _ _).alloc (Nat.le_refl _) _⟩

theorem idxP_any (v : Value) (L : List (Int × Int)) (a1 a2 b1 b2 : Int) (p q : Nat) (w : World) (hL : PairsR w v L) (hn : Nths w p q a1 a2 b1 b2) :
    Calls Tryz.prog 192 #[v, .func (.func 238) #[] #[.pointer (some ⟨p, 0, none⟩), .pointer (some ⟨q, 0, none⟩)]] w (IdxSays (L.any (nthP a1 a2 b1 b2)) w) := by
  obtain ⟨a, cap, rfl, hc1, hc2, hcell⟩ := pairsR_open hL
  unfold maxLen at hc2
  have HC := Lib.hid hcell; clear hcell hL
  have HN := Lib.hid hn; clear hn
  go_enter Tryz.func192, Tryz.ntmps192
  go_wp2
  go_loopg [8] L.length (fun g i wr => ∃ k : Nat, k ≤ L.length ∧ i = .int .i64 k ∧ Hid ((L.take k).any (nthP a1 a2 b1 b2) = false) ∧ g = L.length - k ∧ Below w.heap.size w wr)
  case atStart => exact ⟨0, Nat.zero_le _, rfl, Lib.hid (by simp), rfl, Below.refl _ _⟩
  case round =>
    obtain ⟨k, hk, rfl, hS, hg, hb⟩ := hrel
    have G := Lib.hid hg; clear hg
    have B := Lib.hid hb
    by_cases hlt : k < L.length
    · obtain ⟨b, off, rfl, hcs⟩ := HC.out (by omega)
      have c0 := cell_below hb (hcs k hlt).1
      have c1 := cell_below hb (hcs k hlt).2
      obtain ⟨x, hx⟩ : ∃ x, x = L[k].1 := ⟨_, rfl⟩
      obtain ⟨y, hy⟩ : ∃ y, y = L[k].2 := ⟨_, rfl⟩
      rw [← hx] at c0; rw [← hy] at c1
      have XY := Lib.hid (show L[k] = (x, y) by rw [hx, hy])
      have HN2 := Lib.hid (HN.out.below hb)
      clear hx hy hcs hb
      by_cases he : nthP a1 a2 b1 b2 (x, y) = true
      · have E := Lib.hid (any_yes (p := nthP a1 a2 b1 b2) hlt (by rw [XY.out]; exact he))
        have V := Lib.hid he
        clear he
        go_wp2_with fail
        refine (fits_any x y a1 a2 b1 b2 p q _ HN2.out).mono ?_; rintro e w2 ⟨rfl, hb2⟩
        rw [V.out]
        have B2 := Lib.hid (B.out.trans (hb2.mono B.out.size)); clear hb2
        go_wp2
        go_ret
        exact ⟨k, rfl, by rw [E.out]; simp, B2.out⟩
      · have he' : nthP a1 a2 b1 b2 (x, y) = false := by simpa using he
        have E := Lib.hid (any_no (p := nthP a1 a2 b1 b2) hlt hS.out (by rw [XY.out]; exact he'))
        have V := Lib.hid he'
        clear he he'
        go_wp2_with fail
        refine (fits_any x y a1 a2 b1 b2 p q _ HN2.out).mono ?_; rintro e w2 ⟨rfl, hb2⟩
        rw [V.out]
        have B2 := Lib.hid (B.out.trans (hb2.mono B.out.size)); clear hb2
        go_wp2
        go_roundg (L.length - (k + 1))
        case measure => rw [G.out]; omega
        case rel => exact ⟨k + 1, by omega, by go_num, E, rfl, B2.out⟩
    · obtain rfl : k = L.length := by omega
      have E := Lib.hid (show L.any (nthP a1 a2 b1 b2) = false by have := hS.out; rwa [List.take_length] at this)
      clear hS hb
      go_wp2
      go_ret
      exact ⟨-1, rfl, by rw [E.out]; simp, B.out⟩

theorem contP_any (v : Value) (L : List (Int × Int)) (a1 a2 b1 b2 : Int) (p q : Nat) (w : World) (hL : PairsR w v L) (hn : Nths w p q a1 a2 b1 b2) :
    Calls Tryz.prog 131 #[v, .func (.func 238) #[] #[.pointer (some ⟨p, 0, none⟩), .pointer (some ⟨q, 0, none⟩)]] w fun e w' => e = .returned (.bool (L.any (nthP a1 a2 b1 b2))) ∧ Below w.heap.size w w' := by
  go_enter Tryz.func131, Tryz.ntmps131
  go_wp2_with fail
  refine (idxP_any v L a1 a2 b1 b2 p q _ hL hn).mono ?_
  rintro e w1 ⟨r, rfl, hr, hb⟩
  have R := Lib.hid hr; clear hr
  go_wp2
  go_ret
  exact ⟨ret_bool R.out, hb⟩

end Go.Proofs.YtgelojhpanbnaaaGreatDoor
