/- Contracts of the reference's weeks (chimeref1.Monday, Week, Weeks, Ends, NthOf). -/
import Derived.Test.YtdamncbgobjpdaaDoorRefA
import Derived.Test.YtdamncbgobjpdaaDoorWeekC
import Derived.BigRegion
import Derived.IntWalk
import Derived.Test.YtdamncbgobjpdaaDoorSl
import Derived.Deep.LoopGhost
namespace Go.Proofs.YtdamncbgobjpdaaDoor
open Go.RowKit

theorem rmonday_any (n : Int) (w : World) (h1 : 1 ≤ n) (h2 : n ≤ 1000000) :
    Calls Tryd.prog 24 #[.int .i64 n] w fun e w' => e = .returned (.int .i64 (Cal.mondayI n)) ∧ w = w' := by
  go_enter Tryd.func24, Tryd.ntmps24
  go_wp2
  go_ret
  exact ⟨rfl, rfl⟩

theorem rweeks_no (y : Int) (w : World) (h : y < 1900 ∨ 2199 < y) :
    Calls Tryd.prog 22 #[.int .i64 y] w fun e w' => e = .returned (.int .i64 0) ∧ Below w.heap.size w w' := by
  by_cases h1 : y < 1900
  all_goals
    try (have h2 : 2199 < y := by omega)
    clear h
    go_enter Tryd.func22, Tryd.ntmps22
    go_wp2
    go_ret
    exact ⟨rfl, Below.refl _ _⟩

theorem weeks_alt {y : Int} (h1 : 1900 ≤ y) (h2 : y ≤ 2199) : Cal.wk1 y ≤ Cal.mondayI (Cal.num y 12 28) ∧ (Cal.mondayI (Cal.num y 12 28) - Cal.wk1 y) / 7 + 1 = Cal.weeksI y := by
  obtain ⟨c0, c1, c2, c3⟩ := Cal.wk1_bd h1 h2
  have e1 := Cal.num_d28 y
  have e2 := Cal.lp_01 y
  have d1 := Cal.monday_bd (Cal.num y 12 28)
  have d2 := Cal.monday_mod (Cal.num y 12 28)
  unfold Cal.weeksI
  omega

theorem rweeks_yes (y : Int) (w : World) (h1 : 1900 ≤ y) (h2 : y ≤ 2199) :
    Calls Tryd.prog 22 #[.int .i64 y] w fun e w' => e = .returned (.int .i64 (Cal.weeksI y)) ∧ Below w.heap.size w w' := by
  have hd := Cal.date_j4 h1 h2
  have hd2 := Cal.date_d28 h1 h2
  obtain ⟨_, _, b1, b2⟩ := Cal.num_bd hd
  obtain ⟨_, _, b3, b4⟩ := Cal.num_bd hd2
  obtain ⟨k1, k2⟩ := weeks_alt h1 h2
  have m1 := Cal.monday_bd (Cal.num y 12 28)
  have m2 := Cal.wk1_bd h1 h2
  have m3 := m2.1
  clear m2
  have K := Lib.hid k2; clear k2
  go_enter Tryd.func22, Tryd.ntmps22
  go_wp2_with fail
  refine (rof_yes y 1 4 _ hd).mono ?_; rintro e w1 ⟨rfl, hb1⟩
  go_wp2_with fail
  refine (rmonday_any _ _ b1 (by omega)).mono ?_; rintro e w1' ⟨rfl, rfl⟩
  rw [show Cal.mondayI (Cal.num y 1 4) = Cal.wk1 y from rfl]
  go_wp2_with fail
  refine (rof_yes y 12 28 _ hd2).mono ?_; rintro e w2 ⟨rfl, hb2⟩
  go_wp2_with fail
  refine (rmonday_any _ _ b3 (by omega)).mono ?_; rintro e w2' ⟨rfl, rfl⟩
  go_wp2
  go_ret
  exact ⟨by rw [← K.out]; rfl, hb1.trans (hb2.mono hb1.size)⟩

theorem rweek_yes (n y m d : Int) (w : World) (h1 : 1 ≤ n) (h2 : n ≤ 109573) (hd : Cal.dateB y m d = true) (hn : Cal.num y m d = Cal.mondayI n + 3) :
    Calls Tryd.prog 20 #[.int .i64 n] w fun e w' => e = .returned (.tuple #[.int .i64 y, .int .i64 ((n - Cal.wk1 y) / 7 + 1), .bool true]) ∧ Below w.heap.size w w' := by
  obtain ⟨hm, _, _⟩ := Cal.date_yes hd
  obtain ⟨a1, a2, _, _⟩ := Cal.month_yes hm
  have hj := Cal.date_j4 a1 a2
  obtain ⟨_, _, e1, e2⟩ := Cal.num_bd hj
  obtain ⟨c0, _, _, _⟩ := Cal.wk1_bd a1 a2
  have hle := (Cal.week_in hd hn).1
  obtain ⟨b1, b2⟩ := Cal.monday_bd n
  have N := Lib.hid hn; clear hn
  go_enter Tryd.func20, Tryd.ntmps20
  go_wp2_with (go_at_call 24; refine (rmonday_any _ _ h1 (by omega)).mono ?_; rintro e w1' ⟨rfl, rfl⟩)
  rw [← N.out]
  refine (rdate_num y m d _ hd).mono ?_; rintro e w1 ⟨rfl, hb1⟩
  go_wp2_with fail
  refine (rof_yes y 1 4 _ hj).mono ?_; rintro e w2 ⟨rfl, hb2⟩
  have f0 := hb2.cell (p := ⟨w1.heap.size, 0, none⟩) (by simp)
  simp at f0
  go_wp2_with fail
  refine (rmonday_any _ _ e1 (by omega)).mono ?_; rintro e w2' ⟨rfl, rfl⟩
  rw [show Cal.mondayI (Cal.num y 1 4) = Cal.wk1 y from rfl]
  go_wp2
  go_ret3
  exact ⟨rfl, (hb1.alloc hb1.size _).trans (hb2.mono (by have := hb1.size; simp; omega))⟩

theorem rweek_no (n : Int) (w : World) (h : n < 1 ∨ 109571 < n) :
    Calls Tryd.prog 20 #[.int .i64 n] w fun e w' => e = .returned (.tuple #[.int .i64 0, .int .i64 0, .bool false]) ∧ Below w.heap.size w w' := by
  by_cases h1 : 1 ≤ n ∧ n ≤ 109573
  · obtain ⟨h1, h2⟩ := h1
    have h3 : 109573 < Cal.mondayI n + 3 := by unfold Cal.mondayI; omega
    have h4 := Cal.monday_bd n
    clear h
    go_enter Tryd.func20, Tryd.ntmps20
    go_wp2_with (go_at_call 24; refine (rmonday_any _ _ h1 (by omega)).mono ?_; rintro e w1' ⟨rfl, rfl⟩)
    refine (rdate_no _ _ (.inr h3)).mono ?_; rintro e w1 ⟨rfl, hb1⟩
    go_wp2
    go_ret3
    exact ⟨rfl, hb1.alloc hb1.size _⟩
  · by_cases h2 : n < 1
    all_goals
      try (have h3 : 109573 < n := by omega)
      clear h h1
      go_enter Tryd.func20, Tryd.ntmps20
      go_wp2
      go_ret3
      exact ⟨rfl, Below.refl _ _⟩

theorem rends_any (y m d : Int) (w : World) (hd : Cal.dateB y m d = true) :
    Calls Tryd.prog 30 #[.int .i64 (Cal.num y m d)] w fun e w' => e = .returned (.tuple #[.int .i64 ((d - 1) / 7 + 1), .int .i64 (-((Cal.dim y m - d) / 7 + 1))]) ∧ Below w.heap.size w w' := by
  obtain ⟨hm, h1, h2⟩ := Cal.date_yes hd
  have hdb := Cal.dim_bd y m
  go_enter Tryd.func30, Tryd.ntmps30
  go_wp2_with fail
  refine (rdate_num y m d _ hd).mono ?_; rintro e w1 ⟨rfl, hb1⟩
  go_wp2_with fail
  refine (rdays_yes y m _ hm).mono ?_; rintro e w' ⟨rfl, rfl⟩
  go_wp2
  go_region
  all_goals
    go_wp2
    go_ret2
    exact ⟨rfl, (hb1.alloc hb1.size _).drew⟩

theorem cell_drewN {w : World} {p : Addr} {v : Value} (h : w.cell? p = some v) (n : Nat) : (w.drewN n).cell? p = some v := h

/-- the day and the fault of the k-th weekday of a month. -/
def nthAt (y m k wd : Int) : Int := if Cal.monthB y m = true ∧ nthB k wd = true ∧ Cal.num y m 1 ≤ nthI (Cal.num y m 1) (Cal.dim y m) k wd ∧ nthI (Cal.num y m 1) (Cal.dim y m) k wd < Cal.num y m 1 + Cal.dim y m then nthI (Cal.num y m 1) (Cal.dim y m) k wd else 0

def nthE (y m k wd : Int) : Int := if Cal.monthB y m = true ∧ nthB k wd = true then (if Cal.num y m 1 ≤ nthI (Cal.num y m 1) (Cal.dim y m) k wd ∧ nthI (Cal.num y m 1) (Cal.dim y m) k wd < Cal.num y m 1 + Cal.dim y m then 0 else 5) else 1

theorem nth_any (y m k wd : Int) (w : World) (hw : Months w) :
    Calls Tryd.prog 28 #[.int .i64 y, .int .i64 m, .agg #[.int .i64 k, .int .i64 wd]] w fun e w' => e = .returned (.tuple #[.int .i64 (nthAt y m k wd), errV (nthE y m k wd)]) ∧ Below w.heap.size w w' := by
  by_cases hm : Cal.monthB y m = true ∧ nthB k wd = true
  · obtain ⟨hm, hk⟩ := hm
    by_cases hr : Cal.num y m 1 ≤ nthI (Cal.num y m 1) (Cal.dim y m) k wd ∧ nthI (Cal.num y m 1) (Cal.dim y m) k wd < Cal.num y m 1 + Cal.dim y m
    · have e1 : nthAt y m k wd = nthI (Cal.num y m 1) (Cal.dim y m) k wd := by rw [nthAt, if_pos ⟨hm, hk, hr.1, hr.2⟩]
      have e2 : nthE y m k wd = 0 := by rw [nthE, if_pos ⟨hm, hk⟩, if_pos hr]
      rw [e1, e2]
      exact nth_yes y m k wd w hw hm hk hr.1 hr.2
    · have e1 : nthAt y m k wd = 0 := by rw [nthAt, if_neg (fun h => hr h.2.2)]
      have e2 : nthE y m k wd = 5 := by rw [nthE, if_pos ⟨hm, hk⟩, if_neg hr]
      rw [e1, e2]
      exact nth_none y m k wd w hw hm hk (by omega)
  · have e1 : nthAt y m k wd = 0 := by rw [nthAt, if_neg (fun h => hm ⟨h.1, h.2.1⟩)]
    have e2 : nthE y m k wd = 1 := by rw [nthE, if_neg hm]
    rw [e1, e2]
    refine nth_bad y m k wd w hw ?_
    cases h1 : Cal.monthB y m
    · exact .inl rfl
    · cases h2 : nthB k wd
      · exact .inr rfl
      · exact absurd ⟨h1, h2⟩ hm

/-- A day of a month is the k-th of its weekday just where its weekday is that and its place, from either end, is k. -/
theorem nth_iff {y m d k wd : Int} (h : Cal.dateB y m d = true) (hk : nthB k wd = true) :
    ((Cal.num y m d - 1) % 7 + 1 = wd ∧ ((d - 1) / 7 + 1 = k ∨ -((Cal.dim y m - d) / 7 + 1) = k)) ↔ nthI (Cal.num y m 1) (Cal.dim y m) k wd = Cal.num y m d := by
  obtain ⟨hm, h1, h2⟩ := Cal.date_yes h
  have hdb := Cal.dim_bd y m
  obtain ⟨k1, k2, k3, k4, k5⟩ := nth_ok hk
  have e : Cal.num y m 1 = Cal.num y m d - (d - 1) := by unfold Cal.num; omega
  rw [e]
  unfold nthI
  split <;> constructor <;> intro h <;> omega

set_option maxRecDepth 100000 in
set_option maxHeartbeats 4000000 in
theorem rnth_ok (y m k wd : Int) (w : World) (hm : Cal.monthB y m = true) (hk : nthB k wd = true) :
    Calls Tryd.prog 27 #[.int .i64 y, .int .i64 m, .agg #[.int .i64 k, .int .i64 wd]] w fun e w' => e = .returned (.tuple #[.int .i64 (nthAt y m k wd), .int .i64 (nthE y m k wd)]) ∧ Below w.heap.size w w' := by
  obtain ⟨k1, k2, k3, k4, k5⟩ := nth_ok hk
  have e0 : (k == 0) = false := by simp [k3]
  have hdb := Cal.dim_bd y m
  have es : (Cal.dim y m == 0) = false := by simp; omega
  clear k3
  go_enter Tryd.func27, Tryd.ntmps27
  go_wp2_with (go_at_call 82; refine (rdays_yes y m _ hm).mono ?_; rintro e w' ⟨rfl, rfl⟩)
  obtain ⟨w0, hw0⟩ : ∃ w0, w0 = w.alloc (.cells #[.int .i64 k, .int .i64 wd] 38) := ⟨_, rfl⟩
  rw [← hw0]
  have hb0 : Below w.heap.size w w0 := by rw [hw0]; exact (Below.refl _ _).alloc (Nat.le_refl _) _
  have c0 : w0.cell? ⟨w.heap.size, 0, none⟩ = some (.int .i64 k) := by rw [hw0]; simp
  have c1 : w0.cell? ⟨w.heap.size, 1, none⟩ = some (.int .i64 wd) := by rw [hw0]; simp
  clear hw0
  go_loopg [9] ((Cal.dim y m + 1 - 1).toNat) (fun g iv wr => ∃ d : Int, 1 ≤ d ∧ d ≤ Cal.dim y m + 1 ∧ iv = .int .i64 d ∧ g = (Cal.dim y m + 1 - d).toNat ∧ Hid (nthI (Cal.num y m 1) (Cal.dim y m) k wd < Cal.num y m 1 ∨ Cal.num y m d ≤ nthI (Cal.num y m 1) (Cal.dim y m) k wd) ∧
    wr.cell? ⟨w.heap.size, 0, none⟩ = some (.int .i64 k) ∧ wr.cell? ⟨w.heap.size, 1, none⟩ = some (.int .i64 wd) ∧ Below w.heap.size w wr)
  case atStart => exact ⟨1, by omega, by omega, rfl, rfl, Lib.hid (by omega), c0, c1, hb0⟩
  case round =>
    obtain ⟨d, hd1, hd2, rfl, hg, hS, c0', c1', hb⟩ := hrel
    have G := Lib.hid hg; clear hg c0 c1 hb0
    by_cases hlt : d ≤ Cal.dim y m
    · have hdt := Cal.date_mk hm hd1 hlt
      obtain ⟨_, _, b1, b2⟩ := Cal.num_bd hdt
      have IFF := Lib.hid (nth_iff hdt hk)
      have STEP := Lib.hid (show Cal.num y m (d + 1) = Cal.num y m d + 1 by unfold Cal.num; omega)
      have FST := Lib.hid (show Cal.num y m 1 ≤ Cal.num y m d ∧ Cal.num y m d < Cal.num y m 1 + Cal.dim y m by unfold Cal.num; omega)
      go_wp2_with fail
      refine (rof_yes y m d _ hdt).mono ?_; rintro e w1 ⟨rfl, hb1⟩
      have c0a := cell_below hb1 c0'; have c1a := cell_below hb1 c1'
      have hz1 := hb.trans (hb1.mono hb.size)
      clear c0' c1' hb1 hb
      go_wp2_with fail
      refine (rends_any y m d _ hdt).mono ?_; rintro e w2 ⟨rfl, hb2⟩
      have c0b := cell_below hb2 c0a; have c1b := cell_below hb2 c1a
      have hz2 := hz1.trans (hb2.mono hz1.size)
      clear c0a c1a hb2 hz1
      go_wp2_with fail
      by_cases hW : (Cal.num y m d - 1) % 7 + 1 = wd
      · have eW : ((Cal.num y m d - 1) % 7 + 1 == wd) = true := by simp [hW]
        have HW := Lib.hid hW; clear hW
        by_cases hA : (d - 1) / 7 + 1 = k ∨ -((Cal.dim y m - d) / 7 + 1) = k
        · have hv := IFF.out.1 ⟨HW.out, hA⟩
          have V1 := Lib.hid (show nthAt y m k wd = Cal.num y m d by rw [nthAt, if_pos ⟨hm, hk, by rw [hv]; exact FST.out.1, by rw [hv]; exact FST.out.2⟩, hv])
          have V2 := Lib.hid (show nthE y m k wd = 0 by rw [nthE, if_pos ⟨hm, hk⟩, if_pos ⟨by rw [hv]; exact FST.out.1, by rw [hv]; exact FST.out.2⟩])
          clear hv
          by_cases hA1 : (d - 1) / 7 + 1 = k
          · have eA : ((d - 1) / 7 + 1 == k) = true := by simp [hA1]
            clear hA hA1
            go_quiet ((go_at_call 31; exact quiet_l (rweekday_any _ _ b1 (by omega))))
            go_wp2
            go_ret2
            exact ⟨by rw [V1.out, V2.out]; rfl, below_drewN hz2 _⟩
          · have eA : ((d - 1) / 7 + 1 == k) = false := by simp [hA1]
            have eB : (-((Cal.dim y m - d) / 7 + 1) == k) = true := by rcases hA with h | h; exact absurd h hA1; simp [h]
            clear hA hA1
            go_quiet ((go_at_call 31; exact quiet_l (rweekday_any _ _ b1 (by omega))))
            go_wp2
            go_ret2
            exact ⟨by rw [V1.out, V2.out]; rfl, below_drewN hz2 _⟩
        · have hA1 : ¬ (d - 1) / 7 + 1 = k := fun h => hA (.inl h)
          have hA2 : ¬ -((Cal.dim y m - d) / 7 + 1) = k := fun h => hA (.inr h)
          have eA : ((d - 1) / 7 + 1 == k) = false := by simp [hA1]
          have eB : (-((Cal.dim y m - d) / 7 + 1) == k) = false := by simp [hA2]
          have hne : nthI (Cal.num y m 1) (Cal.dim y m) k wd ≠ Cal.num y m d := fun h => hA (IFF.out.2 h).2
          have NX := Lib.hid (show Hid (nthI (Cal.num y m 1) (Cal.dim y m) k wd < Cal.num y m 1 ∨ Cal.num y m (d + 1) ≤ nthI (Cal.num y m 1) (Cal.dim y m) k wd) from Lib.hid (by have := hS.out; rw [STEP.out]; omega))
          clear hA hA1 hA2 hne
          go_quiet ((go_at_call 31; exact quiet_l (rweekday_any _ _ b1 (by omega))))
          go_wp2
          go_roundg ((Cal.dim y m + 1 - (d + 1)).toNat)
          case measure => rw [G.out]; omega
          case rel => exact ⟨d + 1, by omega, by omega, rfl, rfl, NX.out, cell_drewN c0b _, cell_drewN c1b _, below_drewN hz2 _⟩
      · have eW : ((Cal.num y m d - 1) % 7 + 1 == wd) = false := by simp [hW]
        have hne : nthI (Cal.num y m 1) (Cal.dim y m) k wd ≠ Cal.num y m d := fun h => hW (IFF.out.2 h).1
        have NX := Lib.hid (show Hid (nthI (Cal.num y m 1) (Cal.dim y m) k wd < Cal.num y m 1 ∨ Cal.num y m (d + 1) ≤ nthI (Cal.num y m 1) (Cal.dim y m) k wd) from Lib.hid (by have := hS.out; rw [STEP.out]; omega))
        clear hW hne
        go_quiet ((go_at_call 31; exact quiet_l (rweekday_any _ _ b1 (by omega))))
        go_wp2
        go_roundg ((Cal.dim y m + 1 - (d + 1)).toNat)
        case measure => rw [G.out]; omega
        case rel => exact ⟨d + 1, by omega, by omega, rfl, rfl, NX.out, cell_drewN c0b _, cell_drewN c1b _, below_drewN hz2 _⟩
    · obtain rfl : d = Cal.dim y m + 1 := by omega
      have hend : ¬ (Cal.num y m 1 ≤ nthI (Cal.num y m 1) (Cal.dim y m) k wd ∧ nthI (Cal.num y m 1) (Cal.dim y m) k wd < Cal.num y m 1 + Cal.dim y m) := by
        have := hS.out
        have e : Cal.num y m (Cal.dim y m + 1) = Cal.num y m 1 + Cal.dim y m := by unfold Cal.num; omega
        rw [e] at this
        omega
      have V1 := Lib.hid (show nthAt y m k wd = 0 by rw [nthAt, if_neg (fun h => hend h.2.2)])
      have V2 := Lib.hid (show nthE y m k wd = 5 by rw [nthE, if_pos ⟨hm, hk⟩, if_neg hend])
      clear hend
      go_wp2
      go_ret2
      exact ⟨by rw [V1.out, V2.out]; rfl, hb⟩

end Go.Proofs.YtdamncbgobjpdaaDoor
