/- The reference's texts of times: Time, two, ShowDate, Show: their contracts. No condition but the bounds stated. -/
import Derived.Test.YtiihkdefhhdfnaaGreatDoorClkH
import Derived.Test.YtiihkdefhhdfnaaGreatDoorClkD
import Derived.Test.YtiihkdefhhdfnaaGreatDoorRefA
namespace Go.Proofs.YtiihkdefhhdfnaaGreatDoor
open Go.RowKit Go.Shelf
set_option linter.unusedSimpArgs false
set_option linter.unusedVariables false

theorem rtime_any (t : Int) (w : World) :
    Calls Tryz.prog 7 #[.int .i64 t] w fun e w' => e = .returned (.bool (timeB t)) ∧ w = w' := by
  by_cases h : 1 ≤ t
  · by_cases h2 : t < 157785120
    · go_enter Tryz.func7, Tryz.ntmps7
      go_wp2
      go_ret
      exact ⟨ret_bool (by rw [timeB_mk h h2]), rfl⟩
    · go_enter Tryz.func7, Tryz.ntmps7
      go_wp2
      go_ret
      exact ⟨ret_bool (by rw [timeB_mk_no (by omega)]), rfl⟩
  · go_enter Tryz.func7, Tryz.ntmps7
    go_wp2
    go_ret
    exact ⟨ret_bool (by rw [timeB_mk_no (by omega)]), rfl⟩

set_option maxHeartbeats 2000000 in
theorem rtwo_any (n : Int) (w : World) (h0 : 0 ≤ n) (h1 : n < 100000) :
    Calls Tryz.prog 25 #[.int .i64 n] w fun e w' => e = .returned (.string (bs (d2 (n.toNat % 100)))) ∧ Below w.heap.size w w' := by
  obtain ⟨a, ha⟩ : ∃ a : Nat, n / 10 % 10 = (a : Int) := ⟨(n / 10 % 10).toNat, by omega⟩
  obtain ⟨b, hb⟩ : ∃ b : Nat, n % 10 = (b : Int) := ⟨(n % 10).toNat, by omega⟩
  have a9 : a < 10 := by omega
  have b9 : b < 10 := by omega
  have DE := Lib.hid (show d2 (n.toNat % 100) = [UInt8.ofNat (48 + a)] ++ [UInt8.ofNat (48 + b)] by
    rw [d2, show n.toNat % 100 / 10 = a by omega, show n.toNat % 100 % 10 = b by omega]; rfl)
  obtain ⟨A, hA⟩ : ∃ A, A = ({ data := #[48, 49, 50, 51, 52, 53, 54, 55, 56, 57] } : ByteArray).extract a (a + 1) := ⟨_, rfl⟩
  obtain ⟨B, hB⟩ : ∃ B, B = ({ data := #[48, 49, 50, 51, 52, 53, 54, 55, 56, 57] } : ByteArray).extract b (b + 1) := ⟨_, rfl⟩
  have eA := Lib.hid (show A = bs [UInt8.ofNat (48 + a)] by rw [hA]; exact dig_piece ⟨a, a9⟩)
  have eB := Lib.hid (show B = bs [UInt8.ofNat (48 + b)] by rw [hB]; exact dig_piece ⟨b, b9⟩)
  have az : A.size = 1 := by rw [eA.out, bs_size]; rfl
  have bz : B.size = 1 := by rw [eB.out, bs_size]; rfl
  have EA := Lib.hid ha; have EB := Lib.hid hb
  have hA2 := Lib.hid hA.symm; have hB2 := Lib.hid hB.symm
  clear ha hb hA hB
  go_enter Tryz.func25, Tryz.ntmps25
  go_upto_region 3 with fail
  rw [EA.out, EB.out]
  have hA3 := hA2.out
  have hB3 := hB2.out
  have i1 : (0 : Int) ≤ (a : Int) := Int.natCast_nonneg _
  have i2 : (0 : Int) ≤ (b : Int) := Int.natCast_nonneg _
  have s1 : IntKind.i64.wrap ((a : Int) + 1) = (a : Int) + 1 := IntWalk.i64_in _ (by omega)
  have s2 : IntKind.i64.wrap ((b : Int) + 1) = (b : Int) + 1 := IntWalk.i64_in _ (by omega)
  have s3 : (0 : Int) ≤ (a : Int) + 1 := by omega
  have s4 : (0 : Int) ≤ (b : Int) + 1 := by omega
  have s5 : ((a : Int) + 1).toNat = a + 1 := by omega
  have s6 : ((b : Int) + 1).toNat = b + 1 := by omega
  have s7 : (a : Int) + 1 ≤ 10 := by omega
  have s8 : (b : Int) + 1 ≤ 10 := by omega
  have s9 : (a : Int) ≤ (a : Int) + 1 := by omega
  have sa : (b : Int) ≤ (b : Int) + 1 := by omega
  have sb : a + 1 ≤ 10 := by omega
  have sc : b + 1 ≤ 10 := by omega
  have sd : ¬ 9223372036854775807 < 1 + 1 := by omega
  go_quiet (fail)
  go_wp2
  go_ret
  exact ⟨by rw [DE.out, ← bs_append, ← eA.out, ← eB.out]; rfl, below_drewN (Below.refl _ _) _⟩

set_option maxRecDepth 100000 in
set_option maxHeartbeats 2000000 in
theorem rshowd_any (y m d : Int) (w : World) (h : Cal.dateB y m d = true) :
    Calls Tryz.prog 24 #[.agg #[.int .i64 y, .int .i64 m, .int .i64 d]] w fun e w' => e = .returned (.string (bs (dateT y.toNat m.toNat d.toNat))) ∧ Below w.heap.size w w' := by
  obtain ⟨a1, a2, a3, a4, a5, a6⟩ := date_lim h
  have DT := Lib.hid (show dateT y.toNat m.toNat d.toNat = ((((d2 ((y / 100).toNat % 100) ++ d2 (y.toNat % 100)) ++ [45]) ++ d2 (m.toNat % 100)) ++ [45]) ++ d2 (d.toNat % 100) by
    rw [dateT, show (y / 100).toNat % 100 = y.toNat / 100 by omega, show m.toNat % 100 = m.toNat by omega, show d.toNat % 100 = d.toNat by omega]; simp)
  clear h
  go_enter Tryz.func24, Tryz.ntmps24
  go_wp2_with fail
  obtain ⟨w0, hw0⟩ : ∃ w0, w0 = w.alloc (.cells #[.int .i64 y, .int .i64 m, .int .i64 d] 23) := ⟨_, rfl⟩
  rw [← hw0]
  have c0 : w0.cell? ⟨w.heap.size, 0, none⟩ = some (.int .i64 y) := by rw [hw0]; simp
  have c1 : w0.cell? ⟨w.heap.size, 1, none⟩ = some (.int .i64 m) := by rw [hw0]; simp
  have c2 : w0.cell? ⟨w.heap.size, 2, none⟩ = some (.int .i64 d) := by rw [hw0]; simp
  have B0 := Lib.hid (show Below w.heap.size w w0 by rw [hw0]; exact (Below.refl _ _).alloc (Nat.le_refl _) _)
  clear hw0
  refine (rtwo_any (y / 100) w0 (by omega) (by omega)).mono ?_; rintro e w1 ⟨rfl, hb1⟩
  have c0 := cell_below hb1 c0
  have c1 := cell_below hb1 c1
  have c2 := cell_below hb1 c2
  have B1 := Lib.hid (B0.out.trans (hb1.mono B0.out.size)); clear hb1
  obtain ⟨A, hA⟩ : ∃ x, x = bs (d2 ((y / 100).toNat % 100)) := ⟨_, rfl⟩
  have zA : A.size ≤ 40 := by rw [hA, bs_size]; rw [d2_len]; omega
  rw [← hA]
  have EA := Lib.hid hA; clear hA
  go_wp2_with fail
  refine (rtwo_any y w1 (by omega) (by omega)).mono ?_; rintro e w2 ⟨rfl, hb2⟩
  have c1 := cell_below hb2 c1
  have c2 := cell_below hb2 c2
  have B2 := Lib.hid (B1.out.trans (hb2.mono B1.out.size)); clear hb2
  obtain ⟨B, hB⟩ : ∃ x, x = bs (d2 (y.toNat % 100)) := ⟨_, rfl⟩
  have zB : B.size ≤ 40 := by rw [hB, bs_size]; rw [d2_len]; omega
  rw [← hB]
  have EB := Lib.hid hB; clear hB
  go_wp2_with fail
  refine (rtwo_any m w2 (by omega) (by omega)).mono ?_; rintro e w3 ⟨rfl, hb3⟩
  have c2 := cell_below hb3 c2
  have B3 := Lib.hid (B2.out.trans (hb3.mono B2.out.size)); clear hb3
  obtain ⟨M, hM⟩ : ∃ x, x = bs (d2 (m.toNat % 100)) := ⟨_, rfl⟩
  have zM : M.size ≤ 40 := by rw [hM, bs_size]; rw [d2_len]; omega
  rw [← hM]
  have EM := Lib.hid hM; clear hM
  go_wp2_with fail
  refine (rtwo_any d w3 (by omega) (by omega)).mono ?_; rintro e w4 ⟨rfl, hb4⟩
  have B4 := Lib.hid (B3.out.trans (hb4.mono B3.out.size)); clear hb4
  obtain ⟨D, hD⟩ : ∃ x, x = bs (d2 (d.toNat % 100)) := ⟨_, rfl⟩
  have zD : D.size ≤ 40 := by rw [hD, bs_size]; rw [d2_len]; omega
  rw [← hD]
  have ED := Lib.hid hD; clear hD
  have E := Lib.hid (show bs (dateT y.toNat m.toNat d.toNat) = ((((A ++ B) ++ { data := #[45] }) ++ M) ++ { data := #[45] }) ++ D by
    rw [DT.out, EA.out, EB.out, EM.out, ED.out, show ({ data := #[45] } : ByteArray) = bs [45] from rfl, bs_append, bs_append, bs_append, bs_append, bs_append])
  go_wp2
  go_ret
  exact ⟨by rw [E.out]; rfl, B4.out⟩

set_option maxRecDepth 100000 in
set_option maxHeartbeats 2000000 in
theorem rshow_any (t : Int) (w : World) (ht : timeB t = true) (y m d : Int) (hd : Cal.dateB y m d = true) (hn : Cal.num y m d = t / 1440 + 1) :
    Calls Tryz.prog 8 #[.int .i64 t] w fun e w' => e = .returned (.string (bs (timeT y.toNat m.toNat d.toNat (t % 1440 / 60).toNat (t % 60).toNat))) ∧ Below w.heap.size w w' := by
  obtain ⟨t1, t2⟩ := timeB_yes ht
  have DN := Lib.hid (show Calls Tryz.prog 23 #[.int .i64 (t / 1440 + 1)] w (fun e w' => e = .returned (.tuple #[.agg #[.int .i64 y, .int .i64 m, .int .i64 d], .bool true]) ∧ Below w.heap.size w w') from by rw [← hn]; exact rdate_num y m d w hd)
  have HD := Lib.hid hd
  have TT := Lib.hid (show timeT y.toNat m.toNat d.toNat (t % 1440 / 60).toNat (t % 60).toNat = (((dateT y.toNat m.toNat d.toNat ++ [32]) ++ d2 ((t % 1440 / 60).toNat % 100)) ++ [58]) ++ d2 ((t % 60).toNat % 100) by
    rw [timeT, show (t % 1440 / 60).toNat % 100 = (t % 1440 / 60).toNat by omega, show (t % 60).toNat % 100 = (t % 60).toNat by omega]; simp)
  clear ht hd hn
  go_enter Tryz.func8, Tryz.ntmps8
  go_wp2_with fail
  refine DN.out.mono ?_; rintro e w1 ⟨rfl, hb1⟩
  have B1 := Lib.hid hb1
  have hs1 := hb1.size
  clear hb1
  go_wp2_with fail
  refine (rshowd_any y m d _ HD.out).mono ?_; rintro e w2 ⟨rfl, hb2⟩
  have B2 := Lib.hid ((B1.out.alloc hs1 _).trans (hb2.mono (B1.out.alloc hs1 _).size)); clear hb2
  obtain ⟨A, hA⟩ : ∃ x, x = bs (dateT y.toNat m.toNat d.toNat) := ⟨_, rfl⟩
  have zA : A.size ≤ 40 := by rw [hA, bs_size]; simp [dateT, d2_len]
  rw [← hA]
  have EA := Lib.hid hA; clear hA
  go_wp2_with fail
  refine (rtwo_any (t % 1440 / 60) w2 (by omega) (by omega)).mono ?_; rintro e w3 ⟨rfl, hb3⟩
  have B3 := Lib.hid (B2.out.trans (hb3.mono B2.out.size)); clear hb3
  obtain ⟨H, hH⟩ : ∃ x, x = bs (d2 ((t % 1440 / 60).toNat % 100)) := ⟨_, rfl⟩
  have zH : H.size ≤ 40 := by rw [hH, bs_size]; rw [d2_len]; omega
  rw [← hH]
  have EH := Lib.hid hH; clear hH
  go_wp2_with fail
  refine (rtwo_any (t % 60) w3 (by omega) (by omega)).mono ?_; rintro e w4 ⟨rfl, hb4⟩
  have B4 := Lib.hid (B3.out.trans (hb4.mono B3.out.size)); clear hb4
  obtain ⟨M, hM⟩ : ∃ x, x = bs (d2 ((t % 60).toNat % 100)) := ⟨_, rfl⟩
  have zM : M.size ≤ 40 := by rw [hM, bs_size]; rw [d2_len]; omega
  rw [← hM]
  have EM := Lib.hid hM; clear hM
  have E := Lib.hid (show bs (timeT y.toNat m.toNat d.toNat (t % 1440 / 60).toNat (t % 60).toNat) = (((A ++ { data := #[32] }) ++ H) ++ { data := #[58] }) ++ M by
    rw [TT.out, EA.out, EH.out, EM.out, show ({ data := #[32] } : ByteArray) = bs [32] from rfl, show ({ data := #[58] } : ByteArray) = bs [58] from rfl, bs_append, bs_append, bs_append, bs_append])
  go_wp2
  go_ret
  exact ⟨by rw [E.out]; rfl, B4.out⟩

end Go.Proofs.YtiihkdefhhdfnaaGreatDoor
