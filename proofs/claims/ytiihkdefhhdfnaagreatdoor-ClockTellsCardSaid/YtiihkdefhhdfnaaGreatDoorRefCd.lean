/- The contract of the reference chimeref1.Span, for spans that have a text. -/
import Derived.Test.YtiihkdefhhdfnaaGreatDoorRefCb
namespace Go.Proofs.YtiihkdefhhdfnaaGreatDoor
open Go.RowKit Go.Shelf
set_option linter.unusedSimpArgs false
set_option linter.unusedVariables false

theorem pc_len (k : Nat) {m : Nat} (hm : m ≤ 1000000) : (pc k m).length ≤ 21 := by
  unfold pc; split
  · simp
  · have := dec20 (u := m) (by omega)
    simp only [List.length_append, List.length_cons, List.length_nil]; omega

set_option maxRecDepth 100000 in
set_option maxHeartbeats 2000000 in
theorem rspant_any (n : Int) (w : World) (h1 : -1000000 ≤ n) (h2 : n ≤ 1000000) :
    Calls Tryz.prog 14 #[.int .i64 n] w fun e w' => e = .returned (.string (bs (spanT n))) ∧ w = w' := by
  by_cases h0 : n = 0
  · subst h0
    go_enter Tryz.func14, Tryz.ntmps14
    go_wp2
    go_ret
    exact ⟨rfl, rfl⟩
  have t0 : (n == 0) = false := by rw [beq_eq_false_iff_ne]; exact h0
  obtain ⟨v, hv⟩ : ∃ v : Nat, v = n.natAbs := ⟨_, rfl⟩
  obtain ⟨g, hg⟩ : ∃ g : List UInt8, g = if n < 0 then [45] else [] := ⟨_, rfl⟩
  obtain ⟨a, ha⟩ : ∃ a : Nat, a = v / 1440 := ⟨_, rfl⟩
  obtain ⟨b, hb⟩ : ∃ b : Nat, b = v % 1440 / 60 := ⟨_, rfl⟩
  obtain ⟨c, hc⟩ : ∃ c : Nat, c = v % 60 := ⟨_, rfl⟩
  have E0 := Lib.hid (show spanT n = ((g ++ pc 0 a) ++ pc 1 b) ++ pc 2 c by rw [spanT, if_neg h0, hg, hv.symm, pcs, ← ha, ← hb, ← hc]; simp)
  have v1 : v ≤ 1000000 := by omega
  have va : (v : Int) / 1440 = (a : Int) := by omega
  have vb : (v : Int) % 1440 / 60 = (b : Int) := by omega
  have vc : (v : Int) % 60 = (c : Int) := by omega
  have v0 : (0 : Int) ≤ (v : Int) := Int.natCast_nonneg _
  have v2 : (v : Int) ≤ 1000000 := by omega
  have a0 : (0 : Int) ≤ (a : Int) := Int.natCast_nonneg _
  have b0 : (0 : Int) ≤ (b : Int) := Int.natCast_nonneg _
  have c0 : (0 : Int) ≤ (c : Int) := Int.natCast_nonneg _
  have la : a ≤ 1000000 := by omega
  have lb : b ≤ 1000000 := by omega
  have lc : c ≤ 1000000 := by omega
  have GL : g.length ≤ 1 := by rw [hg]; split <;> simp
  have HG := Lib.hid hg
  have HV := Lib.hid hv
  have DG := Lib.hid (fun (k : Nat) (hk : k ≤ 1000000) w => show Calls Tryz.prog 35 #[.int .i64 (k : Int)] w (fun e w' => e = .returned (.string (bs (Lib.decDigits k))) ∧ w = w') from by
    have h := rdigits_pos (k + 1) (k : Int) w (by omega) (by omega) (by omega)
    rw [show ((k : Int)).toNat = k by omega] at h; exact h)
  clear hv hg ha hb hc
  go_enter Tryz.func14, Tryz.ntmps14
  go_upto_if 13 with fail
  go_cut [0, 3] (fun s0 s3 wx => s0 = .int .i64 v ∧ s3 = .string (bs g) ∧ w = wx)
  case first =>
    by_cases hn : n < 0
    · have t1 : decide (n < 0) = true := decide_eq_true hn
      have Vn := Lib.hid (show (v : Int) = -n by rw [HV.out]; omega)
      have Gn := Lib.hid (show g = [45] by rw [HG.out, if_pos hn])
      clear va vb vc
      go_wp2
      go_meet
      exact ⟨by rw [Vn.out], by rw [Gn.out]; rfl, rfl⟩
    · have t1 : decide (n < 0) = false := decide_eq_false hn
      have Vn := Lib.hid (show (v : Int) = n by rw [HV.out]; omega)
      have Gn := Lib.hid (show g = [] by rw [HG.out, if_neg hn])
      clear va vb vc
      go_wp2
      go_meet
      exact ⟨by rw [Vn.out], by rw [Gn.out]; rfl, rfl⟩
  case rest =>
  obtain ⟨rfl, rfl, rfl⟩ := hcut
  go_upto_if 24 with fail
  rw [vb, vc]
  obtain ⟨X0, hX0⟩ : ∃ X, X = bs (g ++ pc 0 a) := ⟨_, rfl⟩
  have Z0 : X0.size ≤ 22 := by
    have := pc_len 0 la

    rw [hX0, bs_size, List.length_append]; omega
  have E1 := Lib.hid hX0
  clear hX0
  go_cut [3] (fun s3 wx => s3 = .string X0 ∧ w = wx)
  case first =>
    by_cases hn : a = 0
    · have hz : ¬ 0 < a := by omega
      have hzi : ¬ (0 : Int) < (a : Int) := by omega
      have PX := Lib.hid (show bs g = X0 by rw [E1.out, hn, pc_zero, List.append_nil])
      clear hn
      go_wp2
      go_meet
      exact ⟨by rw [PX.out], rfl⟩
    · have hz : 0 < a := by omega
      have hzi : (0 : Int) < (a : Int) := by omega
      obtain ⟨D, hD⟩ : ∃ D, D = bs (Lib.decDigits a) := ⟨_, rfl⟩
      have zD : D.size ≤ 20 := by rw [hD, bs_size]; exact dec20 (by omega)
      have PX := Lib.hid (show ((bs g) ++ D) ++ { data := #[100] } = X0 by
        rw [E1.out, hD, pc_pos hn, show ({ data := #[100] } : ByteArray) = bs [letC 0] from rfl, bs_append, bs_append, List.append_assoc])
      have zP : (bs g).size ≤ 1 := by rw [bs_size]; exact GL
      have DD := Lib.hid (fun w => DG.out a la w)
      rw [← hD] at DD
      clear hn hD
      go_wp2_with fail
      refine (DD.out _).mono ?_; rintro e w1 ⟨rfl, rfl⟩
      go_wp2
      go_meet
      exact ⟨by rw [PX.out], rfl⟩
  case rest =>
  obtain ⟨rfl, rfl⟩ := hcut
  go_upto_if 32 with fail
  obtain ⟨X1, hX1⟩ : ∃ X, X = bs ((g ++ pc 0 a) ++ pc 1 b) := ⟨_, rfl⟩
  have Z1 : X1.size ≤ 43 := by
    have := pc_len 1 lb
    have := Z0; have e := E1.out; rw [e, bs_size] at this
    rw [hX1, bs_size, List.length_append]; omega
  have E2 := Lib.hid hX1
  clear hX1
  go_cut [3] (fun s3 wx => s3 = .string X1 ∧ w = wx)
  case first =>
    by_cases hn : b = 0
    · have hz : ¬ 0 < b := by omega
      have hzi : ¬ (0 : Int) < (b : Int) := by omega
      have PX := Lib.hid (show X0 = X1 by rw [E2.out, E1.out, hn, pc_zero, List.append_nil])
      clear hn
      go_wp2
      go_meet
      exact ⟨by rw [PX.out], rfl⟩
    · have hz : 0 < b := by omega
      have hzi : (0 : Int) < (b : Int) := by omega
      obtain ⟨D, hD⟩ : ∃ D, D = bs (Lib.decDigits b) := ⟨_, rfl⟩
      have zD : D.size ≤ 20 := by rw [hD, bs_size]; exact dec20 (by omega)
      have PX := Lib.hid (show ((X0) ++ D) ++ { data := #[104] } = X1 by
        rw [E2.out, E1.out, hD, pc_pos hn, show ({ data := #[104] } : ByteArray) = bs [letC 1] from rfl, bs_append, bs_append, List.append_assoc])
      have zP : (X0).size ≤ 22 := by exact Z0
      have DD := Lib.hid (fun w => DG.out b lb w)
      rw [← hD] at DD
      clear hn hD
      go_wp2_with fail
      refine (DD.out _).mono ?_; rintro e w1 ⟨rfl, rfl⟩
      go_wp2
      go_meet
      exact ⟨by rw [PX.out], rfl⟩
  case rest =>
  obtain ⟨rfl, rfl⟩ := hcut
  go_upto_if 40 with fail
  obtain ⟨X2, hX2⟩ : ∃ X, X = bs (((g ++ pc 0 a) ++ pc 1 b) ++ pc 2 c) := ⟨_, rfl⟩
  have Z2 : X2.size ≤ 64 := by
    have := pc_len 2 lc
    have := Z1; have e := E2.out; rw [e, bs_size] at this
    rw [hX2, bs_size, List.length_append]; omega
  have E3 := Lib.hid hX2
  clear hX2
  go_cut [3] (fun s3 wx => s3 = .string X2 ∧ w = wx)
  case first =>
    by_cases hn : c = 0
    · have hz : ¬ 0 < c := by omega
      have hzi : ¬ (0 : Int) < (c : Int) := by omega
      have PX := Lib.hid (show X1 = X2 by rw [E3.out, E2.out, hn, pc_zero, List.append_nil])
      clear hn
      go_wp2
      go_meet
      exact ⟨by rw [PX.out], rfl⟩
    · have hz : 0 < c := by omega
      have hzi : (0 : Int) < (c : Int) := by omega
      obtain ⟨D, hD⟩ : ∃ D, D = bs (Lib.decDigits c) := ⟨_, rfl⟩
      have zD : D.size ≤ 20 := by rw [hD, bs_size]; exact dec20 (by omega)
      have PX := Lib.hid (show ((X1) ++ D) ++ { data := #[109] } = X2 by
        rw [E3.out, E2.out, hD, pc_pos hn, show ({ data := #[109] } : ByteArray) = bs [letC 2] from rfl, bs_append, bs_append, List.append_assoc])
      have zP : (X1).size ≤ 43 := by exact Z1
      have DD := Lib.hid (fun w => DG.out c lc w)
      rw [← hD] at DD
      clear hn hD
      go_wp2_with fail
      refine (DD.out _).mono ?_; rintro e w1 ⟨rfl, rfl⟩
      go_wp2
      go_meet
      exact ⟨by rw [PX.out], rfl⟩
  case rest =>
  obtain ⟨rfl, rfl⟩ := hcut
  have HX := Lib.hid (show X2 = bs (spanT n) by rw [E0.out]; exact E3.out)
  go_wp2
  go_ret
  exact ⟨by rw [HX.out]; rfl, rfl⟩

end Go.Proofs.YtiihkdefhhdfnaaGreatDoor
