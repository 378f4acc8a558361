/- Contracts of clock.Print, shaped, number, ParseDate, Time, Parse. Conditions: the table of months, the library's powers of ten lie as they are laid. -/
import Derived.Test.YtiihkdefhhdfnaaGreatDoorClkA
namespace Go.Proofs.YtiihkdefhhdfnaaGreatDoor
open Go.RowKit Go.Shelf
set_option linter.unusedSimpArgs false
set_option linter.unusedVariables false

/-- a time's text. -/
def PrintT (t : Int) (w : World) (e : Ending) (w' : World) : Prop :=
  ∃ y m d : Int, Cal.dateB y m d = true ∧ Cal.num y m d = t / 1440 + 1 ∧ e = .returned (.tuple #[.string (bs (timeT y.toNat m.toNat d.toNat (t % 1440 / 60).toNat (t % 60).toNat)), .nilIface]) ∧ Below w.heap.size w w'

theorem date_lim {y m d : Int} (h : Cal.dateB y m d = true) : 1900 ≤ y ∧ y ≤ 2199 ∧ 1 ≤ m ∧ m ≤ 12 ∧ 1 ≤ d ∧ d ≤ 31 := by
  obtain ⟨h1, h2, h3⟩ := Cal.date_yes h
  obtain ⟨a, b, c, e⟩ := Cal.month_yes h1
  have := Cal.dim_bd y m
  omega

set_option maxRecDepth 100000 in
set_option maxHeartbeats 2000000 in
theorem print_yes (t : Int) (w : World) (hw : Months w) (hP : PowT w) (ht : timeB t = true) :
    Calls Tryz.prog 10 #[.int .i64 t] w (PrintT t w) := by
  obtain ⟨t0, t1⟩ := timeB_yes ht
  have S := Lib.hid (split_yes t w ht)
  obtain ⟨n, hn⟩ : ∃ n, n = t / 1440 + 1 := ⟨_, rfl⟩
  obtain ⟨k, hk⟩ : ∃ k, k = t % 1440 := ⟨_, rfl⟩
  have k0 : 0 ≤ k := by omega
  have k1 : k < 1440 := by omega
  have DY := Lib.hid (date_yes n w hw (by omega) (by omega))
  have F := Lib.hid (show t % 1440 / 60 = k / 60 ∧ t % 60 = k % 60 ∧ t / 1440 + 1 = n by omega)
  rw [← hn, ← hk] at S
  have PT := Lib.hid hP
  clear ht hn hk hw hP t0 t1
  go_enter Tryz.func10, Tryz.ntmps10
  go_wp2_with fail
  refine S.out.mono ?_; rintro e w1 ⟨rfl, rfl⟩
  go_wp2_with fail
  refine DY.out.mono ?_; rintro e w1 ⟨y, m, d, rfl, hd, hnum, hb1⟩
  obtain ⟨a1, a2, a3, a4, a5, a6⟩ := date_lim hd
  have HD := Lib.hid hd; have HN := Lib.hid hnum
  have PT1 := Lib.hid (PT.out.below hb1)
  have B1 := Lib.hid hb1
  have hs1 := hb1.size
  clear hd hnum hb1
  go_wp2_with fail
  refine (pdate_any y m d _ (PT1.out.below ((Below.refl _ _).alloc (Nat.le_refl _) _)) (by omega) (by omega) (by omega) (by omega) (by omega) (by omega)).mono ?_; rintro e w2 ⟨rfl, hb2⟩
  have B2 := Lib.hid ((B1.out.alloc hs1 _).trans (hb2.mono (by simp; omega)))
  clear hb2
  obtain ⟨D, hD⟩ : ∃ x, x = bs (dateT y.toNat m.toNat d.toNat) := ⟨_, rfl⟩
  have dz : D.size ≤ 20 := by rw [hD, bs_size]; simp [dateT, d2_len]
  rw [← hD]
  have XD := Lib.hid hD; clear hD
  go_wp2_with fail
  refine (two_any (k / 60) _ (by omega) (by omega)).mono ?_; rintro e w3 ⟨rfl, rfl⟩
  obtain ⟨H, hH⟩ : ∃ x, x = bs (d2 (k / 60).toNat) := ⟨_, rfl⟩
  have hz : H.size ≤ 20 := by rw [hH, bs_size, d2_len]; omega
  rw [← hH]
  have XH := Lib.hid hH; clear hH
  go_wp2_with fail
  refine (two_any (k % 60) _ (by omega) (by omega)).mono ?_; rintro e w3 ⟨rfl, rfl⟩
  obtain ⟨M, hM⟩ : ∃ x, x = bs (d2 (k % 60).toNat) := ⟨_, rfl⟩
  have mz : M.size ≤ 20 := by rw [hM, bs_size, d2_len]; omega
  rw [← hM]
  have XM := Lib.hid hM; clear hM
  have E := Lib.hid (show bs (timeT y.toNat m.toNat d.toNat (t % 1440 / 60).toNat (t % 60).toNat) = (((D ++ { data := #[32] }) ++ H) ++ { data := #[58] }) ++ M by
    obtain ⟨f1, f2, -⟩ := F.out
    rw [f1, f2, XD.out, XH.out, XM.out, show ({ data := #[32] } : ByteArray) = bs [32] from rfl, show ({ data := #[58] } : ByteArray) = bs [58] from rfl, bs_append, bs_append, bs_append, bs_append]
    congr 1)
  go_wp2
  go_ret2
  exact ⟨y, m, d, HD.out, by rw [F.out.2.2]; exact HN.out, by rw [E.out]; rfl, B2.out⟩

theorem print_no (t : Int) (w : World) (ht : timeB t = false) :
    Calls Tryz.prog 10 #[.int .i64 t] w fun e w' => e = .returned (.tuple #[.string { data := #[] }, .iface 44 (.int .i64 1)]) ∧ w = w' := by
  have S := Lib.hid (split_no t w ht)
  clear ht
  go_enter Tryz.func10, Tryz.ntmps10
  go_wp2_with fail
  refine S.out.mono ?_; rintro e w1 ⟨rfl, rfl⟩
  go_wp2
  go_ret2
  exact ⟨rfl, rfl⟩

theorem dec_lt17 {l : List UInt8} {m : Nat} (h : Lib.decFrom 0 l = some m) (hl : l.length ≤ 17) : m < 100000000000000000 := by
  have h1 := Lib.decFrom_lt l 0 m h
  have h2 : 10 ^ l.length ≤ 10 ^ 17 := Nat.pow_le_pow_right (by decide) hl
  have h3 : (10 : Nat) ^ 17 = 100000000000000000 := by decide
  omega

set_option maxRecDepth 100000 in
set_option maxHeartbeats 2000000 in
/-- a number in a text of digits. -/
theorem number_any (l : List UInt8) (n : Nat) (w : World) (hn : Lib.decFrom 0 l = some n) (hl : l.length ≤ 17) :
    Calls Tryz.prog 33 #[.string (bs l)] w fun e w' => e = .returned (.int .i64 (n : Int)) ∧ Below w.heap.size w w' := by
  have hcv := Lib.run_convert_string_bytes (P := Tryz.prog) w 9 66 5 (bs l) Tryz.underlying9 Tryz.underlying66 Tryz.underlying5
  obtain ⟨cap, hcap⟩ : ∃ cap, cap = grownCap w (bs l).size 0 5 := ⟨_, rfl⟩
  obtain ⟨wb, hwb⟩ : ∃ wb, wb = Lib.bytesWorld w 5 (bs l) := ⟨_, rfl⟩
  have hbw : Below w.heap.size w wb := by rw [hwb]; exact Joins.below_bytesWorld _ w _ _ (Nat.le_refl _)
  have hcell : ∀ j (hj : j < l.length), wb.cell? ⟨w.heap.size, j, none⟩ = some (.int .u8 (l[j].toNat : Int)) := fun j hj => by
    rw [hwb, Lib.bytesWorld_cell w _ _ j (by rw [bs_size]; exact hj)]
    simp [bs, hj]
  have hdig : ∀ j (hj : j < l.length), 48 ≤ l[j].toNat ∧ l[j].toNat ≤ 57 := fun j hj => by
    obtain ⟨d, e⟩ := Lib.digit_of_decFrom l 0 n hn j l[j] (List.getElem?_eq_getElem hj)
    obtain ⟨e1, e2⟩ := digitVal_some e
    rw [e1, dgn (by omega)]; omega
  rw [← hcap, ← hwb, bs_size] at hcv
  have BW := Lib.hid hbw; have CL := Lib.hid hcell; have DG := Lib.hid hdig
  have HN := Lib.hid hn
  clear hcap hwb hbw hcell hdig hn
  go_enter Tryz.func33, Tryz.ntmps33
  go_wp2
  clear hcv
  go_loopg [3, 9] l.length (fun g nv iv wr => ∃ k m : Nat, k ≤ l.length ∧ nv = .int .i64 m ∧ iv = .int .i64 k ∧ g = l.length - k ∧ Hid (Lib.decFrom 0 (l.take k) = some m) ∧ wr = wb)
  case atStart => exact ⟨0, 0, Nat.zero_le _, rfl, rfl, rfl, Lib.hid (by simp [Lib.decFrom]), rfl⟩
  case round =>
    obtain ⟨k, m, hk, rfl, rfl, hg, DM, rfl⟩ := hrel
    have G := Lib.hid hg; clear hg
    have i1 : (0 : Int) ≤ (k : Int) := Int.natCast_nonneg _
    by_cases hlt : k < l.length
    · have c0 := CL.out k hlt
      obtain ⟨d1, d2⟩ := DG.out k hlt
      have hm := dec_lt17 DM.out (by rw [List.length_take]; omega)
      have M1 := Lib.hid (Lib.decFrom_take l k 0 m l[k] (l[k].toNat - 48) DM.out (List.getElem?_eq_getElem hlt) (by unfold Lib.digitVal; rw [if_pos ⟨d1, d2⟩]))
      obtain ⟨c, hc⟩ : ∃ c : Int, c = (l[k].toNat : Int) := ⟨_, rfl⟩
      rw [← hc] at c0
      have V := Lib.hid (show (m : Int) * 10 + (c - 48) = ((m * 10 + (l[k].toNat - 48) : Nat) : Int) by omega)
      have c1 : 48 ≤ c := by omega
      have c2 : c ≤ 57 := by omega
      have i2 : (k : Int) < (l.length : Int) := by omega
      have m1 : (0 : Int) ≤ (m : Int) := Int.natCast_nonneg _
      have m2 : (m : Int) < 100000000000000000 := by omega
      clear hc d1 d2 hm
      go_wp2
      go_roundg (l.length - (k + 1))
      case measure => rw [G.out]; omega
      case rel => exact ⟨k + 1, _, by omega, by rw [V.out], by go_num, rfl, M1, rfl⟩
    · obtain rfl : k = l.length := by omega
      have E := Lib.hid (show m = n by
        have h := DM.out
        rw [List.take_length] at h
        have h2 := HN.out
        rw [h] at h2; exact Option.some.inj h2)
      have t0 : decide ((l.length : Int) < (l.length : Int)) = false := decide_eq_false (by omega)
      go_wp2
      go_ret
      exact ⟨by rw [E.out]; rfl, BW.out⟩

/-- a byte's number and a letter's. -/
theorem byte_num {c d : UInt8} {n m : Int} (hn : n = (c.toNat : Int)) (hm : m = (d.toNat : Int)) : (n == m) = decide (c = d) := by
  rw [Bool.eq_iff_iff, beq_iff_eq, decide_eq_true_eq, hn, hm, ← UInt8.toNat_inj]; omega

set_option maxRecDepth 100000 in
set_option maxHeartbeats 4000000 in
theorem shaped_any (l f : List UInt8) (w : World) (hl : l.length ≤ 9223372036854775807) (hf : f.length ≤ 9223372036854775807) :
    Calls Tryz.prog 31 #[.string (bs l), .string (bs f)] w fun e w' => e = .returned (.bool (shB l f)) ∧ Below w.heap.size w w' := by
  obtain ⟨s, hs0⟩ : ∃ s, s = bs l := ⟨_, rfl⟩
  obtain ⟨r, hr0⟩ : ∃ r, r = bs f := ⟨_, rfl⟩
  have hsz : s.size = l.length := by rw [hs0, bs_size]
  have hrz : r.size = f.length := by rw [hr0, bs_size]
  have hgs : ∀ k (h : k < l.length) (h2 : k < s.size), s[k] = l[k] := by subst hs0; exact fun k h h2 => bs_get l k h h2
  have hgr : ∀ k (h : k < f.length) (h2 : k < r.size), r[k] = f[k] := by subst hr0; exact fun k h h2 => bs_get f k h h2
  rw [← hs0, ← hr0]
  have GS := Lib.hid hgs; have GR := Lib.hid hgr; have SZ := Lib.hid hsz; have RZ := Lib.hid hrz
  have sl : s.size ≤ 9223372036854775807 := by omega
  have rl : r.size ≤ 9223372036854775807 := by omega
  clear hs0 hr0 hgs hgr hsz hrz hl hf
  by_cases hne : s.size = r.size
  · have t1 : ((s.size : Int) != (r.size : Int)) = false := by rw [hne]; simp
    have HE := Lib.hid hne
    clear hne
    go_enter Tryz.func31, Tryz.ntmps31
    go_wp2
    go_loopg [14] s.size (fun g iv wr => ∃ k : Nat, k ≤ s.size ∧ iv = .int .i64 k ∧ g = s.size - k ∧ Hid (shB l f = shB (l.drop k) (f.drop k)) ∧ Below w.heap.size w wr)
    case atStart => exact ⟨0, Nat.zero_le _, rfl, rfl, Lib.hid (by simp), Below.refl _ _⟩
    case round =>
      obtain ⟨k, hk, rfl, hg, DM, hbw⟩ := hrel
      have G := Lib.hid hg; clear hg
      have BW := Lib.hid hbw; clear hbw
      have i1 : (0 : Int) ≤ (k : Int) := Int.natCast_nonneg _
      by_cases hlt : k < s.size
      · have hlr : k < r.size := by have := HE.out; omega
        have hll : k < l.length := by have := SZ.out; omega
        have hlf : k < f.length := by have := RZ.out; omega
        obtain ⟨n, hn⟩ : ∃ n : Int, n = ((l[k]).toNat : Int) := ⟨_, rfl⟩
        obtain ⟨m, hm⟩ : ∃ m : Int, m = ((f[k]).toNat : Int) := ⟨_, rfl⟩
        have hcn : ((s[k]).toNat : Int) = n := by rw [GS.out k hll hlt, hn]
        have hcm : ((r[k]).toNat : Int) = m := by rw [GR.out k hlf hlr, hm]
        obtain ⟨dg, hdg⟩ : ∃ b : Bool, b = decide (48 ≤ (l[k]).toNat ∧ (l[k]).toNat ≤ 57) := ⟨_, rfl⟩
        obtain ⟨x, hx⟩ : ∃ b : Bool, b = (m == 48) := ⟨_, rfl⟩
        obtain ⟨y, hy⟩ : ∃ b : Bool, b = (n == m) := ⟨_, rfl⟩
        have ST := Lib.hid (show shB (l.drop k) (f.drop k) = ((if x = true then dg else y) && shB (l.drop (k + 1)) (f.drop (k + 1))) by
          rw [shB_drop l f k hll hlf, hx, hdg, hy, byte_num hn hm, show (m == 48) = decide (f[k] = 48) from byte_num (d := 48) hm rfl]
          simp)
        have DGN := Lib.hid (show dg = decide (48 ≤ n ∧ n ≤ 57) by rw [hdg, hn, Bool.eq_iff_iff]; simp; omega)
        have i2 : (k : Int) < (s.size : Int) := by omega
        have i3 : (k : Int) < (r.size : Int) := by omega
        have HX := Lib.hid hx; have HY := Lib.hid hy
        clear hn hm hdg hx hy hll hlf
        go_upto_region 6 with fail
        go_cut [6] (fun s6 wx => s6 = .bool dg ∧ wr = wx)
        case first =>
          by_cases h1 : 48 ≤ n
          · by_cases h2 : n ≤ 57
            · have t1 : decide (48 ≤ n) = true := decide_eq_true h1
              have t2 : decide (n ≤ 57) = true := decide_eq_true h2
              have E := Lib.hid (show dg = true by rw [DGN.out]; simp [h1, h2])
              clear h1 h2
              go_wp2
              go_meet
              exact ⟨by rw [E.out], rfl⟩
            · have t1 : decide (48 ≤ n) = true := decide_eq_true h1
              have t2 : decide (n ≤ 57) = false := decide_eq_false h2
              have E := Lib.hid (show dg = false by rw [DGN.out]; simp [h1, h2])
              clear h1 h2
              go_wp2
              go_meet
              exact ⟨by rw [E.out], rfl⟩
          · have t1 : decide (48 ≤ n) = false := decide_eq_false h1
            have E := Lib.hid (show dg = false by rw [DGN.out]; simp [h1])
            clear h1
            go_wp2
            go_meet
            exact ⟨by rw [E.out], rfl⟩
        case rest =>
        obtain ⟨rfl, rfl⟩ := hcut
        go_upto_region 7 with fail
        cases x
        case true =>
          have t1 : (m == 48) = true := HX.out.symm
          have t2 : (m != 48) = false := by simp [bne, t1]
          cases dg
          case true =>
            go_quiet (fail)
            go_wp2
            go_roundg (s.size - (k + 1))
            case measure => rw [G.out]; omega
            case rel => exact ⟨k + 1, by omega, by go_num, rfl, Lib.hid (by rw [DM.out, ST.out]; simp), below_drewN BW.out _⟩
          case false =>
            have E := Lib.hid (show shB l f = false by rw [DM.out, ST.out]; rfl)
            go_quiet (fail)
            go_wp2
            go_ret
            exact ⟨by rw [E.out]; rfl, below_drewN BW.out _⟩
        case false =>
          have t1 : (m == 48) = false := HX.out.symm
          have t2 : (m != 48) = true := by simp [bne, t1]
          cases y
          case true =>
            have t3 : (n != m) = false := by have := HY.out; simp [bne, ← this]
            go_quiet (fail)
            go_wp2
            go_roundg (s.size - (k + 1))
            case measure => rw [G.out]; omega
            case rel => exact ⟨k + 1, by omega, by go_num, rfl, Lib.hid (by rw [DM.out, ST.out]; simp), below_drewN BW.out _⟩
          case false =>
            have t3 : (n != m) = true := by have := HY.out; simp [bne, ← this]
            have E := Lib.hid (show shB l f = false by rw [DM.out, ST.out]; rfl)
            go_quiet (fail)
            go_wp2
            go_ret
            exact ⟨by rw [E.out]; rfl, below_drewN BW.out _⟩
      · obtain rfl : k = s.size := by omega
        have E := Lib.hid (show shB l f = true by
          rw [DM.out, List.drop_of_length_le (by have := SZ.out; omega), List.drop_of_length_le (by have := RZ.out; have := HE.out; omega)]; rfl)
        have t0 : decide ((s.size : Int) < (s.size : Int)) = false := decide_eq_false (by omega)
        go_wp2
        go_ret
        exact ⟨by rw [E.out]; rfl, BW.out⟩
  · have t1 : ((s.size : Int) != (r.size : Int)) = true := by rw [bne_iff_ne]; omega
    have E := Lib.hid (show shB l f = false by
      cases h : shB l f
      · rfl
      · have := shB_len l f h; have := SZ.out; have := RZ.out; omega)
    clear hne
    go_enter Tryz.func31, Tryz.ntmps31
    go_wp2
    go_ret
    exact ⟨by rw [E.out]; rfl, Below.refl _ _⟩

end Go.Proofs.YtiihkdefhhdfnaaGreatDoor
