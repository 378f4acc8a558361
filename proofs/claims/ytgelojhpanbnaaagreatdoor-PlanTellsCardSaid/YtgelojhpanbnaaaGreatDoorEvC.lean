/- The contract of event.Check. Conditions: texts below 2^47 bytes; at most 2^43 changes. (printed by gen_evc.py) -/
import Derived.Test.YtgelojhpanbnaaaGreatDoorQ10
import Derived.Deep.RegionHeld3
import Derived.Laws.EntriesVeiled
namespace Go.Proofs.YtgelojhpanbnaaaGreatDoor
open Go.RowKit
set_option linter.unusedSimpArgs false
set_option linter.unusedVariables false

set_option maxRecDepth 100000 in
set_option maxHeartbeats 16000000 in
theorem check_any (nm tx : List UInt8) (st ln : Int) (rp : Bool) (fr ev ct ti : Int) (vm vd vw vp vM vN vC vA : Value) (mo da : List Int) (we : List (Int × Int)) (pk : List Int) (M N : List Int) (C : List (Int × Int)) (A : List Alm) (w : World)
    (h1 : IntsR w vm mo) (h2 : IntsR w vd da) (h3 : PairsR w vw we) (h4 : IntsR w vp pk) (hM : IntsR w vM M) (hN : IntsR w vN N) (hC : PairsR w vC C) (hA : AlmsR w vA A)
    (hnm : nm.length ≤ 140737488351232) (htx : tx.length ≤ 140737488351232) (hcl : C.length ≤ 8796093022208) :
    Calls Tryz.prog 12 #[.agg #[.string (bs nm), .string (bs tx), .int .i64 st, .int .i64 ln, .bool rp, .int .i64 fr, .int .i64 ev, .int .i64 ct, .int .i64 ti, vm, vd, vw, vp, vM, vN, vC, vA]] w fun e w' => e = .returned (errV (evF nm tx st ln rp fr ev ct ti mo da we pk M N C A)) ∧ Below w.heap.size w w' := by
  obtain ⟨i0, hi0, hz0, hz1, hz2⟩ := info_parts intInfoP
  obtain ⟨am, km, rfl, -, -, -⟩ := intsR_open h1
  obtain ⟨ad, kd, rfl, -, -, -⟩ := intsR_open h2
  obtain ⟨aw, kw, rfl, -, -, -⟩ := pairsR_open h3
  obtain ⟨ap, kp, rfl, -, -, -⟩ := intsR_open h4
  obtain ⟨aM, kM, rfl, -, kM2, -⟩ := intsR_open hM
  obtain ⟨aN, kN, rfl, -, kN2, -⟩ := intsR_open hN
  obtain ⟨aC, kC, rfl, -, kC2, -⟩ := pairsR_open hC
  obtain ⟨aA, kA, rfl, -, kA2, -⟩ := almsR_open hA
  obtain ⟨snm, hsnm⟩ : ∃ s, s = bs nm := ⟨_, rfl⟩
  obtain ⟨stx, hstx⟩ : ∃ s, s = bs tx := ⟨_, rfl⟩
  obtain ⟨w0, hw0⟩ : ∃ x, x = w.alloc (.cells #[.string snm, .string stx, .int .i64 st, .int .i64 ln, .bool rp, .int .i64 fr, .int .i64 ev, .int .i64 ct, .int .i64 ti, .slice am mo.length km, .slice ad da.length kd, .slice aw we.length kw, .slice ap pk.length kp, .slice aM M.length kM, .slice aN N.length kN, .slice aC C.length kC, .slice aA A.length kA] 29) := ⟨_, rfl⟩
  have hb0 : Below w.heap.size w w0 := by rw [hw0]; exact (Below.refl _ _).alloc (Nat.le_refl _) _
  have hs0 : w0.heap.size = w.heap.size + 1 := by rw [hw0]; simp
  have ec := hw0 ▸ evC_new w 29 snm stx st ln rp fr ev ct ti (.slice am mo.length km) (.slice ad da.length kd) (.slice aw we.length kw) (.slice ap pk.length kp) (.slice aM M.length kM) (.slice aN N.length kN) (.slice aC C.length kC) (.slice aA A.length kA)
  obtain ⟨w1, hw1⟩ : ∃ x, x = w0.alloc (.cells #[.func (.func 59) #[] #[]] 103) := ⟨_, rfl⟩
  have hb1 : Below w0.heap.size w0 w1 := by rw [hw1]; exact (Below.refl _ _).alloc (Nat.le_refl _) _
  have fc : w1.cell? ⟨w0.heap.size, 0, none⟩ = some (.func (.func 59) #[] #[]) := by rw [hw1]; simp
  have hb01 := hb0.trans (hb1.mono hb0.size)
  have B1 := Lib.hid hb01
  have EC := Lib.hid (ec.below hb1)
  have FC := Lib.hid fc
  have R1 := Lib.hid (h1.below hb01); have R2 := Lib.hid (h2.below hb01); have R3 := Lib.hid (h3.below hb01); have R4 := Lib.hid (h4.below hb01)
  have RM := Lib.hid (hM.below hb01); have RN := Lib.hid (hN.below hb01); have RC := Lib.hid (hC.below hb01); have RA := Lib.hid (hA.below hb01)
  have SN := Lib.hid hsnm; have ST := Lib.hid hstx
  have TZ := Lib.hid (show stx.size = tx.length by rw [hstx, bs_size])
  rw [← hsnm, ← hstx]
  obtain ⟨b, hbq⟩ : ∃ b, b = w.heap.size := ⟨_, rfl⟩
  obtain ⟨fb, hfb⟩ : ∃ b, b = w0.heap.size := ⟨_, rfl⟩
  rw [← hbq] at EC; rw [← hfb] at FC
  have W0 := Lib.hid hw0; have W1 := Lib.hid hw1; have BQ := Lib.hid hbq; have FB := Lib.hid hfb; have S0 := Lib.hid hs0
  obtain ⟨F, hF⟩ : ∃ F, F = evF nm tx st ln rp fr ev ct ti mo da we pk M N C A := ⟨_, rfl⟩
  have FF := Lib.hid hF
  rw [← hF]
  have BX := Lib.hid (Below.refl w1.heap.size w1)
  clear h1 h2 h3 h4 hM hN hC hA hw0 hb0 ec hw1 hb1 fc hb01 hsnm hstx hbq hfb hF hs0
  go_enter Tryz.func12, Tryz.ntmps12
  go_upto_region 1 with fail
  rw [← W0.out]
  rw [← BQ.out]
  go_upto_region 2 with fail
  rw [← W1.out]
  rw [← FB.out]
  have F0 := Lib.hid (show F = if evA nm tx = true then 2 else (if evB st ln = true then 1 else (if evG rp fr ev ct ti mo.length da.length we.length pk.length = true then 3 else (if rp = true ∧ ruleF fr ev ct ti mo da we pk ≠ 0 then ruleF fr ev ct ti mo da we pk else (if evD M.length N.length C.length A.length = true then 4 else (if evE M N C = true then 1 else (if evR M N C = true then 7 else (if A.any almBad = true then 1 else 0))))))) by rw [FF.out]; rfl)
  have NC := Lib.hid (fun w' => show Calls Tryz.prog 60 #[.string snm] w' fun e w'' => e = .returned (.bool (nameB nm)) ∧ Below w'.heap.size w' w'' by rw [SN.out]; exact name_any nm w' hnm)
  have k0 := (EC.out.below BX.out).k0
  have k1 := (EC.out.below BX.out).k1
  obtain ⟨ba, hba⟩ : ∃ x, x = evA nm tx := ⟨_, rfl⟩
  have BA := Lib.hid hba
  clear hba FF
  go_cut [11] (fun s11 wx => s11 = .bool ba ∧ Below w1.heap.size w1 wx)
  case first => as_aux_lemma =>
    go_wp2_with fail
    refine (NC.out _).mono ?_; rintro e w2 ⟨rfl, hb2⟩
    obtain ⟨nb, hnb⟩ : ∃ x, x = nameB nm := ⟨_, rfl⟩
    rw [← hnb]
    have NB := Lib.hid hnb
    have B2 := Lib.hid hb2
    clear hnb k0 k1
    have k1 := ((EC.out.below BX.out).below B2.out).k1
    clear hb2
    cases nb
    · obtain rfl : ba = true := by rw [BA.out, evA, ← NB.out]; rfl
      go_wp2
      go_meet
      exact ⟨rfl, B2.out⟩
    by_cases h60 : 60 < tx.length
    · obtain rfl : ba = true := by rw [BA.out, evA, decide_eq_true h60]; simp
      have t1 : decide ((60 : Int) < (stx.size : Int)) = true := decide_eq_true (by have := TZ.out; omega)
      have t1b : decide (60 < stx.size) = true := decide_eq_true (by have := TZ.out; omega)
      clear h60
      go_wp2
      go_meet
      exact ⟨rfl, B2.out⟩
    have t1 : decide ((60 : Int) < (stx.size : Int)) = false := decide_eq_false (by have := TZ.out; omega)
    have t1b : decide (60 < stx.size) = false := decide_eq_false (by have := TZ.out; omega)
    obtain ⟨tb, htb⟩ : ∃ x, x = tx.any (fun c : UInt8 => textOut (c.toNat : Int)) := ⟨_, rfl⟩
    have TB := Lib.hid (show ba = tb by rw [BA.out, evA, ← NB.out, decide_eq_false h60, ← htb]; simp)
    have TE := Lib.hid htb
    have hcv := Lib.run_convert_string_bytes (P := Tryz.prog) w2 9 129 5 stx Tryz.underlying9 Tryz.underlying129 Tryz.underlying5
    have hN := bytesR_new w2 5 tx htx
    have hB : Below w2.heap.size w2 (Lib.bytesWorld w2 5 stx) := Joins.below_bytesWorld _ w2 _ _ (Nat.le_refl _)
    rw [← ST.out] at hN
    rw [TZ.out] at hcv
    obtain ⟨cap, hcap⟩ : ∃ cap, cap = grownCap w2 tx.length 0 5 := ⟨_, rfl⟩
    obtain ⟨wb, hwb⟩ : ∃ wb, wb = Lib.bytesWorld w2 5 stx := ⟨_, rfl⟩
    rw [← hcap, ← hwb] at hcv hN
    rw [← hwb] at hB
    have NR := Lib.hid hN; have BW := Lib.hid (B2.out.trans (hB.mono B2.out.size))
    clear hcap hwb hN hB h60 htb
    go_wp2_with fail
    refine (contEvT_any _ tx _ NR.out).mono ?_; rintro e w3 ⟨rfl, hb3⟩
    rw [← TE.out]
    have B3 := Lib.hid (BW.out.trans (hb3.mono BW.out.size))
    clear hb3 hcv
    obtain rfl : ba = tb := TB.out
    go_wp2
    go_meet
    exact ⟨rfl, B3.out⟩
  case rest =>
  obtain ⟨rfl, hb⟩ := hcut
  have BX := Lib.hid (BX.out.trans (hb.mono BX.out.size))
  clear hb
  obtain ⟨w2, rfl⟩ : ∃ x, x = wc := ⟨_, rfl⟩
  by_cases hx : ba = true
  · obtain rfl := hx
    obtain rfl : F = 2 := by rw [F0.out, if_pos BA.out.symm]
    go_wp2
    go_ret
    exact ⟨rfl, B1.out.trans (BX.out.mono B1.out.size)⟩
  obtain rfl : ba = false := by simpa using hx
  have F1 := Lib.hid (show F = (if evB st ln = true then 1 else (if evG rp fr ev ct ti mo.length da.length we.length pk.length = true then 3 else (if rp = true ∧ ruleF fr ev ct ti mo da we pk ≠ 0 then ruleF fr ev ct ti mo da we pk else (if evD M.length N.length C.length A.length = true then 4 else (if evE M N C = true then 1 else (if evR M N C = true then 7 else (if A.any almBad = true then 1 else 0))))))) by rw [F0.out, if_neg (by rw [← BA.out]; exact Bool.false_ne_true)])
  clear hx F0
  clear NC k0 k1 BA
  go_upto_region 4 with fail
  have k2 := (EC.out.below BX.out).k2
  have k3 := (EC.out.below BX.out).k3
  have kf := cell_below BX.out FC.out
  obtain ⟨bb, hbb⟩ : ∃ x, x = evB st ln := ⟨_, rfl⟩
  have BB := Lib.hid hbb
  clear hbb
  go_cut [29] (fun s29 wx => s29 = .bool bb ∧ Below w2.heap.size w2 wx)
  case first => as_aux_lemma =>
    go_wp2_with fail
    refine (badT_any st _).mono ?_; rintro e w3 ⟨rfl, rfl⟩
    obtain ⟨q, hq⟩ : ∃ x, x = badT st := ⟨_, rfl⟩
    rw [← hq]
    have Q := Lib.hid hq
    clear hq
    cases q
    · by_cases g1 : ln < 0
      · obtain rfl : bb = true := by rw [BB.out, evB, decide_eq_true g1]; simp
        have t1 : decide (ln < 0) = true := decide_eq_true g1
        clear g1
        go_wp2
        go_meet
        exact ⟨rfl, Below.refl _ _⟩
      · have t1 : decide (ln < 0) = false := decide_eq_false g1
        by_cases g2 : 100000 < ln
        · obtain rfl : bb = true := by rw [BB.out, evB, decide_eq_true g2]; simp
          have t2 : decide (100000 < ln) = true := decide_eq_true g2
          clear g1 g2
          go_wp2
          go_meet
          exact ⟨rfl, Below.refl _ _⟩
        · obtain rfl : bb = false := by rw [BB.out, evB, ← Q.out, decide_eq_false g1, decide_eq_false g2]; rfl
          have t2 : decide (100000 < ln) = false := decide_eq_false g2
          clear g1 g2
          go_wp2
          go_meet
          exact ⟨rfl, Below.refl _ _⟩
    · obtain rfl : bb = true := by rw [BB.out, evB, ← Q.out]; rfl
      go_wp2
      go_meet
      exact ⟨rfl, Below.refl _ _⟩
  case rest =>
  obtain ⟨rfl, hb⟩ := hcut
  have BX := Lib.hid (BX.out.trans (hb.mono BX.out.size))
  clear hb
  obtain ⟨w3, rfl⟩ : ∃ x, x = wc := ⟨_, rfl⟩
  by_cases hx : bb = true
  · obtain rfl := hx
    obtain rfl : F = 1 := by rw [F1.out, if_pos BB.out.symm]
    go_wp2
    go_ret
    exact ⟨rfl, B1.out.trans (BX.out.mono B1.out.size)⟩
  obtain rfl : bb = false := by simpa using hx
  have F2 := Lib.hid (show F = (if evG rp fr ev ct ti mo.length da.length we.length pk.length = true then 3 else (if rp = true ∧ ruleF fr ev ct ti mo da we pk ≠ 0 then ruleF fr ev ct ti mo da we pk else (if evD M.length N.length C.length A.length = true then 4 else (if evE M N C = true then 1 else (if evR M N C = true then 7 else (if A.any almBad = true then 1 else 0)))))) by rw [F1.out, if_neg (by rw [← BB.out]; exact Bool.false_ne_true)])
  clear hx F1
  clear BB k2 k3 kf
  go_upto_region 6 with fail
  have k4 := (EC.out.below BX.out).k4
  have k5 := (EC.out.below BX.out).k5
  have k6 := (EC.out.below BX.out).k6
  have k7 := (EC.out.below BX.out).k7
  have k8 := (EC.out.below BX.out).k8
  have k9 := (EC.out.below BX.out).k9
  have k10 := (EC.out.below BX.out).k10
  have k11 := (EC.out.below BX.out).k11
  have k12 := (EC.out.below BX.out).k12
  obtain ⟨bg, hbg⟩ : ∃ x, x = evG rp fr ev ct ti mo.length da.length we.length pk.length := ⟨_, rfl⟩
  have BG := Lib.hid hbg
  clear hbg
  go_cut [45] (fun s45 wx => s45 = .bool bg ∧ Below w3.heap.size w3 wx)
  case first => as_aux_lemma =>
    cases rp
    · obtain ⟨eb, heb⟩ : ∃ x, x = emptyB fr ev ct ti mo.length da.length we.length pk.length := ⟨_, rfl⟩
      have EB := Lib.hid heb
      obtain rfl : bg = !eb := by rw [BG.out, evG, heb]; rfl
      clear heb
      go_wp2_with fail
      refine (empty_any fr ev ct ti _ _ _ _ mo da we pk _ (R1.out.below BX.out) (R2.out.below BX.out) (R3.out.below BX.out) (R4.out.below BX.out)).mono ?_; rintro e w4 ⟨rfl, hb4⟩
      rw [← EB.out]
      have B4 := Lib.hid hb4
      clear hb4
      go_wp2
      go_meet
      exact ⟨rfl, B4.out⟩
    · obtain rfl : bg = false := by rw [BG.out, evG]; rfl
      go_wp2
      go_meet
      exact ⟨rfl, Below.refl _ _⟩
  case rest =>
  obtain ⟨rfl, hb⟩ := hcut
  have BX := Lib.hid (BX.out.trans (hb.mono BX.out.size))
  clear hb
  obtain ⟨w4, rfl⟩ : ∃ x, x = wc := ⟨_, rfl⟩
  by_cases hx : bg = true
  · obtain rfl := hx
    obtain rfl : F = 3 := by rw [F2.out, if_pos BG.out.symm]
    go_wp2
    go_ret
    exact ⟨rfl, B1.out.trans (BX.out.mono B1.out.size)⟩
  obtain rfl : bg = false := by simpa using hx
  have F3 := Lib.hid (show F = (if rp = true ∧ ruleF fr ev ct ti mo da we pk ≠ 0 then ruleF fr ev ct ti mo da we pk else (if evD M.length N.length C.length A.length = true then 4 else (if evE M N C = true then 1 else (if evR M N C = true then 7 else (if A.any almBad = true then 1 else 0))))) by rw [F2.out, if_neg (by rw [← BG.out]; exact Bool.false_ne_true)])
  clear hx F2
  clear BG k4 k5 k6 k7 k8 k9 k10 k11 k12
  have k4 := (EC.out.below BX.out).k4
  have k5 := (EC.out.below BX.out).k5
  have k6 := (EC.out.below BX.out).k6
  have k7 := (EC.out.below BX.out).k7
  have k8 := (EC.out.below BX.out).k8
  have k9 := (EC.out.below BX.out).k9
  have k10 := (EC.out.below BX.out).k10
  have k11 := (EC.out.below BX.out).k11
  have k12 := (EC.out.below BX.out).k12
  go_upto_if 57 with fail
  go_cut [4] (fun s4 wx => Hid (F = (if evD M.length N.length C.length A.length = true then 4 else (if evE M N C = true then 1 else (if evR M N C = true then 7 else (if A.any almBad = true then 1 else 0))))) ∧ Below w4.heap.size w4 wx)
  case first => as_aux_lemma =>
    cases rp
    · have G := Lib.hid (show F = (if evD M.length N.length C.length A.length = true then 4 else (if evE M N C = true then 1 else (if evR M N C = true then 7 else (if A.any almBad = true then 1 else 0)))) by rw [F3.out, if_neg (by simp)])
      go_wp2
      go_meet
      exact ⟨G, Below.refl _ _⟩
    · obtain ⟨rf, hrf⟩ : ∃ x, x = ruleF fr ev ct ti mo da we pk := ⟨_, rfl⟩
      have RF := Lib.hid hrf
      have F3b := Lib.hid (show F = if rf ≠ 0 then rf else (if evD M.length N.length C.length A.length = true then 4 else (if evE M N C = true then 1 else (if evR M N C = true then 7 else (if A.any almBad = true then 1 else 0)))) by rw [F3.out, ← hrf]; simp)
      clear hrf F3
      go_wp2_with fail
      refine (rcheck_any fr ev ct ti _ _ _ _ mo da we pk _ (R1.out.below BX.out) (R2.out.below BX.out) (R3.out.below BX.out) (R4.out.below BX.out)).mono ?_; rintro e w5 ⟨rfl, hb5⟩
      rw [← RF.out]
      have B5 := Lib.hid hb5
      clear hb5
      by_cases h0 : rf = 0
      · have G := Lib.hid (show F = (if evD M.length N.length C.length A.length = true then 4 else (if evE M N C = true then 1 else (if evR M N C = true then 7 else (if A.any almBad = true then 1 else 0)))) by rw [F3b.out, if_neg (by simp [h0])])
        rw [h0, errV_0]
        go_wp2
        go_meet
        exact ⟨G, B5.out⟩
      · have EV := Lib.hid (show errV rf = .iface 124 (.int .i64 rf) by rw [errV, if_neg h0])
        have FE := Lib.hid (show F = rf by rw [F3b.out, if_pos h0])
        rw [EV.out]
        clear h0
        go_wp2
        go_ret
        exact ⟨by rw [FE.out, EV.out]; rfl, B1.out.trans ((BX.out.trans (B5.out.mono BX.out.size)).mono B1.out.size)⟩
  case rest =>
  obtain ⟨F4, hb⟩ := hcut
  have BX := Lib.hid (BX.out.trans (hb.mono BX.out.size))
  clear hb
  obtain ⟨w5, rfl⟩ : ∃ x, x = wc := ⟨_, rfl⟩
  clear F3 k4 k5 k6 k7 k8 k9 k10 k11 k12
  have k15 := (EC.out.below BX.out).k15
  have RC5 := Lib.hid (RC.out.below BX.out)
  unfold maxLen at kC2
  go_upto_block 1 with fail
  go_cut [5] (fun s5 wx => wx.ownsRow w5.heap.size 3 1 s5 C.length ((C.map (·.1)).map (Value.int .i64)) ∧ Below w5.heap.size w5 wx)
  case first => as_aux_lemma =>
    obtain ⟨a6, c6, e6, _, _, hds⟩ := pairsR_open RC5.out
    cases e6
    have HC := Lib.hid hds
    clear hds
    go_wp2_with fail
    go_loopg [5, 67] C.length (fun g ov iv wr => ∃ k : Nat, k ≤ C.length ∧ iv = .int .i64 k ∧ g = C.length - k ∧ wr.ownsRow w5.heap.size 3 1 ov k (((C.take k).map (·.1)).map (Value.int .i64)) ∧ Below w5.heap.size w5 wr)
    case atStart => exact ⟨0, Nat.zero_le _, rfl, rfl, World.ownsRow_nil _ _ _ _, Below.refl _ _⟩
    case round =>
      obtain ⟨k, hk, rfl, hg, hown, hb⟩ := hrel
      obtain ⟨Q, hQ⟩ : ∃ q, q = (C.take k).map (·.1) := ⟨_, rfl⟩
      rw [← hQ] at hown
      have QE := Lib.hid hQ
      clear hQ
      have G := Lib.hid hg
      have BW := Lib.hid hb
      have OW := Lib.hid hown
      obtain ⟨wo, rfl⟩ : ∃ x, x = wr := ⟨_, rfl⟩
      clear hg hown k15
      have i1 : (0 : Int) ≤ (k : Int) := Int.natCast_nonneg _
      by_cases hlt : k < C.length
      · obtain ⟨cb, co, rfl, hcs⟩ := HC.out (by omega)
        have c0 := cell_below hb (hcs k hlt).1
        have c1 := cell_below hb (hcs k hlt).2
        obtain ⟨x, hx⟩ : ∃ x, x = C[k].1 := ⟨_, rfl⟩
        obtain ⟨y, hy⟩ : ∃ y, y = C[k].2 := ⟨_, rfl⟩
        rw [← hx] at c0; rw [← hy] at c1
        have X := Lib.hid (show (C.take (k + 1)).map (·.1) = Q ++ [x] by rw [List.take_succ_eq_append_getElem hlt, List.map_append, hx, QE.out]; rfl)
        have hbs := hb.size
        clear hx hy hcs hb
        have i2 : (k : Int) < (C.length : Int) := by omega
        go_upto_region 16 with fail
        obtain ⟨wv, hwv⟩ : ∃ v, v = wo.alloc (.cells #[.int .i64 x, .int .i64 y] 134) := ⟨_, rfl⟩
        rw [← hwv]
        have d0 : wv.cell? ⟨wo.heap.size, 0, none⟩ = some (.int .i64 x) := by rw [hwv]; simp
        have hbv : Below wo.heap.size wo wv := by rw [hwv]; exact (Below.refl _ _).alloc (Nat.le_refl _) _
        have hown := OW.out.alloc (.cells #[.int .i64 x, .int .i64 y] 134)
        rw [← hwv] at hown
        have BV := Lib.hid (BW.out.trans (hbv.mono hbs))
        have hvs := BV.out.size
        clear hwv c0 c1 hbv
        go_wp2_with (at_builtin; refine wpList_append_lies _ rfl _ _ 22 rfl w5.heap.size 3 i0 _ 1 8 Tryz.underlying22 hi0 hz0 hz1 hz2 rfl (by decide) _ _ _ rfl (hown.alloc _) ⟨wv.heap.size, 0, none⟩ 1 1 [.int .i64 x] rfl rfl ?c1 ?c2 (by decide) (by unfold maxLen; omega) (by omega) (by simp; omega) _ rfl ?_)
        case c1 => exact cell_one_new _ _ _
        case c2 => first | rfl | (intro u hu; simp at hu; subst hu; rfl)
        intro g3 cap3 wn hown3 hgrow3 hat3 hlt3
        have B3 := Lib.hid ((BV.out.alloc hvs (.cells #[.int .i64 x] 3)).grown hgrow3 (by simp; omega) (ownBlock_ge hown))
        have O3 := Lib.hid hown3
        clear hown3 hgrow3 hat3 hlt3 hown d0
        go_wp2
        go_roundg (C.length - (k + 1))
        case measure => rw [G.out]; omega
        case rel => exact ⟨k + 1, by omega, by go_num, rfl, by rw [X.out, List.map_append]; exact O3.out, B3.out⟩
      · obtain rfl : k = C.length := by omega
        have i2 : ¬ (C.length : Int) < (C.length : Int) := by omega
        have O := Lib.hid (show wo.ownsRow w5.heap.size 3 1 _ C.length ((C.map (·.1)).map (Value.int .i64)) by have := OW.out; rw [QE.out, List.take_length] at this; exact this)
        go_wp2
        go_meet
        exact ⟨O.out, BW.out⟩
  case rest =>
  obtain ⟨hown, hb⟩ := hcut
  have RT := Lib.hid (show IntsR wc _ (C.map (·.1)) from intsR_of_owns (by rw [List.length_map]; exact hown))
  clear hown k15 RC5
  have BX := Lib.hid (BX.out.trans (hb.mono BX.out.size))
  clear hb
  obtain ⟨w6, rfl⟩ : ∃ x, x = wc := ⟨_, rfl⟩
  have k13 := (EC.out.below BX.out).k13
  have k14 := (EC.out.below BX.out).k14
  have k15 := (EC.out.below BX.out).k15
  have k16 := (EC.out.below BX.out).k16
  obtain ⟨bd, hbd⟩ : ∃ x, x = evD M.length N.length C.length A.length := ⟨_, rfl⟩
  have BD := Lib.hid hbd
  clear hbd
  go_upto_region 18 with fail
  go_cut [77] (fun s77 wx => s77 = .bool bd ∧ w6 = wx)
  case first => as_aux_lemma =>
    go_wp2
    all_goals
      go_meet
      refine ⟨congrArg Value.bool ?_, rfl⟩
      rw [BD.out, evD, Bool.eq_iff_iff]
      simp only [Bool.or_eq_true, decide_eq_true_eq, Bool.false_eq_true, false_or, or_false, true_iff, iff_true, false_iff, iff_false]
      omega
  case rest =>
  obtain ⟨rfl, rfl⟩ := hcut
  by_cases hx : bd = true
  · obtain rfl := hx
    obtain rfl : F = 4 := by rw [F4.out, if_pos BD.out.symm]
    go_wp2
    go_ret
    exact ⟨rfl, B1.out.trans (BX.out.mono B1.out.size)⟩
  obtain rfl : bd = false := by simpa using hx
  have F5 := Lib.hid (show F = (if evE M N C = true then 1 else (if evR M N C = true then 7 else (if A.any almBad = true then 1 else 0))) by rw [F4.out, if_neg (by rw [← BD.out]; exact Bool.false_ne_true)])
  clear hx F4
  have LN := Lib.hid (show M.length ≤ 100 ∧ N.length ≤ 100 ∧ C.length ≤ 100 ∧ A.length ≤ 4 by
    have h := BD.out
    simp [evD] at h
    omega)
  clear BD k13 k14 k15 k16
  obtain ⟨T, hT⟩ : ∃ T, T = C.map (·.1) := ⟨_, rfl⟩
  rw [← hT] at RT
  have TL := Lib.hid (show T.length ≤ 100 by rw [hT, List.length_map]; exact LN.out.2.2.1)
  have TE := Lib.hid hT
  clear hT
  obtain ⟨aT, kT, rfl, -, -, -⟩ := intsR_open RT.out
  go_upto_region 20 with fail
  have k13 := (EC.out.below BX.out).k13
  have k14 := (EC.out.below BX.out).k14
  have kf := cell_below BX.out FC.out
  have HE := Lib.hid (show HoldE w6 w6 b fb (.slice aM M.length kM) (.slice aN N.length kN) (.slice aT T.length kT) M N T from ⟨Below.refl _ _, k13, k14, kf, RM.out.below BX.out, RN.out.below BX.out, RT.out⟩)
  obtain ⟨bi, hbi⟩ : ∃ x, x = (M ++ N ++ T).any badT := ⟨_, rfl⟩
  have BI := Lib.hid hbi
  clear hbi
  go_cut [96] (fun s96 wx => s96 = .bool bi ∧ Below w6.heap.size w6 wx)
  case first => as_aux_lemma =>
    go_region_held3 (fun w' => w'.cell? ⟨b, 13, none⟩ = some (.slice aM M.length kM) ∧ w'.cell? ⟨b, 14, none⟩ = some (.slice aN N.length kN) ∧ w'.cell? ⟨fb, 0, none⟩ = some (.func (.func 59) #[] #[]) ∧ HoldE w6 w' b fb (.slice aM M.length kM) (.slice aN N.length kN) (.slice aT T.length kT) M N T)
      (first | (refine ⟨?_, ?_, ?_, ?_⟩ <;> (first | assumption | exact HE.out | exact HoldE.drew HE.out | exact HoldE.drew1 HE.out)) | (go_split_ands; refine ⟨?_, ?_, ?_, ?_⟩ <;> (first | assumption | exact cell_allocE (by assumption) | exact HoldE.alloc (by assumption) | exact HoldE.alloc (HoldE.drew (by assumption)))) | (go_split_ands; refine ⟨?_, ?_, ?_, ?_⟩ <;> (first | assumption | exact cell_below hb7 (by assumption) | exact HoldE.next (by assumption) hb7)) | (go_split_ands; refine ⟨?_, ?_, ?_, ?_⟩ <;> (first | assumption | exact cell_below hb8 (by assumption) | exact HoldE.next (by assumption) hb8)))
      (first
        | (go_at_call 66; refine (concat3_any _ _ _ M N T _ _ (by go_split_ands; exact HoldE.rM (by assumption)) (by go_split_ands; exact HoldE.rN (by assumption)) (by go_split_ands; exact HoldE.rT (by assumption)) (by simp) (by simp) (by simp) LN.out.1 LN.out.2.1 TL.out).mono ?_; rintro e w7 ⟨v7, rfl, hv7, hb7⟩)
        | (go_at_call 65; refine (contEvI_any _ (M ++ N ++ T) _ (by first | exact hv7 | exact hv7.below (below_drewN (Below.refl _ _) _))).mono ?_; rintro e w8 ⟨rfl, hb8⟩; rw [← BI.out]))
    have H8 : Below w6.heap.size w6 _ := HoldE.bl (by first | exact HoldE.next (HoldE.next (HoldE.alloc (HoldE.drew HE.out)) hb7) hb8 | exact HoldE.next (HoldE.drew (HoldE.next (HoldE.alloc (HoldE.drew HE.out)) hb7)) hb8 | exact HoldE.next (HoldE.next (HoldE.alloc HE.out) hb7) hb8 | exact HoldE.next (HoldE.drew (HoldE.next (HoldE.alloc HE.out) hb7)) hb8)
    have B8 := Lib.hid H8
    clear H8 k13 k14 kf
    go_wp2
    go_meet
    exact ⟨rfl, by first | exact B8.out | exact below_drewN B8.out _⟩
  case rest =>
  obtain ⟨rfl, hb⟩ := hcut
  have BQ7 := Lib.hid hb
  have BX := Lib.hid (BX.out.trans (hb.mono BX.out.size))
  clear hb
  obtain ⟨w7, rfl⟩ : ∃ x, x = wc := ⟨_, rfl⟩
  have F5b := Lib.hid (show F = if (bi || C.any badC) = true then 1 else (if evR M N C = true then 7 else (if A.any almBad = true then 1 else 0)) by rw [F5.out, evE, ← TE.out, ← BI.out])
  have RTb := Lib.hid (RT.out.below (show Below w6.heap.size w6 w7 from BQ7.out))
  clear F5 HE RT k13 k14 kf
  by_cases hx : bi = true
  · obtain rfl := hx
    obtain rfl : F = 1 := by rw [F5b.out, if_pos (by simp)]
    go_wp2
    go_ret
    exact ⟨rfl, B1.out.trans (BX.out.mono B1.out.size)⟩
  obtain rfl : bi = false := by simpa using hx
  clear hx BI
  have k15 := (EC.out.below BX.out).k15
  have kf := cell_below BX.out FC.out
  obtain ⟨bc, hbc⟩ : ∃ x, x = C.any badC := ⟨_, rfl⟩
  have BC := Lib.hid hbc
  have F5c := Lib.hid (show F = if bc = true then 1 else (if evR M N C = true then 7 else (if A.any almBad = true then 1 else 0)) by rw [F5b.out, ← hbc]; rfl)
  clear hbc F5b
  go_wp2_with fail
  refine (contEvC_any _ C fb _ (RC.out.below BX.out) kf).mono ?_; rintro e w8 ⟨rfl, hb8⟩
  rw [← BC.out]
  have RT := Lib.hid (RTb.out.below hb8)
  have BX := Lib.hid (BX.out.trans (hb8.mono BX.out.size))
  clear hb8 RTb k15 kf
  by_cases hx : bc = true
  · obtain rfl := hx
    obtain rfl : F = 1 := by rw [F5c.out, if_pos rfl]
    go_wp2
    go_ret
    exact ⟨rfl, B1.out.trans (BX.out.mono B1.out.size)⟩
  obtain rfl : bc = false := by simpa using hx
  have F6 := Lib.hid (show F = (if evR M N C = true then 7 else (if A.any almBad = true then 1 else 0)) by rw [F5c.out, if_neg Bool.false_ne_true])
  clear hx F5c BC
  have k13 := (EC.out.below BX.out).k13
  have k14 := (EC.out.below BX.out).k14
  go_upto_region 23 with fail
  obtain ⟨br, hbr⟩ : ∃ x, x = evR M N C := ⟨_, rfl⟩
  have BR := Lib.hid (show br = (!risesB M || !risesB N || !risesB T) by rw [hbr, evR, TE.out])
  have BR2 := Lib.hid hbr
  clear hbr
  go_cut [111] (fun s111 wx => s111 = .bool br ∧ Below w8.heap.size w8 wx)
  case first => as_aux_lemma =>
    go_wp2_with fail
    refine (evrises_any _ M _ (RM.out.below BX.out)).mono ?_; rintro e w9 ⟨rfl, hb9⟩
    obtain ⟨q1, hq1⟩ : ∃ x, x = risesB M := ⟨_, rfl⟩
    rw [← hq1]
    have Q1 := Lib.hid hq1
    have B9 := Lib.hid hb9
    clear hq1 hb9 k13 k14
    have k14 := ((EC.out.below BX.out).below B9.out).k14
    cases q1
    · obtain rfl : br = true := by rw [BR.out, ← Q1.out]; rfl
      go_wp2
      go_meet
      exact ⟨rfl, B9.out⟩
    go_wp2_with fail
    refine (evrises_any _ N _ ((RN.out.below BX.out).below B9.out)).mono ?_; rintro e w10 ⟨rfl, hb10⟩
    obtain ⟨q2, hq2⟩ : ∃ x, x = risesB N := ⟨_, rfl⟩
    rw [← hq2]
    have Q2 := Lib.hid hq2
    have B10 := Lib.hid (B9.out.trans (hb10.mono B9.out.size))
    clear hq2 hb10 k14
    cases q2
    · obtain rfl : br = true := by rw [BR.out, ← Q1.out, ← Q2.out]; rfl
      go_wp2
      go_meet
      exact ⟨rfl, B10.out⟩
    go_wp2_with fail
    refine (evrises_any _ T _ (RT.out.below B10.out)).mono ?_; rintro e w11 ⟨rfl, hb11⟩
    obtain ⟨q3, hq3⟩ : ∃ x, x = risesB T := ⟨_, rfl⟩
    rw [← hq3]
    have Q3 := Lib.hid hq3
    have B11 := Lib.hid (B10.out.trans (hb11.mono B10.out.size))
    clear hq3 hb11
    obtain rfl : br = !q3 := by rw [BR.out, ← Q1.out, ← Q2.out, ← Q3.out]; rfl
    go_wp2
    go_meet
    exact ⟨rfl, B11.out⟩
  case rest =>
  obtain ⟨rfl, hb⟩ := hcut
  have BX := Lib.hid (BX.out.trans (hb.mono BX.out.size))
  clear hb
  obtain ⟨w9, rfl⟩ : ∃ x, x = wc := ⟨_, rfl⟩
  by_cases hx : br = true
  · obtain rfl := hx
    obtain rfl : F = 7 := by rw [F6.out, if_pos BR2.out.symm]
    go_wp2
    go_ret
    exact ⟨rfl, B1.out.trans (BX.out.mono B1.out.size)⟩
  obtain rfl : br = false := by simpa using hx
  have F7 := Lib.hid (show F = (if A.any almBad = true then 1 else 0) by rw [F6.out, if_neg (by rw [← BR2.out]; exact Bool.false_ne_true)])
  clear hx F6
  clear BR BR2 k13 k14 RT
  have k16 := (EC.out.below BX.out).k16
  have RA9 := Lib.hid (RA.out.below BX.out)
  unfold maxLen at kA2
  obtain ⟨a6, c6, e6, _, _, hds⟩ := almsR_open RA9.out
  cases e6
  have HA := Lib.hid hds
  clear hds RA9
  go_wp2_with fail
  clear k16
  go_loopg [131] A.length (fun g iv wr => ∃ k : Nat, k ≤ A.length ∧ iv = .int .i64 k ∧ g = A.length - k ∧ Hid ((A.take k).any almBad = false) ∧ Below w9.heap.size w9 wr)
  case atStart => exact ⟨0, Nat.zero_le _, rfl, rfl, Lib.hid (by simp), Below.refl _ _⟩
  case round =>
    obtain ⟨k, hk, rfl, hg, AN, hb⟩ := hrel
    have G := Lib.hid hg
    have BW := Lib.hid (BX.out.trans (hb.mono BX.out.size))
    have BV := Lib.hid hb
    obtain ⟨wo, rfl⟩ : ∃ x, x = wr := ⟨_, rfl⟩
    clear hg
    have i1 : (0 : Int) ≤ (k : Int) := Int.natCast_nonneg _
    by_cases hlt : k < A.length
    · obtain ⟨ab, ao, rfl, hcs⟩ := HA.out (by omega)
      obtain ⟨c0, c1, c2, c3⟩ := hcs k hlt
      have c0 := cell_below hb c0
      have c1 := cell_below hb c1
      have c2 := cell_below hb c2
      have c3 := cell_below hb c3
      obtain ⟨o, ho⟩ : ∃ x, x = A[k].1 := ⟨_, rfl⟩
      obtain ⟨en, hen⟩ : ∃ x, x = A[k].2.1 := ⟨_, rfl⟩
      obtain ⟨r, hr⟩ : ∃ x, x = A[k].2.2.1 := ⟨_, rfl⟩
      obtain ⟨bt, hbt⟩ : ∃ x, x = A[k].2.2.2 := ⟨_, rfl⟩
      rw [← ho] at c0; rw [← hen] at c1; rw [← hr] at c2; rw [← hbt] at c3
      obtain ⟨ae, hae⟩ : ∃ x, x = almE o r bt := ⟨_, rfl⟩
      have AE := Lib.hid (show almBad A[k] = (ae != 0) by rw [almBad, hae, ho, hr, hbt])
      have AQ := Lib.hid hae
      have A01 := Lib.hid (show ae = 0 ∨ ae = 1 by rw [hae, almE]; split <;> simp)
      have hbs := hb.size
      clear hcs ho hen hr hbt hae hb
      have i2 : (k : Int) < (A.length : Int) := by omega
      go_upto_region 28 with fail
      obtain ⟨wv, hwv⟩ : ∃ v, v = wo.alloc (.cells #[.int .i64 o, .bool en, .int .i64 r, .int .i64 bt] 84) := ⟨_, rfl⟩
      rw [← hwv]
      have d0 : wv.cell? ⟨wo.heap.size, 0, none⟩ = some (.int .i64 o) := by rw [hwv]; simp
      have d1 : wv.cell? ⟨wo.heap.size, 1, none⟩ = some (.bool en) := by rw [hwv]; simp
      have d2 : wv.cell? ⟨wo.heap.size, 2, none⟩ = some (.int .i64 r) := by rw [hwv]; simp
      have d3 : wv.cell? ⟨wo.heap.size, 3, none⟩ = some (.int .i64 bt) := by rw [hwv]; simp
      have hbv : Below wo.heap.size wo wv := by rw [hwv]; exact (Below.refl _ _).alloc (Nat.le_refl _) _
      have BV := Lib.hid (BV.out.trans (hbv.mono hbs))
      clear hwv hbv c0 c1 c2 c3
      go_wp2_with fail
      refine (alarm_any o r bt en _).mono ?_; rintro e wn ⟨rfl, hbn⟩
      rw [← AQ.out]
      have BV := Lib.hid (BV.out.trans (hbn.mono BV.out.size))
      clear hbn d0 d1 d2 d3
      rcases A01.out with h0 | h0
      · obtain rfl := h0
        have AN2 := Lib.hid (any_no (p := almBad) hlt AN.out (by rw [AE.out]; rfl))
        rw [errV_0]
        go_wp2
        go_roundg (A.length - (k + 1))
        case measure => rw [G.out]; omega
        case rel => exact ⟨k + 1, by omega, by go_num, rfl, AN2, BV.out⟩
      · obtain rfl := h0
        obtain rfl : F = 1 := by rw [F7.out, if_pos (any_yes (p := almBad) hlt (by rw [AE.out]; rfl))]
        rw [show errV 1 = .iface 124 (.int .i64 1) from rfl]
        go_wp2
        go_ret
        exact ⟨rfl, B1.out.trans ((BX.out.trans (BV.out.mono BX.out.size)).mono B1.out.size)⟩
    · obtain rfl : k = A.length := by omega
      have i2 : ¬ (A.length : Int) < (A.length : Int) := by omega
      obtain rfl : F = 0 := by rw [F7.out, if_neg (by have := AN.out; rw [List.take_length] at this; rw [this]; exact Bool.false_ne_true)]
      go_wp2
      go_ret
      exact ⟨rfl, B1.out.trans (BW.out.mono B1.out.size)⟩

end Go.Proofs.YtgelojhpanbnaaaGreatDoor
