/- times.Between: its contract. Conditions: texts and lists of a size that any machine's are. -/
import Derived.Test.YtgelojhpanbnaaaGreatDoorTimHa
namespace Go.Proofs.YtgelojhpanbnaaaGreatDoor
open Go.RowKit Go.Shelf
set_option linter.unusedSimpArgs false
set_option linter.unusedVariables false

set_option maxRecDepth 100000 in
set_option maxHeartbeats 8000000 in
theorem between_any (nm tx : List UInt8) (st ln : Int) (rp : Bool) (fr ev ct ti : Int) (vm vd vw vp vM vN vC vA : Value) (mo da : List Int) (we : List (Int × Int)) (pk M N : List Int) (C : List (Int × Int)) (A : List Alm) (ah : Int) (vZ : Value) (Z : List (Int × Int)) (a b : Int) (w : World) (hw : Months w)
    (hR : EvR w vm vd vw vp vM vN vC vA mo da we pk M N C A) (hZ : PairsR w vZ Z) (hnm : nm.length ≤ 140737488351232) (htx : tx.length ≤ 140737488351232) (hcl : C.length ≤ 8796093022208) :
    Calls Tryz.prog 17 #[.agg #[.int .i64 ah, vZ], .agg #[.string (bs nm), .string (bs tx), .int .i64 st, .int .i64 ln, .bool rp, .int .i64 fr, .int .i64 ev, .int .i64 ct, .int .i64 ti, vm, vd, vw, vp, vM, vN, vC, vA], .int .i64 a, .int .i64 b] w
      (BetP ln (fullN (betE (evF nm tx st ln rp fr ev ct ti mo da we pk M N C A) (zfault ah Z) a b) (tmsOf ah Z (ruleT rp st fr ev ct ti mo da we pk) M N C ln a b).length) (tmsOf ah Z (ruleT rp st fr ev ct ti mo da we pk) M N C ln a b) w) := by
  have hR0 := hR
  obtain ⟨h1, h2, h3, h4, hM, hN, hC, hA⟩ := hR
  obtain ⟨am, km, rfl, -, -, -⟩ := intsR_open h1
  obtain ⟨ad, kd, rfl, -, -, -⟩ := intsR_open h2
  obtain ⟨aw, kw, rfl, -, -, -⟩ := pairsR_open h3
  obtain ⟨ap, kp, rfl, -, -, -⟩ := intsR_open h4
  obtain ⟨aM, kM, rfl, -, -, -⟩ := intsR_open hM
  obtain ⟨aN, kN, rfl, -, -, -⟩ := intsR_open hN
  obtain ⟨aC, kC, rfl, -, kC2, hds⟩ := pairsR_open hC
  obtain ⟨aA, kA, rfl, -, -, -⟩ := almsR_open hA
  unfold maxLen at kC2
  obtain ⟨aZ, kZ, rfl, -, -, -⟩ := pairsR_open hZ
  obtain ⟨snm, hsnm⟩ : ∃ s, s = bs nm := ⟨_, rfl⟩
  obtain ⟨stx, hstx⟩ : ∃ s, s = bs tx := ⟨_, rfl⟩
  obtain ⟨eb, heb⟩ : ∃ x, x = w.heap.size := ⟨_, rfl⟩
  obtain ⟨wz, hwz⟩ : ∃ x, x = w.alloc (.cells #[.int .i64 ah, .slice aZ Z.length kZ] 33) := ⟨_, rfl⟩
  have hbz : Below w.heap.size w wz := by rw [hwz]; exact (Below.refl _ _).alloc (Nat.le_refl _) _
  have hsz : wz.heap.size = eb + 1 := by rw [hwz, heb]; simp
  have z0 : wz.cell? ⟨eb, 0, none⟩ = some (.int .i64 ah) := by rw [hwz, heb]; simp
  have z1 : wz.cell? ⟨eb, 1, none⟩ = some (.slice aZ Z.length kZ) := by rw [hwz, heb]; simp
  obtain ⟨w0, hw0⟩ : ∃ x, x = wz.alloc (.cells #[.string snm, .string stx, .int .i64 st, .int .i64 ln, .bool rp, .int .i64 fr, .int .i64 ev, .int .i64 ct, .int .i64 ti, .slice am mo.length km, .slice ad da.length kd, .slice aw we.length kw, .slice ap pk.length kp, .slice aM M.length kM, .slice aN N.length kN, .slice aC C.length kC, .slice aA A.length kA] 29) := ⟨_, rfl⟩
  have hb0 : Below wz.heap.size wz w0 := by rw [hw0]; exact (Below.refl _ _).alloc (Nat.le_refl _) _
  have ec := hw0 ▸ evC_new wz 29 snm stx st ln rp fr ev ct ti (.slice am mo.length km) (.slice ad da.length kd) (.slice aw we.length kw) (.slice ap pk.length kp) (.slice aM M.length kM) (.slice aN N.length kN) (.slice aC C.length kC) (.slice aA A.length kA)
  rw [hsz] at ec
  have z0 := cell_below hb0 z0; have z1 := cell_below hb0 z1
  have hbw : Below w.heap.size w w0 := hbz.trans (hb0.mono hbz.size)
  obtain ⟨F, hF⟩ : ∃ F, F = (evF nm tx st ln rp fr ev ct ti mo da we pk M N C A) := ⟨_, rfl⟩
  obtain ⟨ZF, hZF⟩ : ∃ F, F = zfault ah Z := ⟨_, rfl⟩
  obtain ⟨R, hRR⟩ : ∃ R, R = tmsOf ah Z (ruleT rp st fr ev ct ti mo da we pk) M N C ln a b := ⟨_, rfl⟩
  have RK := Lib.hid (show Calls Tryz.prog 76 #[.agg #[.int .i64 ah, .slice aZ Z.length kZ], .agg #[.string snm, .string stx, .int .i64 st, .int .i64 ln, .bool rp, .int .i64 fr, .int .i64 ev, .int .i64 ct, .int .i64 ti, .slice am mo.length km, .slice ad da.length kd, .slice aw we.length kw, .slice ap pk.length kp, .slice aM M.length kM, .slice aN N.length kN, .slice aC C.length kC, .slice aA A.length kA]] w0 (fun e w' => e = .returned (errV (readyE F ZF)) ∧ Below w0.heap.size w0 w') by
    rw [hF, hZF, hsnm, hstx]
    exact ready_any nm tx st ln rp fr ev ct ti _ _ _ _ _ _ _ _ mo da we pk M N C A ah _ Z w0 (hR0.below hbw) (hZ.below hbw) hnm htx hcl)
  have TK := Lib.hid (show readyE F ZF = 0 → spanE a b = 0 → ∀ wx, Below w0.heap.size w0 wx → Calls Tryz.prog 78 #[.agg #[.int .i64 ah, .slice aZ Z.length kZ], .agg #[.string snm, .string stx, .int .i64 st, .int .i64 ln, .bool rp, .int .i64 fr, .int .i64 ev, .int .i64 ct, .int .i64 ti, .slice am mo.length km, .slice ad da.length kd, .slice aw we.length kw, .slice ap pk.length kp, .slice aM M.length kM, .slice aN N.length kN, .slice aC C.length kC, .slice aA A.length kA], .int .i64 a, .int .i64 b] wx (fun e w' => ∃ v, e = .returned v ∧ OwnT ln wx.heap.size w' v R ∧ Below wx.heap.size wx w') from fun hr hs wx hbx => by
    obtain ⟨f0, z0⟩ := ready_ok hr
    obtain ⟨s1, s2, s3, s4⟩ := spanE_0 hs
    obtain ⟨t1, t2⟩ := timeB_yes s1
    obtain ⟨t3, t4⟩ := timeB_yes s2
    have hbw : Below w.heap.size w wx := hbw.trans (hbx.mono hbw.size)
    rw [hRR]
    exact tof_any snm stx st ln rp fr ev ct ti _ _ _ _ _ _ _ _ mo da we pk M N C A ah _ Z a b wx (hw.below hbw) (hR0.below hbw) (evF_facts (hF.symm.trans f0)) (hZ.below hbw) (hZF.symm.trans z0) (by omega) (by omega))
  have SK := Lib.hid (show ∀ wx, Calls Tryz.prog 77 #[.int .i64 a, .int .i64 b] wx (fun e w' => e = .returned (errV (spanE a b)) ∧ wx = w') from fun wx => stretch_any a b wx)
  rw [← hsnm, ← hstx, ← hF, ← hZF, ← hRR]
  obtain ⟨S, hS⟩ : ∃ S, S = spanE a b := ⟨_, rfl⟩
  have S01 := Lib.hid (show S = 0 ∨ S = 1 by rw [hS]; exact spanE_01 a b)
  have BE := Lib.hid (show betE F ZF a b = if readyE F ZF ≠ 0 then readyE F ZF else S by rw [betE, hS])
  rw [← hS] at SK TK
  have EC := Lib.hid ec; have BW := Lib.hid hbw; have WZ := Lib.hid hwz; have W0 := Lib.hid hw0; have EB := Lib.hid heb
  have Z0 := Lib.hid z0; have Z1 := Lib.hid z1
  obtain ⟨RE, hRE⟩ : ∃ E, E = readyE F ZF := ⟨_, rfl⟩
  rw [← hRE] at RK TK BE
  clear hR0 h1 h2 h3 h4 hM hN hC hA hw hZ hwz hbz hsz hw0 hb0 ec hbw heb hds hF hZF hsnm hstx hnm htx hcl hRR hS hRE
  go_enter Tryz.func17, Tryz.ntmps17
  go_upto_region 1 with fail
  rw [← WZ.out, ← W0.out]
  rw [← EB.out]
  have k0 := EC.out.k0; have k1 := EC.out.k1; have k2 := EC.out.k2; have k3 := EC.out.k3; have k4 := EC.out.k4; have k5 := EC.out.k5; have k6 := EC.out.k6; have k7 := EC.out.k7; have k8 := EC.out.k8; have k9 := EC.out.k9; have k10 := EC.out.k10; have k11 := EC.out.k11; have k12 := EC.out.k12; have k13 := EC.out.k13; have k14 := EC.out.k14; have k15 := EC.out.k15; have k16 := EC.out.k16
  go_wp2_with fail
  refine RK.out.mono ?_; rintro e w1 ⟨rfl, hb1⟩
  have B1 := Lib.hid hb1
  clear hb1 z0 z1 k0 k1 k2 k3 k4 k5 k6 k7 k8 k9 k10 k11 k12 k13 k14 k15 k16
  by_cases h0 : RE ≠ 0
  · have E := Lib.hid (show errV RE = .iface 124 (.int .i64 RE) by rw [errV, if_neg h0])
    have LE := Lib.hid (show fullN (betE F ZF a b) R.length = RE by rw [BE.out, if_pos h0, fullN, if_neg (fun k => h0 k.1)])
    have H0 := Lib.hid h0
    rw [E.out]
    clear h0
    go_wp2
    go_ret2
    exact ⟨_, by rw [LE.out, E.out]; rfl, by rw [LE.out, if_neg H0.out]; exact World.ownsRow_nil _ _ _ _, BW.out.trans (B1.out.mono BW.out.size)⟩
  obtain rfl : RE = 0 := by omega
  rw [errV_0]
  have BE2 := Lib.hid (show betE F ZF a b = S by rw [BE.out, if_neg (by simp)])
  clear h0 BE
  go_wp2_with fail
  refine (SK.out _).mono ?_; rintro e w2 ⟨rfl, rfl⟩
  rcases S01.out with rfl | rfl
  · rw [errV_0]
    have E1 := Lib.hid (EC.out.below B1.out)
    have z0 := cell_below B1.out Z0.out
    have z1 := cell_below B1.out Z1.out
    have k0 := E1.out.k0; have k1 := E1.out.k1; have k2 := E1.out.k2; have k3 := E1.out.k3; have k4 := E1.out.k4; have k5 := E1.out.k5; have k6 := E1.out.k6; have k7 := E1.out.k7; have k8 := E1.out.k8; have k9 := E1.out.k9; have k10 := E1.out.k10; have k11 := E1.out.k11; have k12 := E1.out.k12; have k13 := E1.out.k13; have k14 := E1.out.k14; have k15 := E1.out.k15; have k16 := E1.out.k16
    go_wp2_with fail
    refine (TK.out (by simp) (by simp) _ B1.out).mono ?_; rintro e w3 ⟨v, rfl, hv, hb3⟩
    obtain ⟨va, vc, rfl, hv2, -, -⟩ := owns_cells hv
    unfold maxLen at hv2
    have RV := Lib.hid hv
    have B3 := Lib.hid (B1.out.trans (hb3.mono B1.out.size))
    clear hv hb3 z0 z1 k0 k1 k2 k3 k4 k5 k6 k7 k8 k9 k10 k11 k12 k13 k14 k15 k16
    by_cases hl : 200 < R.length
    · have t1 : decide ((200 : Int) < (R.length : Int)) = true := decide_eq_true (by omega)
      have t1b : decide (200 < R.length) = true := decide_eq_true hl
      have FE := Lib.hid (show fullN (betE F ZF a b) R.length = 4 by rw [BE2.out, fullN, if_pos ⟨rfl, hl⟩])
      clear hl
      go_wp2
      go_ret2
      exact ⟨_, by rw [FE.out]; rfl, by rw [FE.out]; exact World.ownsRow_nil _ _ _ _, BW.out.trans (B3.out.mono BW.out.size)⟩
    · have t1 : decide ((200 : Int) < (R.length : Int)) = false := decide_eq_false (by omega)
      have t1b : decide (200 < R.length) = false := decide_eq_false hl
      have FE := Lib.hid (show fullN (betE F ZF a b) R.length = 0 by rw [BE2.out, fullN, if_neg (by omega)])
      clear hl
      go_wp2
      go_ret2
      exact ⟨_, by rw [FE.out]; rfl, by rw [FE.out, if_pos rfl]; exact World.ownsRow.mono RV.out (Nat.le_trans BW.out.size B1.out.size), BW.out.trans (B3.out.mono BW.out.size)⟩
  · have FE := Lib.hid (show fullN (betE F ZF a b) R.length = 1 by rw [BE2.out, fullN, if_neg (by omega)])
    have E := Lib.hid (show errV 1 = .iface 124 (.int .i64 1) by rfl)
    rw [E.out]
    go_wp2
    go_ret2
    exact ⟨_, by rw [FE.out]; rfl, by rw [FE.out]; exact World.ownsRow_nil _ _ _ _, BW.out.trans (B1.out.mono BW.out.size)⟩

end Go.Proofs.YtgelojhpanbnaaaGreatDoor
