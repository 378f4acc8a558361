/- times.Ready, times.Stretch: their contracts. Conditions: texts and lists of a size that any machine's are. -/
import Derived.Test.YtgelojhpanbnaaaGreatDoorTimG
namespace Go.Proofs.YtgelojhpanbnaaaGreatDoor
open Go.RowKit Go.Shelf
set_option linter.unusedSimpArgs false
set_option linter.unusedVariables false

def readyE (F ZF : Int) : Int := if F ≠ 0 then F else ZF

def betE (F ZF a b : Int) : Int := if readyE F ZF ≠ 0 then readyE F ZF else spanE a b

def fullN (E : Int) (n : Nat) : Int := if E = 0 ∧ 200 < n then 4 else E

theorem zcheck_o (v : Value) (Z : List (Int × Int)) (ah : Int) (w : World) (hZ : PairsR w v Z) : Calls Tryz.prog 11 #[.agg #[.int .i64 ah, v]] w fun e w' => e = .returned (errV (zfault ah Z)) ∧ Below w.heap.size w w' := zcheck_any v Z ah w hZ

set_option maxRecDepth 100000 in
set_option maxHeartbeats 4000000 in
theorem ready_any (nm tx : List UInt8) (st ln : Int) (rp : Bool) (fr ev ct ti : Int) (vm vd vw vp vM vN vC vA : Value) (mo da : List Int) (we : List (Int × Int)) (pk M N : List Int) (C : List (Int × Int)) (A : List Alm) (ah : Int) (vZ : Value) (Z : List (Int × Int)) (w : World)
    (hR : EvR w vm vd vw vp vM vN vC vA mo da we pk M N C A) (hZ : PairsR w vZ Z) (hnm : nm.length ≤ 140737488351232) (htx : tx.length ≤ 140737488351232) (hcl : C.length ≤ 8796093022208) :
    Calls Tryz.prog 76 #[.agg #[.int .i64 ah, vZ], .agg #[.string (bs nm), .string (bs tx), .int .i64 st, .int .i64 ln, .bool rp, .int .i64 fr, .int .i64 ev, .int .i64 ct, .int .i64 ti, vm, vd, vw, vp, vM, vN, vC, vA]] w
      fun e w' => e = .returned (errV (readyE (evF nm tx st ln rp fr ev ct ti mo da we pk M N C A) (zfault ah Z))) ∧ Below w.heap.size w w' := by
  obtain ⟨h1, h2, h3, h4, hM, hN, hC, hA⟩ := hR
  obtain ⟨am, km, rfl, -, -, -⟩ := intsR_open h1
  obtain ⟨ad, kd, rfl, -, -, -⟩ := intsR_open h2
  obtain ⟨aw, kw, rfl, -, -, -⟩ := pairsR_open h3
  obtain ⟨ap, kp, rfl, -, -, -⟩ := intsR_open h4
  obtain ⟨aM, kM, rfl, -, -, -⟩ := intsR_open hM
  obtain ⟨aN, kN, rfl, -, -, -⟩ := intsR_open hN
  obtain ⟨aC, kC, rfl, -, kC2, hds⟩ := pairsR_open hC
  obtain ⟨aA, kA, rfl, -, -, -⟩ := almsR_open hA
  unfold maxLen at kC2
  obtain ⟨aZ, kZ, rfl, -, -, -⟩ := pairsR_open hZ
  obtain ⟨snm, hsnm⟩ : ∃ s, s = bs nm := ⟨_, rfl⟩
  obtain ⟨stx, hstx⟩ : ∃ s, s = bs tx := ⟨_, rfl⟩
  obtain ⟨eb, heb⟩ : ∃ x, x = w.heap.size := ⟨_, rfl⟩
  obtain ⟨wz, hwz⟩ : ∃ x, x = w.alloc (.cells #[.int .i64 ah, .slice aZ Z.length kZ] 33) := ⟨_, rfl⟩
  have hbz : Below w.heap.size w wz := by rw [hwz]; exact (Below.refl _ _).alloc (Nat.le_refl _) _
  have hsz : wz.heap.size = eb + 1 := by rw [hwz, heb]; simp
  have z0 : wz.cell? ⟨eb, 0, none⟩ = some (.int .i64 ah) := by rw [hwz, heb]; simp
  have z1 : wz.cell? ⟨eb, 1, none⟩ = some (.slice aZ Z.length kZ) := by rw [hwz, heb]; simp
  obtain ⟨w0, hw0⟩ : ∃ x, x = wz.alloc (.cells #[.string snm, .string stx, .int .i64 st, .int .i64 ln, .bool rp, .int .i64 fr, .int .i64 ev, .int .i64 ct, .int .i64 ti, .slice am mo.length km, .slice ad da.length kd, .slice aw we.length kw, .slice ap pk.length kp, .slice aM M.length kM, .slice aN N.length kN, .slice aC C.length kC, .slice aA A.length kA] 29) := ⟨_, rfl⟩
  have hb0 : Below wz.heap.size wz w0 := by rw [hw0]; exact (Below.refl _ _).alloc (Nat.le_refl _) _
  have ec := hw0 ▸ evC_new wz 29 snm stx st ln rp fr ev ct ti (.slice am mo.length km) (.slice ad da.length kd) (.slice aw we.length kw) (.slice ap pk.length kp) (.slice aM M.length kM) (.slice aN N.length kN) (.slice aC C.length kC) (.slice aA A.length kA)
  rw [hsz] at ec
  have z0 := cell_below hb0 z0; have z1 := cell_below hb0 z1
  have hbw : Below w.heap.size w w0 := hbz.trans (hb0.mono hbz.size)
  obtain ⟨F, hF⟩ : ∃ F, F = (evF nm tx st ln rp fr ev ct ti mo da we pk M N C A) := ⟨_, rfl⟩
  obtain ⟨ZF, hZF⟩ : ∃ F, F = zfault ah Z := ⟨_, rfl⟩
  have CK := Lib.hid (show Calls Tryz.prog 12 #[.agg #[.string snm, .string stx, .int .i64 st, .int .i64 ln, .bool rp, .int .i64 fr, .int .i64 ev, .int .i64 ct, .int .i64 ti, .slice am mo.length km, .slice ad da.length kd, .slice aw we.length kw, .slice ap pk.length kp, .slice aM M.length kM, .slice aN N.length kN, .slice aC C.length kC, .slice aA A.length kA]] w0 (fun e w' => e = .returned (errV F) ∧ Below w0.heap.size w0 w') by
    rw [hF, hsnm, hstx]
    exact check_any nm tx st ln rp fr ev ct ti _ _ _ _ _ _ _ _ mo da we pk M N C A w0 (h1.below hbw) (h2.below hbw) (h3.below hbw) (h4.below hbw) (hM.below hbw) (hN.below hbw) (hC.below hbw) (hA.below hbw) hnm htx hcl)
  have ZK := Lib.hid (show ∀ wx, Below w0.heap.size w0 wx → Calls Tryz.prog 11 #[.agg #[.int .i64 ah, .slice aZ Z.length kZ]] wx (fun e w' => e = .returned (errV ZF) ∧ Below wx.heap.size wx w') from fun wx hbx => by
    rw [hZF]; exact zcheck_o _ Z ah wx (hZ.below (hbw.trans (hbx.mono hbw.size))))
  rw [← hsnm, ← hstx, ← hF, ← hZF]
  have EC := Lib.hid ec; have BW := Lib.hid hbw; have WZ := Lib.hid hwz; have W0 := Lib.hid hw0; have EB := Lib.hid heb
  have Z0 := Lib.hid z0; have Z1 := Lib.hid z1
  clear h1 h2 h3 h4 hM hN hC hA hZ hwz hbz hsz hw0 hb0 ec hbw heb hds z0 z1 hF hZF hsnm hstx hnm htx hcl
  go_enter Tryz.func76, Tryz.ntmps76
  go_upto_region 1 with fail
  rw [← WZ.out, ← W0.out]
  rw [← EB.out]
  have k0 := EC.out.k0; have k1 := EC.out.k1; have k2 := EC.out.k2; have k3 := EC.out.k3; have k4 := EC.out.k4; have k5 := EC.out.k5; have k6 := EC.out.k6; have k7 := EC.out.k7; have k8 := EC.out.k8; have k9 := EC.out.k9; have k10 := EC.out.k10; have k11 := EC.out.k11; have k12 := EC.out.k12; have k13 := EC.out.k13; have k14 := EC.out.k14; have k15 := EC.out.k15; have k16 := EC.out.k16
  go_wp2_with fail
  refine CK.out.mono ?_; rintro e w1 ⟨rfl, hb1⟩
  have z0 := cell_below hb1 Z0.out
  have z1 := cell_below hb1 Z1.out
  have B1 := Lib.hid hb1
  clear hb1 k0 k1 k2 k3 k4 k5 k6 k7 k8 k9 k10 k11 k12 k13 k14 k15 k16
  by_cases h0 : F ≠ 0
  · have E := Lib.hid (show errV F = .iface 124 (.int .i64 F) by rw [errV, if_neg h0])
    have RE := Lib.hid (show readyE F ZF = F by rw [readyE, if_pos h0])
    rw [E.out]
    clear h0
    go_wp2
    go_ret
    exact ⟨by rw [RE.out, E.out]; rfl, BW.out.trans (B1.out.mono BW.out.size)⟩
  · have RE := Lib.hid (show readyE F ZF = ZF by rw [readyE, if_neg h0])
    obtain rfl : F = 0 := by omega
    rw [errV_0]
    clear h0
    go_wp2_with fail
    refine (ZK.out _ B1.out).mono ?_; rintro e w2 ⟨rfl, hb2⟩
    have B2 := Lib.hid (B1.out.trans (hb2.mono B1.out.size))
    clear hb2 z0 z1
    go_wp2
    go_ret
    exact ⟨by rw [RE.out]; rfl, BW.out.trans (B2.out.mono BW.out.size)⟩

set_option maxHeartbeats 2000000 in
theorem stretch_any (a b : Int) (w : World) : Calls Tryz.prog 77 #[.int .i64 a, .int .i64 b] w fun e w' => e = .returned (errV (spanE a b)) ∧ w = w' := by
  obtain ⟨S, hS⟩ : ∃ S, S = spanE a b := ⟨_, rfl⟩
  rw [← hS]
  obtain ⟨ta, hta⟩ : ∃ t, t = timeB a := ⟨_, rfl⟩
  obtain ⟨tb, htb⟩ : ∃ t, t = timeB b := ⟨_, rfl⟩
  have SE := Lib.hid hS; have TA := Lib.hid hta; have TB := Lib.hid htb
  clear hS hta htb
  go_enter Tryz.func77, Tryz.ntmps77
  go_wp2_with fail
  refine (valid_q a ta _ TA.out).mono ?_; rintro e w2 ⟨rfl, rfl⟩
  cases ta
  · have Q := Lib.hid (show S = 1 by rw [SE.out, spanE, if_neg (by rw [← TA.out]; simp)])
    go_wp2
    go_ret
    exact ⟨by rw [Q.out]; rfl, rfl⟩
  go_wp2_with fail
  refine (valid_q b tb _ TB.out).mono ?_; rintro e w2 ⟨rfl, rfl⟩
  cases tb
  · have Q := Lib.hid (show S = 1 by rw [SE.out, spanE, if_neg (by rw [← TB.out]; simp)])
    go_wp2
    go_ret
    exact ⟨by rw [Q.out]; rfl, rfl⟩
  obtain ⟨a1, a2⟩ := timeB_yes TA.out.symm
  obtain ⟨b1, b2⟩ := timeB_yes TB.out.symm
  by_cases g1 : b < a
  · have Q := Lib.hid (show S = 1 by rw [SE.out, spanE, if_neg (by omega)])
    have t1 : decide (b < a) = true := decide_eq_true g1
    clear g1
    go_wp2
    go_ret
    exact ⟨by rw [Q.out]; rfl, rfl⟩
  have t1 : decide (b < a) = false := decide_eq_false g1
  by_cases g2 : 1000000 < b - a
  · have Q := Lib.hid (show S = 1 by rw [SE.out, spanE, if_neg (by omega)])
    have t2 : decide (1000000 < b - a) = true := decide_eq_true g2
    clear g1 g2
    go_wp2
    go_ret
    exact ⟨by rw [Q.out]; rfl, rfl⟩
  · have Q := Lib.hid (show S = 0 by rw [SE.out, spanE, if_pos ⟨TA.out.symm, TB.out.symm, by omega, by omega⟩])
    have t2 : decide (1000000 < b - a) = false := decide_eq_false g2
    clear g1 g2
    go_wp2
    go_ret
    exact ⟨by rw [Q.out]; rfl, rfl⟩

def BetP (ln : Int) (E : Int) (R : List (Int × Int)) (w : World) (e : Ending) (w' : World) : Prop := ∃ v, e = .returned (.tuple #[v, errV E]) ∧ OwnT ln w.heap.size w' v (if E = 0 then R else []) ∧ Below w.heap.size w w'

theorem spanE_01 (a b : Int) : spanE a b = 0 ∨ spanE a b = 1 := by unfold spanE; split <;> simp

theorem spanE_0 {a b : Int} (h : spanE a b = 0) : timeB a = true ∧ timeB b = true ∧ a ≤ b ∧ b - a ≤ 1000000 := by
  unfold spanE at h
  by_cases h1 : timeB a = true ∧ timeB b = true ∧ a ≤ b ∧ b - a ≤ 1000000
  · exact h1
  · rw [if_neg h1] at h; cases h

theorem ready_ok {F ZF : Int} (h : readyE F ZF = 0) : F = 0 ∧ ZF = 0 := by
  unfold readyE at h
  by_cases h0 : F ≠ 0
  · rw [if_pos h0] at h; exact absurd h h0
  · rw [if_neg h0] at h; exact ⟨by omega, h⟩

end Go.Proofs.YtgelojhpanbnaaaGreatDoor
