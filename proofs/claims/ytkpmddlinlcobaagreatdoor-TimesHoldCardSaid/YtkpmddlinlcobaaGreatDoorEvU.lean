/- event.Of and event.Local of any event: their contracts. -/
import Derived.Test.YtkpmddlinlcobaaGreatDoorEvT
import Derived.Test.YtkpmddlinlcobaaGreatDoorQ14
namespace Go.Proofs.YtkpmddlinlcobaaGreatDoor
open Go.RowKit Go.Shelf
set_option linter.unusedSimpArgs false
set_option linter.unusedVariables false

theorem evof_any (snm stx : ByteArray) (st ln : Int) (rp : Bool) (fr ev ct ti : Int) (vm vd vw vp vM vN vC vA : Value) (mo da : List Int) (we : List (Int × Int)) (pk M N : List Int) (a b : Int) (w : World) (hw : Months w)
    (h1 : IntsR w vm mo) (h2 : IntsR w vd da) (h3 : PairsR w vw we) (h4 : IntsR w vp pk) (hvC : vC.oneCell' = true) (hvA : vA.oneCell' = true) (hM : IntsR w vM M) (hN : IntsR w vN N) (hok : EvOk rp st fr ev ct ti mo da we pk M) :
    Calls Tryz.prog 77 #[.agg #[.string snm, .string stx, .int .i64 st, .int .i64 ln, .bool rp, .int .i64 fr, .int .i64 ev, .int .i64 ct, .int .i64 ti, vm, vd, vw, vp, vM, vN, vC, vA], .int .i64 a, .int .i64 b] w
      fun e w' => ∃ v, e = .returned v ∧ OwnI w.heap.size w' v (evL (ruleT rp st fr ev ct ti mo da we pk) M N a b) ∧ Below w.heap.size w w' := by
  obtain ⟨k1, k2, k3⟩ := hok
  cases rp
  · exact evof_once snm stx st ln fr ev ct ti vm vd vw vp vM vN vC vA M N a b w (by obtain ⟨_, _, rfl, _⟩ := intsR_open h1; rfl) (by obtain ⟨_, _, rfl, _⟩ := intsR_open h2; rfl) (by obtain ⟨_, _, rfl, _⟩ := pairsR_open h3; rfl) (by obtain ⟨_, _, rfl, _⟩ := intsR_open h4; rfl) hvC hvA hM hN k3
  · obtain ⟨t1, t2⟩ := timeB_yes k1
    obtain ⟨y, m, d, hd, hn⟩ := Cal.ex_date (st / 1440 + 1) (by omega) (by omega)
    have h := (callsIn_wide (n := 10)).1 (evof_rep 9 snm stx st ln fr ev ct ti y m d vm vd vw vp vM vN vC vA mo da we pk M N a b w hw h1 h2 h3 h4 hvC hvA hM hN k3 (by omega) hd hn (k2 rfl))
    rw [ruleT, if_pos rfl, daysAt_eq hd hn]
    exact h

/-- what event.Local answers: the times, or the fault. -/
def LocP (E : Int) (R : List Int) (w : World) (e : Ending) (w' : World) : Prop := ∃ v, e = .returned (.tuple #[v, errV E]) ∧ OwnI w.heap.size w' v (if E = 0 then R else []) ∧ Below w.heap.size w w'

set_option maxRecDepth 100000 in
set_option maxHeartbeats 8000000 in
theorem local_any (nm tx : List UInt8) (st ln : Int) (rp : Bool) (fr ev ct ti : Int) (vm vd vw vp vM vN vC vA : Value) (mo da : List Int) (we : List (Int × Int)) (pk : List Int) (M N : List Int) (C : List (Int × Int)) (A : List Alm) (a b : Int) (w : World)
    (h1 : IntsR w vm mo) (h2 : IntsR w vd da) (h3 : PairsR w vw we) (h4 : IntsR w vp pk) (hM : IntsR w vM M) (hN : IntsR w vN N) (hC : PairsR w vC C) (hA : AlmsR w vA A)
    (hw : Months w) (hnm : nm.length ≤ 140737488351232) (htx : tx.length ≤ 140737488351232) (hcl : C.length ≤ 8796093022208) :
    Calls Tryz.prog 21 #[.agg #[.string (bs nm), .string (bs tx), .int .i64 st, .int .i64 ln, .bool rp, .int .i64 fr, .int .i64 ev, .int .i64 ct, .int .i64 ti, vm, vd, vw, vp, vM, vN, vC, vA], .int .i64 a, .int .i64 b] w
      (LocP (fullE (eventE (evF nm tx st ln rp fr ev ct ti mo da we pk M N C A) a b) (evL (ruleT rp st fr ev ct ti mo da we pk) M N a b)) (evL (ruleT rp st fr ev ct ti mo da we pk) M N a b) w) := by
  obtain ⟨am, km, rfl, -, -, -⟩ := intsR_open h1
  obtain ⟨ad, kd, rfl, -, -, -⟩ := intsR_open h2
  obtain ⟨aw, kw, rfl, -, -, -⟩ := pairsR_open h3
  obtain ⟨ap, kp, rfl, -, -, -⟩ := intsR_open h4
  obtain ⟨aM, kM, rfl, -, -, -⟩ := intsR_open hM
  obtain ⟨aN, kN, rfl, -, -, -⟩ := intsR_open hN
  obtain ⟨aC, kC, rfl, -, -, -⟩ := pairsR_open hC
  obtain ⟨aA, kA, rfl, -, -, -⟩ := almsR_open hA
  obtain ⟨snm, hsnm⟩ : ∃ s, s = bs nm := ⟨_, rfl⟩
  obtain ⟨stx, hstx⟩ : ∃ s, s = bs tx := ⟨_, rfl⟩
  obtain ⟨F, hF⟩ : ∃ F, F = evF nm tx st ln rp fr ev ct ti mo da we pk M N C A := ⟨_, rfl⟩
  obtain ⟨w0, hw0⟩ : ∃ x, x = w.alloc (.cells #[.string snm, .string stx, .int .i64 st, .int .i64 ln, .bool rp, .int .i64 fr, .int .i64 ev, .int .i64 ct, .int .i64 ti, .slice am mo.length km, .slice ad da.length kd, .slice aw we.length kw, .slice ap pk.length kp, .slice aM M.length kM, .slice aN N.length kN, .slice aC C.length kC, .slice aA A.length kA] 29) := ⟨_, rfl⟩
  have hb0 : Below w.heap.size w w0 := by rw [hw0]; exact (Below.refl _ _).alloc (Nat.le_refl _) _
  have ec := hw0 ▸ evC_new w 29 snm stx st ln rp fr ev ct ti (.slice am mo.length km) (.slice ad da.length kd) (.slice aw we.length kw) (.slice ap pk.length kp) (.slice aM M.length kM) (.slice aN N.length kN) (.slice aC C.length kC) (.slice aA A.length kA)
  have CK := Lib.hid (show Calls Tryz.prog 16 #[.agg #[.string snm, .string stx, .int .i64 st, .int .i64 ln, .bool rp, .int .i64 fr, .int .i64 ev, .int .i64 ct, .int .i64 ti, .slice am mo.length km, .slice ad da.length kd, .slice aw we.length kw, .slice ap pk.length kp, .slice aM M.length kM, .slice aN N.length kN, .slice aC C.length kC, .slice aA A.length kA]] w0 fun e w' => e = .returned (errV F) ∧ Below w0.heap.size w0 w' by
    rw [hsnm, hstx, hF]
    exact check_any nm tx st ln rp fr ev ct ti _ _ _ _ _ _ _ _ mo da we pk M N C A w0 (h1.below hb0) (h2.below hb0) (h3.below hb0) (h4.below hb0) (hM.below hb0) (hN.below hb0) (hC.below hb0) (hA.below hb0) hnm htx hcl)
  have MF := Lib.hid (show F = 0 → EvOk rp st fr ev ct ti mo da we pk M from fun h0 => evF_EvOk (hF.symm.trans h0))
  obtain ⟨R, hR⟩ : ∃ R, R = evL (ruleT rp st fr ev ct ti mo da we pk) M N a b := ⟨_, rfl⟩
  rw [← hR]
  have RE := Lib.hid hR
  rw [← hsnm, ← hstx, ← hF]
  have HW := Lib.hid (hw.below hb0); have I1 := Lib.hid (h1.below hb0); have I2 := Lib.hid (h2.below hb0); have I3 := Lib.hid (h3.below hb0); have I4 := Lib.hid (h4.below hb0)
  have EC := Lib.hid ec; have B0 := Lib.hid hb0; have W0 := Lib.hid hw0
  have RM := Lib.hid (hM.below hb0); have RN := Lib.hid (hN.below hb0)
  clear hw h1 h2 h3 h4 hM hN hC hA hR hsnm hstx hF hw0 hb0 ec hnm htx hcl
  go_enter Tryz.func21, Tryz.ntmps21
  go_upto_region 1 with fail
  rw [← W0.out]
  have k0 := EC.out.k0; have k1 := EC.out.k1; have k2 := EC.out.k2; have k3 := EC.out.k3; have k4 := EC.out.k4; have k5 := EC.out.k5; have k6 := EC.out.k6; have k7 := EC.out.k7; have k8 := EC.out.k8; have k9 := EC.out.k9; have k10 := EC.out.k10; have k11 := EC.out.k11; have k12 := EC.out.k12; have k13 := EC.out.k13; have k14 := EC.out.k14; have k15 := EC.out.k15; have k16 := EC.out.k16
  go_wp2_with fail
  refine CK.out.mono ?_; rintro e w1 ⟨rfl, hb1⟩
  have B1 := Lib.hid hb1
  clear hb1 k0 k1 k2 k3 k4 k5 k6 k7 k8 k9 k10 k11 k12 k13 k14 k15 k16
  by_cases h0 : F ≠ 0
  · have E := Lib.hid (show errV F = .iface 119 (.int .i64 F) by rw [errV, if_neg h0])
    have LE := Lib.hid (show eventE F a b = F by rw [eventE, if_pos h0])
    have H0 := Lib.hid h0
    rw [E.out]
    clear h0
    go_wp2
    go_ret2
    exact ⟨_, by rw [LE.out, fullE_no H0.out, E.out]; rfl, by rw [LE.out, fullE_no H0.out, if_neg H0.out]; exact OwnI.none _ _, B0.out.trans (B1.out.mono B0.out.size)⟩
  obtain rfl : F = 0 := by omega
  have ML := Lib.hid (MF.out rfl)
  rw [errV_0]
  clear h0 MF
  obtain ⟨S, hS⟩ : ∃ S, S = spanE a b := ⟨_, rfl⟩
  have LE := Lib.hid (show eventE 0 a b = S by rw [eventE, if_neg (by simp), hS])
  have SE := Lib.hid hS
  clear hS
  obtain ⟨ta, hta⟩ : ∃ t, t = timeB a := ⟨_, rfl⟩
  obtain ⟨tb, htb⟩ : ∃ t, t = timeB b := ⟨_, rfl⟩
  have TA := Lib.hid hta; have TB := Lib.hid htb
  clear hta htb
  go_upto_region 4 with fail
  go_cut [33] (fun s33 wx => ∃ q : Bool, s33 = .bool q ∧ Hid (q = decide (S ≠ 0)) ∧ w1 = wx)
  case first => as_aux_lemma =>
    go_wp2_with fail
    refine (valid_any a _).mono ?_; rintro e w2 ⟨rfl, rfl⟩
    rw [← TA.out]
    cases ta
    · have Q := Lib.hid (show true = decide (S ≠ 0) by rw [SE.out, spanE, if_neg (by rw [← TA.out]; simp)]; rfl)
      go_wp2
      go_meet
      exact ⟨true, rfl, Q, rfl⟩
    go_wp2_with fail
    refine (valid_any b _).mono ?_; rintro e w2 ⟨rfl, rfl⟩
    rw [← TB.out]
    cases tb
    · have Q := Lib.hid (show true = decide (S ≠ 0) by rw [SE.out, spanE, if_neg (by rw [← TB.out]; simp)]; rfl)
      go_wp2
      go_meet
      exact ⟨true, rfl, Q, rfl⟩
    obtain ⟨a1, a2⟩ := timeB_yes TA.out.symm
    obtain ⟨b1, b2⟩ := timeB_yes TB.out.symm
    by_cases g1 : b < a
    · have Q := Lib.hid (show true = decide (S ≠ 0) by rw [SE.out, spanE, if_neg (by omega)]; rfl)
      have t1 : decide (b < a) = true := decide_eq_true g1
      clear g1
      go_wp2
      go_meet
      exact ⟨true, rfl, Q, rfl⟩
    have t1 : decide (b < a) = false := decide_eq_false g1
    by_cases g2 : 1000000 < b - a
    · have Q := Lib.hid (show true = decide (S ≠ 0) by rw [SE.out, spanE, if_neg (by omega)]; rfl)
      have t2 : decide (1000000 < b - a) = true := decide_eq_true g2
      clear g1 g2
      go_wp2
      go_meet
      exact ⟨true, rfl, Q, rfl⟩
    · have Q := Lib.hid (show false = decide (S ≠ 0) by rw [SE.out, spanE, if_pos ⟨TA.out.symm, TB.out.symm, by omega, by omega⟩]; rfl)
      have t2 : decide (1000000 < b - a) = false := decide_eq_false g2
      clear g1 g2
      go_wp2
      go_meet
      exact ⟨false, rfl, Q, rfl⟩
  case rest =>
  obtain ⟨q, rfl, QE, rfl⟩ := hcut
  by_cases hq : q = true
  · obtain rfl := hq
    have hS := of_decide_eq_true QE.out.symm
    obtain rfl : S = 1 := by have h := SE.out; rw [h] at hS ⊢; unfold spanE at hS ⊢; split at hS <;> simp_all
    clear hS
    go_wp2
    go_ret2
    exact ⟨_, by rw [LE.out]; rfl, by rw [LE.out]; exact OwnI.none _ _, B0.out.trans (B1.out.mono B0.out.size)⟩
  obtain rfl : q = false := by simpa using hq
  obtain rfl : S = 0 := by have h := of_decide_eq_false QE.out.symm; omega
  clear hq QE
  have EC1 := Lib.hid (EC.out.below B1.out)
  have k0 := EC1.out.k0; have k1 := EC1.out.k1; have k2 := EC1.out.k2; have k3 := EC1.out.k3; have k4 := EC1.out.k4; have k5 := EC1.out.k5; have k6 := EC1.out.k6; have k7 := EC1.out.k7; have k8 := EC1.out.k8; have k9 := EC1.out.k9; have k10 := EC1.out.k10; have k11 := EC1.out.k11; have k12 := EC1.out.k12; have k13 := EC1.out.k13; have k14 := EC1.out.k14; have k15 := EC1.out.k15; have k16 := EC1.out.k16
  go_wp2_with fail
  refine (evof_any snm stx st ln rp fr ev ct ti _ _ _ _ _ _ _ _ mo da we pk M N a b _ (HW.out.below B1.out) (I1.out.below B1.out) (I2.out.below B1.out) (I3.out.below B1.out) (I4.out.below B1.out) rfl rfl (RM.out.below B1.out) (RN.out.below B1.out) ML.out).mono ?_; rintro e w3 ⟨v, rfl, hv, hb3⟩
  rw [← RE.out] at hv
  obtain ⟨av, cv, rfl, -, -, -⟩ := intsR_open hv.ints
  have RV := Lib.hid hv
  have B3 := Lib.hid (B1.out.trans (hb3.mono B1.out.size))
  clear hb3 hv k0 k1 k2 k3 k4 k5 k6 k7 k8 k9 k10 k11 k12 k13 k14 k15 k16
  by_cases hl : 200 < R.length
  · have t1 : decide ((200 : Int) < (R.length : Int)) = true := decide_eq_true (by omega)
    have t1b : decide (200 < R.length) = true := decide_eq_true (by omega)
    have FE := Lib.hid (show fullE 0 R = 4 by rw [fullE, if_pos ⟨rfl, hl⟩])
    clear hl
    go_wp2
    go_ret2
    exact ⟨_, by rw [LE.out, FE.out]; rfl, by rw [LE.out, FE.out]; exact OwnI.none _ _, B0.out.trans (B3.out.mono B0.out.size)⟩
  · have t1 : decide ((200 : Int) < (R.length : Int)) = false := decide_eq_false (by omega)
    have t1b : decide (200 < R.length) = false := decide_eq_false (by omega)
    have FE := Lib.hid (show fullE 0 R = 0 by rw [fullE, if_neg (by omega)])
    clear hl
    go_wp2
    go_ret2
    exact ⟨_, by rw [LE.out, FE.out]; rfl, by rw [LE.out, FE.out, if_pos rfl]; exact World.ownsRow.mono RV.out (Nat.le_trans B0.out.size B1.out.size), B0.out.trans (B3.out.mono B0.out.size)⟩

end Go.Proofs.YtkpmddlinlcobaaGreatDoor
