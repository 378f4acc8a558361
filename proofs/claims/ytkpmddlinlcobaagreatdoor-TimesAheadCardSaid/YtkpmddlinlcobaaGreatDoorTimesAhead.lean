/- The law TimesAhead: in a zone without shifts that is so much more ahead an event is so much earlier: the walk. -/
import Derived.Test.YtkpmddlinlcobaaGreatDoorTimJ
import Derived.Test.YtkpmddlinlcobaaGreatDoorQ14
namespace Go.Proofs.YtkpmddlinlcobaaGreatDoor
open Go.RowKit Go.Shelf
set_option linter.unusedSimpArgs false
set_option linter.unusedVariables false

theorem ahead_next : nextE (evF [97] [] 5000 0 false 0 0 0 0 [] [] [] [] [] [] [] []) (zfault 60 []) 100 (tmsOf 60 [] (ruleT false 5000 0 0 0 0 [] [] [] []) [] [] [] 0 (100 + 1) (100 + 500000 + 1)) = 0 := by
  rw [ahead_fact, show ruleT false 5000 0 0 0 0 [] [] [] [] = [5000] from rfl, show (100 : Int) + 1 = 101 by decide, show (100 : Int) + 500000 + 1 = 500101 by decide, ahead_times]
  decide

theorem ahead_call (w : World) (hw : Months w) : Calls Tryz.prog 27 #[.agg #[.int .i64 60, .slice none 0 0], .agg #[.string { data := #[97] }, .string { data := #[] }, .int .i64 5000, .int .i64 0, .bool false, .int .i64 0, .int .i64 0, .int .i64 0, .int .i64 0, .slice none 0 0, .slice none 0 0, .slice none 0 0, .slice none 0 0, .slice none 0 0, .slice none 0 0, .slice none 0 0, .slice none 0 0], .int .i64 100] w
      fun e w' => e = .returned (.tuple #[.agg #[.int .i64 5000, .int .i64 4940, .int .i64 4940], .nilIface]) ∧ Below w.heap.size w w' := by
  have h := next_any [97] [] 5000 0 false 0 0 0 0 (.slice none 0 0) (.slice none 0 0) (.slice none 0 0) (.slice none 0 0) (.slice none 0 0) (.slice none 0 0) (.slice none 0 0) (.slice none 0 0) [] [] [] [] [] [] [] [] 60 (.slice none 0 0) [] 100 w hw ⟨intsR_nil _, intsR_nil _, reads_nil _ _, intsR_nil _, intsR_nil _, intsR_nil _, reads_nil _ _, reads_nil _ _⟩ (reads_nil _ _) (by decide) (by decide) (by decide)
  rw [ahead_next, show ruleT false 5000 0 0 0 0 [] [] [] [] = [5000] from rfl, show (100 : Int) + 1 = 101 by decide, show (100 : Int) + 500000 + 1 = 500101 by decide, ahead_times] at h
  exact h

theorem ahead_both {F ln ah more a b z2 st : Int} {rp : Bool} {fr ev ct ti : Int} {mo da : List Int} {we : List (Int × Int)} {pk T M N : List Int} {C R1 R2 : List (Int × Int)} {A : List Alm} (hb : -900 ≤ more ∧ more ≤ 900 ∧ 2000 ≤ a ∧ b ≤ 150000000 ∧ a ≤ b)
    (h1 : 0 = fullN (betE F (zfault ah []) a b) R1.length) (h2 : 0 = fullN (betE F (zfault z2 []) (a - more) (b - more)) R2.length) (hz : z2 = wrap64 (ah + more)) (hah : (Lit.int .i64 ah).wf = true)
    (hF : F = 0 → EvFacts st ln rp fr ev ct ti mo da we pk M N C A) (hR1 : R1 = tmsOf ah [] T M N C ln a b) (hR2 : R2 = tmsOf z2 [] T M N C ln (a - more) (b - more)) :
    R2 = R1.map (fun x => (x.1, x.2 - more)) ∧ R1.length ≤ 200 ∧ (0 ≤ ln ∧ ln ≤ 100000) ∧ ∀ x ∈ R1, 1 ≤ x.2 ∧ x.2 < 157785120 := by
  obtain ⟨e1, n1⟩ := fullN_0 h1
  obtain ⟨e2, n2⟩ := fullN_0 h2
  obtain ⟨f0, z0, -⟩ := betE_0 e1
  obtain ⟨-, z1, -⟩ := betE_0 e2
  have m1 := may_bd (zfault_0 z0).2.1
  have m2 := may_bd (zfault_0 z1).2.1
  have ef := hF f0
  have hz3 : z2 = ah + more := by rw [hz]; exact IntWalk.wrap64_in _ (by omega)
  subst hz3
  refine ⟨by rw [hR2, hR1]; exact ahead_tms ef.upC m1 m2 ⟨hb.1, hb.2.1⟩ hb.2.2.1 hb.2.2.2.1 ef.ln, n1, ef.ln, fun x hx => ?_⟩
  rw [hR1] at hx
  exact timeB_yes (oneT_which ((tmsOf_mem (mayZ_nil m1) ef.upC).1 hx).2.1).2.1

/-- times.Between of an event, in any zone without shifts, at any later world. -/
def BetF (w0 : World) (args : Array Value) (F ln : Int) (T M N : List Int) (C : List (Int × Int)) : Prop :=
  ∀ (z lo hi : Int) (wx : World), Below w0.heap.size w0 wx → Calls Tryz.prog 28 #[.agg #[.int .i64 z, .slice none 0 0], .agg args, .int .i64 lo, .int .i64 hi] wx (BetP ln (fullN (betE F (zfault z []) lo hi) (tmsOf z [] T M N C ln lo hi).length) (tmsOf z [] T M N C ln lo hi) wx)

set_option maxRecDepth 100000 in
set_option maxHeartbeats 16000000 in
theorem timesAhead_any (nm tx : List UInt8) (st ln : Int) (rp : Bool) (fr ev ct ti : Int) (vm vd vw vp vM vN vC vA : Value) (mo da : List Int) (we : List (Int × Int)) (pk M N : List Int) (C : List (Int × Int)) (A : List Alm) (ah more a b : Int) (w : World) (hw : Months w)
    (hR : EvR w vm vd vw vp vM vN vC vA mo da we pk M N C A) (hnm : nm.length ≤ 140737488351232) (htx : tx.length ≤ 140737488351232) (hcl : C.length ≤ 8796093022208) (hah : (Lit.int .i64 ah).wf = true) :
    Calls Tryz.prog 4 #[.agg #[.string (bs nm), .string (bs tx), .int .i64 st, .int .i64 ln, .bool rp, .int .i64 fr, .int .i64 ev, .int .i64 ct, .int .i64 ti, vm, vd, vw, vp, vM, vN, vC, vA], .int .i64 ah, .int .i64 more, .int .i64 a, .int .i64 b] w fun e w' => e = .returned (.bool true) ∧ Below w.heap.size w w' := by
  have hR0 := hR
  obtain ⟨h1, h2, h3, h4, hM, hN, hC, hA⟩ := hR
  obtain ⟨am, km, rfl, -, -, -⟩ := intsR_open h1
  obtain ⟨ad, kd, rfl, -, -, -⟩ := intsR_open h2
  obtain ⟨aw, kw, rfl, -, -, -⟩ := pairsR_open h3
  obtain ⟨ap, kp, rfl, -, -, -⟩ := intsR_open h4
  obtain ⟨aM, kM, rfl, -, -, -⟩ := intsR_open hM
  obtain ⟨aN, kN, rfl, -, -, -⟩ := intsR_open hN
  obtain ⟨aC, kC, rfl, -, kC2, hds⟩ := pairsR_open hC
  obtain ⟨aA, kA, rfl, -, -, -⟩ := almsR_open hA
  unfold maxLen at kC2
  obtain ⟨snm, hsnm⟩ : ∃ s, s = bs nm := ⟨_, rfl⟩
  obtain ⟨stx, hstx⟩ : ∃ s, s = bs tx := ⟨_, rfl⟩
  obtain ⟨eb, heb⟩ : ∃ x, x = w.heap.size := ⟨_, rfl⟩
  obtain ⟨w0, hw0⟩ : ∃ x, x = w.alloc (.cells #[.string snm, .string stx, .int .i64 st, .int .i64 ln, .bool rp, .int .i64 fr, .int .i64 ev, .int .i64 ct, .int .i64 ti, .slice am mo.length km, .slice ad da.length kd, .slice aw we.length kw, .slice ap pk.length kp, .slice aM M.length kM, .slice aN N.length kN, .slice aC C.length kC, .slice aA A.length kA] 29) := ⟨_, rfl⟩
  have hb0 : Below w.heap.size w w0 := by rw [hw0]; exact (Below.refl _ _).alloc (Nat.le_refl _) _
  have ec := hw0 ▸ evC_new w 29 snm stx st ln rp fr ev ct ti (.slice am mo.length km) (.slice ad da.length kd) (.slice aw we.length kw) (.slice ap pk.length kp) (.slice aM M.length kM) (.slice aN N.length kN) (.slice aC C.length kC) (.slice aA A.length kA)
  rw [← heb] at ec
  obtain ⟨F, hF⟩ : ∃ F, F = (evF nm tx st ln rp fr ev ct ti mo da we pk M N C A) := ⟨_, rfl⟩
  obtain ⟨T, hT⟩ : ∃ T, T = ruleT rp st fr ev ct ti mo da we pk := ⟨_, rfl⟩
  have BF := Lib.hid (show BetF w0 #[.string snm, .string stx, .int .i64 st, .int .i64 ln, .bool rp, .int .i64 fr, .int .i64 ev, .int .i64 ct, .int .i64 ti, .slice am mo.length km, .slice ad da.length kd, .slice aw we.length kw, .slice ap pk.length kp, .slice aM M.length kM, .slice aN N.length kN, .slice aC C.length kC, .slice aA A.length kA] F ln T M N C from fun z lo hi wx hbx => by
    have hbw : Below w.heap.size w wx := hb0.trans (hbx.mono hb0.size)
    rw [hF, hT, hsnm, hstx]
    exact between_any nm tx st ln rp fr ev ct ti _ _ _ _ _ _ _ _ mo da we pk M N C A z (.slice none 0 0) [] lo hi wx (hw.below hbw) (hR0.below hbw) (reads_nil _ _) hnm htx hcl)
  have FF := Lib.hid (show F = 0 → EvFacts st ln rp fr ev ct ti mo da we pk M N C A from fun h => evF_facts (hF.symm.trans h))
  obtain ⟨w1, hw1⟩ : ∃ x, x = w0.alloc (.cells #[.string { data := #[97] }, .string { data := #[] }, .int .i64 5000, .int .i64 0, .bool false, .int .i64 0, .int .i64 0, .int .i64 0, .int .i64 0, .slice none 0 0, .slice none 0 0, .slice none 0 0, .slice none 0 0, .slice none 0 0, .slice none 0 0, .slice none 0 0, .slice none 0 0] 29) := ⟨_, rfl⟩
  have hb1 : Below w0.heap.size w0 w1 := by rw [hw1]; exact (Below.refl _ _).alloc (Nat.le_refl _) _
  have ec1 := hw1 ▸ evC_new w0 29 { data := #[97] } { data := #[] } 5000 0 false 0 0 0 0 (.slice none 0 0) (.slice none 0 0) (.slice none 0 0) (.slice none 0 0) (.slice none 0 0) (.slice none 0 0) (.slice none 0 0) (.slice none 0 0)
  have NC := Lib.hid (ahead_call w1 ((hw.below hb0).below hb1))
  have EC := Lib.hid ec; have B0 := Lib.hid hb0; have W0 := Lib.hid hw0; have EB := Lib.hid heb; have W1 := Lib.hid hw1; have B1 := Lib.hid hb1; have EC1 := Lib.hid ec1
  rw [← hsnm, ← hstx]
  clear hR0 h1 h2 h3 h4 hM hN hC hA hw hnm htx hcl hsnm hstx hF hT hw0 hb0 ec heb hds hw1 hb1 ec1
  go_enter Tryz.func4, Tryz.ntmps4
  go_upto_region 1 with fail
  rw [← W0.out]
  rw [← EB.out]
  go_upto_region 2 with fail
  rw [← W1.out]
  go_cut [12, 13] (fun s12 s13 wx => ∃ tb, s12 = .pointer (some ⟨tb, 0, none⟩) ∧ s13 = .nilIface ∧ wx.cell? ⟨tb, 1, none⟩ = some (.int .i64 4940) ∧ Below w1.heap.size w1 wx)
  case first =>
    have k0 := EC1.out.k0; have k1 := EC1.out.k1; have k2 := EC1.out.k2; have k3 := EC1.out.k3; have k4 := EC1.out.k4; have k5 := EC1.out.k5; have k6 := EC1.out.k6; have k7 := EC1.out.k7; have k8 := EC1.out.k8; have k9 := EC1.out.k9; have k10 := EC1.out.k10; have k11 := EC1.out.k11; have k12 := EC1.out.k12; have k13 := EC1.out.k13; have k14 := EC1.out.k14; have k15 := EC1.out.k15; have k16 := EC1.out.k16
    go_wp2_with fail
    refine NC.out.mono ?_; rintro e w2 ⟨rfl, hb⟩
    have HB := Lib.hid hb
    clear hb k0 k1 k2 k3 k4 k5 k6 k7 k8 k9 k10 k11 k12 k13 k14 k15 k16
    go_wp2
    go_meet
    exact ⟨_, rfl, rfl, by simp, HB.out.alloc HB.out.size _⟩
  case rest =>
  obtain ⟨tb, rfl, rfl, hc1, hb2⟩ := hcut
  obtain ⟨w2, rfl⟩ : ∃ x, x = wc := ⟨_, rfl⟩
  have B2 := Lib.hid (B1.out.trans (hb2.mono B1.out.size))
  clear hb2 NC EC1
  go_upto_region 5 with fail
  clear hc1
  by_cases g1 : more < -900
  · have d1 : decide (more < -900) = true := decide_eq_true g1
    clear g1
    go_wp2
    go_ret
    exact ⟨rfl, B0.out.trans (B2.out.mono B0.out.size)⟩
  have d1 : decide (more < -900) = false := decide_eq_false g1
  by_cases g2 : 900 < more
  · have d2 : decide (900 < more) = true := decide_eq_true g2
    clear g1 g2
    go_wp2
    go_ret
    exact ⟨rfl, B0.out.trans (B2.out.mono B0.out.size)⟩
  have d2 : decide (900 < more) = false := decide_eq_false g2
  by_cases g3 : a < 2000
  · have d3 : decide (a < 2000) = true := decide_eq_true g3
    clear g1 g2 g3
    go_wp2
    go_ret
    exact ⟨rfl, B0.out.trans (B2.out.mono B0.out.size)⟩
  have d3 : decide (a < 2000) = false := decide_eq_false g3
  by_cases g4 : 150000000 < b
  · have d4 : decide (150000000 < b) = true := decide_eq_true g4
    clear g1 g2 g3 g4
    go_wp2
    go_ret
    exact ⟨rfl, B0.out.trans (B2.out.mono B0.out.size)⟩
  have d4 : decide (150000000 < b) = false := decide_eq_false g4
  by_cases g5 : b < a
  · have d5 : decide (b < a) = true := decide_eq_true g5
    clear g1 g2 g3 g4 g5
    go_wp2
    go_ret
    exact ⟨rfl, B0.out.trans (B2.out.mono B0.out.size)⟩
  have d5 : decide (b < a) = false := decide_eq_false g5
  have BD := Lib.hid (show -900 ≤ more ∧ more ≤ 900 ∧ 2000 ≤ a ∧ b ≤ 150000000 ∧ a ≤ b by omega)
  have wa : IntKind.i64.wrap (a - more) = a - more := IntWalk.i64_in _ (by omega)
  have wb : IntKind.i64.wrap (b - more) = b - more := IntWalk.i64_in _ (by omega)
  obtain ⟨z2, hz2⟩ : ∃ z, z = wrap64 (ah + more) := ⟨_, rfl⟩
  obtain ⟨R1, hR1⟩ : ∃ R, R = tmsOf ah [] T M N C ln a b := ⟨_, rfl⟩
  obtain ⟨X1, hX1⟩ : ∃ X, X = fullN (betE F (zfault ah []) a b) R1.length := ⟨_, rfl⟩
  obtain ⟨R2, hR2⟩ : ∃ R, R = tmsOf z2 [] T M N C ln (a - more) (b - more) := ⟨_, rfl⟩
  obtain ⟨X2, hX2⟩ : ∃ X, X = fullN (betE F (zfault z2 []) (a - more) (b - more)) R2.length := ⟨_, rfl⟩
  have LA := Lib.hid (show Calls Tryz.prog 28 _ w2 (BetP ln X1 R1 w2) by have h := BF.out ah a b w2 B2.out; rw [← hR1, ← hX1] at h; exact h)
  have LB := Lib.hid (show ∀ wx, Below w0.heap.size w0 wx → Calls Tryz.prog 28 #[.agg #[.int .i64 z2, .slice none 0 0], .agg #[.string snm, .string stx, .int .i64 st, .int .i64 ln, .bool rp, .int .i64 fr, .int .i64 ev, .int .i64 ct, .int .i64 ti, .slice am mo.length km, .slice ad da.length kd, .slice aw we.length kw, .slice ap pk.length kp, .slice aM M.length kM, .slice aN N.length kN, .slice aC C.length kC, .slice aA A.length kA], .int .i64 (a - more), .int .i64 (b - more)] wx (BetP ln X2 R2 wx) from fun wx hbx => by have h := BF.out z2 (a - more) (b - more) wx hbx; rw [← hR2, ← hX2] at h; exact h)
  have HR1 := Lib.hid hR1; have HX1 := Lib.hid hX1; have HR2 := Lib.hid hR2; have HX2 := Lib.hid hX2; have HZ2 := Lib.hid hz2
  have E2 := Lib.hid (EC.out.below B2.out)
  clear g1 g2 g3 g4 g5 hR1 hX1 hR2 hX2 hz2
  go_upto_region 7 with fail
  clear d1 d2 d3 d4 d5
  have k0 := E2.out.k0; have k1 := E2.out.k1; have k2 := E2.out.k2; have k3 := E2.out.k3; have k4 := E2.out.k4; have k5 := E2.out.k5; have k6 := E2.out.k6; have k7 := E2.out.k7; have k8 := E2.out.k8; have k9 := E2.out.k9; have k10 := E2.out.k10; have k11 := E2.out.k11; have k12 := E2.out.k12; have k13 := E2.out.k13; have k14 := E2.out.k14; have k15 := E2.out.k15; have k16 := E2.out.k16
  go_cut [14, 15] (fun s14 s15 wx => ∃ v, s14 = v ∧ s15 = errV X1 ∧ OwnT ln w2.heap.size wx v (if X1 = 0 then R1 else []) ∧ Below w2.heap.size w2 wx)
  case first => as_aux_lemma =>
    go_wp2_with fail
    refine LA.out.mono ?_; rintro e w3 ⟨v, rfl, hv, hb⟩
    have HV := Lib.hid hv; have HB := Lib.hid hb
    clear hv hb k0 k1 k2 k3 k4 k5 k6 k7 k8 k9 k10 k11 k12 k13 k14 k15 k16
    go_wp2
    go_meet
    exact ⟨_, rfl, rfl, HV.out, HB.out⟩
  case rest =>
  clear k0 k1 k2 k3 k4 k5 k6 k7 k8 k9 k10 k11 k12 k13 k14 k15 k16
  obtain ⟨v3, rfl, rfl, hv3, hb3⟩ := hcut
  obtain ⟨w3, rfl⟩ : ∃ x, x = wc := ⟨_, rfl⟩
  have B3 := Lib.hid (B2.out.trans (hb3.mono B2.out.size))
  have V3 := Lib.hid hv3
  have E3 := Lib.hid (EC.out.below B3.out)
  clear hb3 hv3 E2 LA
  go_upto_region 8 with fail
  have k0 := E3.out.k0; have k1 := E3.out.k1; have k2 := E3.out.k2; have k3 := E3.out.k3; have k4 := E3.out.k4; have k5 := E3.out.k5; have k6 := E3.out.k6; have k7 := E3.out.k7; have k8 := E3.out.k8; have k9 := E3.out.k9; have k10 := E3.out.k10; have k11 := E3.out.k11; have k12 := E3.out.k12; have k13 := E3.out.k13; have k14 := E3.out.k14; have k15 := E3.out.k15; have k16 := E3.out.k16
  go_cut [16, 17] (fun s16 s17 wx => ∃ v, s16 = v ∧ s17 = errV X2 ∧ OwnT ln w3.heap.size wx v (if X2 = 0 then R2 else []) ∧ Below w3.heap.size w3 wx)
  case first => as_aux_lemma =>
    go_wp2_with fail
    rw [← HZ2.out]
    refine (LB.out w3 B3.out).mono ?_; rintro e w4 ⟨v, rfl, hv, hb⟩
    have HV := Lib.hid hv; have HB := Lib.hid hb
    clear hv hb k0 k1 k2 k3 k4 k5 k6 k7 k8 k9 k10 k11 k12 k13 k14 k15 k16
    go_wp2
    go_meet
    exact ⟨_, rfl, rfl, HV.out, HB.out⟩
  case rest =>
  clear k0 k1 k2 k3 k4 k5 k6 k7 k8 k9 k10 k11 k12 k13 k14 k15 k16
  obtain ⟨v4, rfl, rfl, hv4, hb4⟩ := hcut
  obtain ⟨w4, rfl⟩ : ∃ x, x = wc := ⟨_, rfl⟩
  have B4 := Lib.hid (B3.out.trans (hb4.mono B3.out.size))
  have V34 := Lib.hid (own_kept V3.out hb4)
  have V4 := Lib.hid hv4
  clear hb4 hv4 E3 LB wa wb V3
  by_cases h1 : X1 ≠ 0
  · have E := Lib.hid (show errV X1 = .iface 119 (.int .i64 X1) by rw [errV, if_neg h1])
    rw [E.out]
    clear h1
    go_wp2
    go_ret
    exact ⟨rfl, B0.out.trans (B4.out.mono B0.out.size)⟩
  obtain rfl : X1 = 0 := by omega
  rw [errV_0]
  by_cases h2 : X2 ≠ 0
  · have E := Lib.hid (show errV X2 = .iface 119 (.int .i64 X2) by rw [errV, if_neg h2])
    rw [E.out]
    clear h1 h2
    go_wp2
    go_ret
    exact ⟨rfl, B0.out.trans (B4.out.mono B0.out.size)⟩
  obtain rfl : X2 = 0 := by omega
  rw [errV_0]
  clear h1 h2
  have RM := Lib.hid (ahead_both (F := F) BD.out HX1.out HX2.out HZ2.out hah FF.out HR1.out HR2.out)
  have r1 := (V34.out); have r2 := (V4.out)
  rw [if_pos rfl] at r1 r2
  obtain ⟨p1, c1, rfl, hm1, -, hcs1⟩ := owns_cells r1
  obtain ⟨p2, c2, rfl, hm2, -, hcs2⟩ := owns_cells r2
  unfold maxLen at hm1 hm2
  obtain ⟨rm1, rm2, rm3, rm4⟩ := RM.out
  have hl : R2.length = R1.length := by rw [rm1, List.length_map]
  have C1 := Lib.hid hcs1; have C2 := Lib.hid hcs2
  have R2E := Lib.hid rm1; have RB := Lib.hid rm4; have LNB := Lib.hid rm3
  obtain ⟨n, hn⟩ : ∃ n, n = R1.length := ⟨_, rfl⟩
  rw [hl, ← hn]
  have N1 := Lib.hid hn
  have n2 : n ≤ 200 := by omega
  have d0 : ((n : Int) != (n : Int)) = false := by simp
  clear r1 r2 hcs1 hcs2 rm1 rm3 rm4 hn hl V34 V4 RM
  go_wp2_with fail
  go_loopg [18] n (fun g iv wr => ∃ k : Nat, k ≤ n ∧ iv = .int .i64 k ∧ g = n - k ∧ Below w4.heap.size w4 wr)
  case atStart => exact ⟨0, Nat.zero_le _, rfl, rfl, Below.refl _ _⟩
  case round =>
    obtain ⟨k, hk, rfl, hg, hb⟩ := hrel
    have G := Lib.hid hg; have BR := Lib.hid hb
    clear hg
    by_cases hlt : k < n
    · have k1 : k < R1.length := by rw [← N1.out]; exact hlt
      obtain ⟨g1, rfl, -, q1⟩ := C1.out (by omega)
      obtain ⟨g2, rfl, -, q2⟩ := C2.out (by rw [R2E.out, List.length_map]; omega)
      obtain ⟨x, hx⟩ : ∃ x, x = R1[k] := ⟨_, rfl⟩
      have xb := RB.out x (by rw [hx]; exact List.getElem_mem _)
      have k2 : k < R2.length := by rw [R2E.out, List.length_map]; exact k1
      have hx2 : R2[k] = (x.1, x.2 - more) := by rw [hx]; simp [R2E.out]
      obtain ⟨x1, x2⟩ := x
      simp only at hx2 xb
      obtain ⟨y, hy⟩ : ∃ y, y = x2 + ln := ⟨_, rfl⟩
      have lb := LNB.out
      have mb := BD.out
      have a0 := cell_below hb (q1 (k * 3) (.int .i64 x1) (by have := flatMap_at (enc := encT ln) (k := 3) (fun _ => rfl) R1 k 0 k1 (by omega); rw [← hx] at this; simpa [encT] using this))
      have a1 := cell_below hb (q1 (k * 3 + 1) (.int .i64 x2) (by have := flatMap_at (enc := encT ln) (k := 3) (fun _ => rfl) R1 k 1 k1 (by omega); rw [← hx] at this; simpa [encT] using this))
      have a2 := cell_below hb (q1 (k * 3 + 2) (.int .i64 y) (by have := flatMap_at (enc := encT ln) (k := 3) (fun _ => rfl) R1 k 2 k1 (by omega); rw [← hx] at this; simpa [encT, hy] using this))
      have b0 := cell_below hb (q2 (k * 3) (.int .i64 x1) (by have := flatMap_at (enc := encT ln) (k := 3) (fun _ => rfl) R2 k 0 k2 (by omega); rw [hx2] at this; simpa [encT] using this))
      have b1 := cell_below hb (q2 (k * 3 + 1) (.int .i64 (x2 - more)) (by have := flatMap_at (enc := encT ln) (k := 3) (fun _ => rfl) R2 k 1 k2 (by omega); rw [hx2] at this; simpa [encT] using this))
      have b2 := cell_below hb (q2 (k * 3 + 2) (.int .i64 (y - more)) (by have := flatMap_at (enc := encT ln) (k := 3) (fun _ => rfl) R2 k 2 k2 (by omega); rw [hx2] at this; rw [hy, show x2 + ln - more = x2 - more + ln by omega]; simpa [encT] using this))
      have i0 : (0 : Int) ≤ (k : Int) := Int.natCast_nonneg _
      have i2 : (k : Int) < (n : Int) := by omega
      have s1 : IntKind.i64.wrap (x2 - more) = x2 - more := IntWalk.i64_in _ (by omega)
      have s2 : IntKind.i64.wrap (y - more) = y - more := IntWalk.i64_in _ (by omega)
      clear hx hx2 hy q1 q2 hb xb lb mb
      go_upto_region 16 with fail
      go_cut [133] (fun s133 wx => s133 = .bool false ∧ Below wr.heap.size wr wx)
      case first => as_aux_lemma =>
        go_quiet (fail)
        go_wp2
        go_meet
        exact ⟨by first | rfl | simp, below_drewN (Below.refl _ _) _⟩
      case rest =>
      obtain ⟨rfl, hbx⟩ := hcut
      have B5 := Lib.hid (BR.out.trans (hbx.mono BR.out.size))
      clear hbx a0 a1 a2 b0 b1 b2
      go_wp2
      go_roundg (n - (k + 1))
      case measure => rw [G.out]; omega
      case rel => exact ⟨k + 1, by omega, by go_num, rfl, B5.out⟩
    · obtain rfl : k = n := by omega
      have i2 : ¬ (k : Int) < (k : Int) := by omega
      clear hb
      go_wp2
      go_ret
      exact ⟨rfl, B0.out.trans ((B4.out.trans (BR.out.mono B4.out.size)).mono B0.out.size)⟩

end Go.Proofs.YtkpmddlinlcobaaGreatDoor
