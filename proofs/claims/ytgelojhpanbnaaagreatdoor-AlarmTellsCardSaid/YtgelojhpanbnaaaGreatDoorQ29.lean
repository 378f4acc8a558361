/- Texts joined into one (a claim has at most 60 files): The law AlarmTells: when any event rings between any two times, and which ring is ahead: the walk; The law AlarmTells, as its frame takes it; A struct of 5 one-cell fields, by value: its fields' readings. -/
import Derived.Test.YtgelojhpanbnaaaGreatDoorRefRg
import Derived.Test.YtgelojhpanbnaaaGreatDoorQ26
import Derived.Test.YtgelojhpanbnaaaGreatDoorQ32
import Derived.Test.YtgelojhpanbnaaaGreatDoorQ28
import Derived.Test.YtgelojhpanbnaaaGreatDoorQ21
import Derived.Deep.RegionHeld3
import Derived.Test.YtgelojhpanbnaaaGreatDoorQ09
import Derived.Lib.SmallJoins
namespace Go.Proofs.YtgelojhpanbnaaaGreatDoor
open Go.RowKit Go.Shelf Go.Sort
set_option linter.unusedSimpArgs false
set_option linter.unusedVariables false

theorem rngsX_rngs {nm : ByteArray} {w : World} {v : Value} {L : List Rng} (h : RngsX w v (L.map (wnX nm))) : RngsR nm w v L := by
  unfold RngsX at h
  rw [encX_wn, List.length_map] at h
  exact h

theorem rngsX_rngs0 {nm : ByteArray} {X : Int} {w : World} {v : Value} {L : List Rng} (h : RngsX w v (if X = 0 then L.map (wnX nm) else [])) : RngsR nm w v (if X = 0 then L else []) := by
  by_cases h0 : X = 0
  · rw [if_pos h0] at h ⊢; exact rngsX_rngs h
  · rw [if_neg h0] at h ⊢
    exact h

theorem grown_below (w : World) (q : Nat) (os : Array Obj) : Below w.heap.size w (grow (w.drewN q) os) := by
  refine ⟨rfl, rfl, rfl, ?_, fun k hk => ?_⟩
  · simp [grow]
  · simp [grow, Array.getElem?_append, hk]

/-- chimeref2.Rings at any later world. -/
def RrgG (w0 : World) (zv ev : Value) (nm : ByteArray) (F ZF ah ln : Int) (Z : List (Int × Int)) (T M N : List Int) (C : List (Int × Int)) (A : List Alm) : Prop :=
  F = 0 → ZF = 0 → ∀ (lo hi : Int) (wx : World), (-100000000 ≤ lo ∧ lo ≤ 900000000) → (-100000000 ≤ hi ∧ hi ≤ 900000000) → Below w0.heap.size w0 wx → Calls Tryz.prog 32 #[zv, ev, .int .i64 lo, .int .i64 hi] wx (RrgP nm (ringsL ah Z T M N C A ln lo hi) wx)

theorem rrgG_mk (nm tx : List UInt8) (st ln : Int) (rp : Bool) (fr ev ct ti : Int) (vm vd vw vp vM vN vC vA : Value) (mo da : List Int) (we : List (Int × Int)) (pk M N : List Int) (C : List (Int × Int)) (A : List Alm) (ah : Int) (vZ : Value) (Z : List (Int × Int)) (w w0 : World) (hb0 : Below w.heap.size w w0)
    (hR : EvR w vm vd vw vp vM vN vC vA mo da we pk M N C A) (hZ : PairsR w vZ Z) :
    RrgG w0 (.agg #[.int .i64 ah, vZ]) (.agg #[.string (bs nm), .string (bs tx), .int .i64 st, .int .i64 ln, .bool rp, .int .i64 fr, .int .i64 ev, .int .i64 ct, .int .i64 ti, vm, vd, vw, vp, vM, vN, vC, vA]) (bs nm) (evF nm tx st ln rp fr ev ct ti mo da we pk M N C A) (zfault ah Z) ah ln Z (ruleT rp st fr ev ct ti mo da we pk) M N C A := fun hF hz lo hi wx h1 h2 hbx => by
  have hbw : Below w.heap.size w wx := hb0.trans (hbx.mono hb0.size)
  exact rrings_any (bs nm) (bs tx) st ln rp fr ev ct ti _ _ _ _ _ _ _ _ mo da we pk M N C A ah _ Z lo hi wx (hR.below hbw) (evF_facts hF) (hZ.below hbw) hz h1 h2

set_option maxRecDepth 100000 in
set_option maxHeartbeats 16000000 in
theorem alarmTells_any (ah : Int) (vZ : Value) (Z : List (Int × Int)) (nm tx : List UInt8) (st ln : Int) (rp : Bool) (fr ev ct ti : Int) (vm vd vw vp vM vN vC vA : Value) (mo da : List Int) (we : List (Int × Int)) (pk M N : List Int) (C : List (Int × Int)) (A : List Alm) (a b : Int) (a1 : Int) (na : ByteArray) (a2 a3 a4 b1 : Int) (nb : ByteArray) (b2 b3 b4 : Int) (w : World) (hw : Months w) (hE : ErrT w) (hZ : PairsR w vZ Z)
    (hR : EvR w vm vd vw vp vM vN vC vA mo da we pk M N C A) (hnm : nm.length ≤ 140737488351232) (htx : tx.length ≤ 140737488351232) (hcl : C.length ≤ 8796093022208) (hsm : mo.length ≤ 70368744177664 ∧ da.length ≤ 70368744177664 ∧ we.length ≤ 70368744177664 ∧ pk.length ≤ 70368744177664) :
    Calls Tryz.prog 5 #[.agg #[.int .i64 ah, vZ], .agg #[.string (bs nm), .string (bs tx), .int .i64 st, .int .i64 ln, .bool rp, .int .i64 fr, .int .i64 ev, .int .i64 ct, .int .i64 ti, vm, vd, vw, vp, vM, vN, vC, vA], .int .i64 a, .int .i64 b, .agg #[.int .i64 a1, .string na, .int .i64 a2, .int .i64 a3, .int .i64 a4], .agg #[.int .i64 b1, .string nb, .int .i64 b2, .int .i64 b3, .int .i64 b4]] w fun e w' => e = .returned (.bool true) ∧ Below w.heap.size w w' := by
  have hR0 := hR
  obtain ⟨h1, h2, h3, h4, hM, hN, hC, hA⟩ := hR
  obtain ⟨am, km, rfl, -, -, -⟩ := intsR_open h1
  obtain ⟨ad, kd, rfl, -, -, -⟩ := intsR_open h2
  obtain ⟨aw, kw, rfl, -, -, -⟩ := pairsR_open h3
  obtain ⟨ap, kp, rfl, -, -, -⟩ := intsR_open h4
  obtain ⟨aM, kM, rfl, -, -, -⟩ := intsR_open hM
  obtain ⟨aN, kN, rfl, -, -, -⟩ := intsR_open hN
  obtain ⟨aC, kC, rfl, -, kC2, hds⟩ := pairsR_open hC
  obtain ⟨aA, kA, rfl, -, -, -⟩ := almsR_open hA
  unfold maxLen at kC2
  obtain ⟨aZ, kZ, rfl, -, -, -⟩ := pairsR_open hZ
  obtain ⟨snm, hsnm⟩ : ∃ s, s = bs nm := ⟨_, rfl⟩
  obtain ⟨stx, hstx⟩ : ∃ s, s = bs tx := ⟨_, rfl⟩
  obtain ⟨eb, heb⟩ : ∃ x, x = w.heap.size := ⟨_, rfl⟩
  obtain ⟨wz, hwz⟩ : ∃ x, x = w.alloc (.cells #[.int .i64 ah, .slice aZ Z.length kZ] 33) := ⟨_, rfl⟩
  have hbz : Below w.heap.size w wz := by rw [hwz]; exact (Below.refl _ _).alloc (Nat.le_refl _) _
  have hsz : wz.heap.size = eb + 1 := by rw [hwz, heb]; simp
  have z0 : wz.cell? ⟨eb, 0, none⟩ = some (.int .i64 ah) := by rw [hwz, heb]; simp
  have z1 : wz.cell? ⟨eb, 1, none⟩ = some (.slice aZ Z.length kZ) := by rw [hwz, heb]; simp
  obtain ⟨w0, hw0⟩ : ∃ x, x = wz.alloc (.cells #[.string snm, .string stx, .int .i64 st, .int .i64 ln, .bool rp, .int .i64 fr, .int .i64 ev, .int .i64 ct, .int .i64 ti, .slice am mo.length km, .slice ad da.length kd, .slice aw we.length kw, .slice ap pk.length kp, .slice aM M.length kM, .slice aN N.length kN, .slice aC C.length kC, .slice aA A.length kA] 29) := ⟨_, rfl⟩
  have hb0 : Below wz.heap.size wz w0 := by rw [hw0]; exact (Below.refl _ _).alloc (Nat.le_refl _) _
  have ec := hw0 ▸ evC_new wz 29 snm stx st ln rp fr ev ct ti (.slice am mo.length km) (.slice ad da.length kd) (.slice aw we.length kw) (.slice ap pk.length kp) (.slice aM M.length kM) (.slice aN N.length kN) (.slice aC C.length kC) (.slice aA A.length kA)
  rw [hsz] at ec
  have z0 := cell_below hb0 z0; have z1 := cell_below hb0 z1
  have hbw : Below w.heap.size w w0 := hbz.trans (hb0.mono hbz.size)
  obtain ⟨wa, hwa⟩ : ∃ x, x = (w0.alloc (.cells #[.int .i64 a1, .string na, .int .i64 a2, .int .i64 a3, .int .i64 a4] 66)).alloc (.cells #[.int .i64 b1, .string nb, .int .i64 b2, .int .i64 b3, .int .i64 b4] 66) := ⟨_, rfl⟩
  have hs0 : w0.heap.size = eb + 2 := by rw [hw0]; simp [hsz]
  have hba : Below w0.heap.size w0 wa := by rw [hwa]; exact ((Below.refl _ _).alloc (Nat.le_refl _) _).alloc (by simp) _
  have ca : wa.cell? ⟨eb + 2, 0, none⟩ = some (.int .i64 a1) ∧ wa.cell? ⟨eb + 2, 1, none⟩ = some (.string na) ∧ wa.cell? ⟨eb + 2, 2, none⟩ = some (.int .i64 a2) ∧ wa.cell? ⟨eb + 2, 3, none⟩ = some (.int .i64 a3) ∧ wa.cell? ⟨eb + 2, 4, none⟩ = some (.int .i64 a4) ∧ wa.cell? ⟨eb + 3, 0, none⟩ = some (.int .i64 b1) ∧ wa.cell? ⟨eb + 3, 1, none⟩ = some (.string nb) ∧ wa.cell? ⟨eb + 3, 2, none⟩ = some (.int .i64 b2) ∧ wa.cell? ⟨eb + 3, 3, none⟩ = some (.int .i64 b3) ∧ wa.cell? ⟨eb + 3, 4, none⟩ = some (.int .i64 b4) := by
    rw [hwa, ← hs0]
    refine ⟨by simp, by simp, by simp, by simp, by simp, ?_, ?_, ?_, ?_, ?_⟩ <;> (rw [show eb + 3 = (w0.alloc (.cells #[.int .i64 a1, .string na, .int .i64 a2, .int .i64 a3, .int .i64 a4] 66)).heap.size by rw [World.size_alloc, hs0]]; simp)
  have ec := ec.below hba
  have z0 := cell_below hba z0; have z1 := cell_below hba z1
  have hbw : Below w.heap.size w wa := hbw.trans (hba.mono hbw.size)
  obtain ⟨F, hF⟩ : ∃ F, F = (evF nm tx st ln rp fr ev ct ti mo da we pk M N C A) := ⟨_, rfl⟩
  obtain ⟨ZF, hZF⟩ : ∃ F, F = zfault ah Z := ⟨_, rfl⟩
  obtain ⟨T, hT⟩ : ∃ T, T = ruleT rp st fr ev ct ti mo da we pk := ⟨_, rfl⟩
  have BF := Lib.hid (show RngG wa (.agg #[.int .i64 ah, .slice aZ Z.length kZ]) (.agg #[.string snm, .string stx, .int .i64 st, .int .i64 ln, .bool rp, .int .i64 fr, .int .i64 ev, .int .i64 ct, .int .i64 ti, .slice am mo.length km, .slice ad da.length kd, .slice aw we.length kw, .slice ap pk.length kp, .slice aM M.length kM, .slice aN N.length kN, .slice aC C.length kC, .slice aA A.length kA]) snm F ZF ah ln Z T M N C A by rw [hF, hZF, hT, hsnm, hstx]; exact rngG_mk nm tx st ln rp fr ev ct ti _ _ _ _ _ _ _ _ mo da we pk M N C A ah _ Z w wa hbw hw hR0 hZ hnm htx hcl)
  have YF := Lib.hid (show RdyG wa (.agg #[.int .i64 ah, .slice aZ Z.length kZ]) (.agg #[.string snm, .string stx, .int .i64 st, .int .i64 ln, .bool rp, .int .i64 fr, .int .i64 ev, .int .i64 ct, .int .i64 ti, .slice am mo.length km, .slice ad da.length kd, .slice aw we.length kw, .slice ap pk.length kp, .slice aM M.length kM, .slice aN N.length kN, .slice aC C.length kC, .slice aA A.length kA]) F ZF by rw [hF, hZF, hsnm, hstx]; exact rdyG_mk nm tx st ln rp fr ev ct ti _ _ _ _ _ _ _ _ mo da we pk M N C A ah _ Z w wa hbw hR0 hZ hnm htx hcl hsm)
  have RF := Lib.hid (show RrgG wa (.agg #[.int .i64 ah, .slice aZ Z.length kZ]) (.agg #[.string snm, .string stx, .int .i64 st, .int .i64 ln, .bool rp, .int .i64 fr, .int .i64 ev, .int .i64 ct, .int .i64 ti, .slice am mo.length km, .slice ad da.length kd, .slice aw we.length kw, .slice ap pk.length kp, .slice aM M.length kM, .slice aN N.length kN, .slice aC C.length kC, .slice aA A.length kA]) snm F ZF ah ln Z T M N C A by rw [hF, hZF, hT, hsnm, hstx]; exact rrgG_mk nm tx st ln rp fr ev ct ti _ _ _ _ _ _ _ _ mo da we pk M N C A ah _ Z w wa hbw hR0 hZ)
  have ERT := Lib.hid (hE.below hbw)
  have EC := Lib.hid ec; have BW := Lib.hid hbw; have WZ := Lib.hid hwz; have W0 := Lib.hid hw0; have WA := Lib.hid hwa; have EB := Lib.hid heb
  have Z0 := Lib.hid z0; have Z1 := Lib.hid z1; have CA := Lib.hid ca
  have SZ := Lib.hid hsz; have S0 := Lib.hid hs0
  rw [← hsnm, ← hstx]
  clear hR0 h1 h2 h3 h4 hM hN hC hA hw hE hZ hwz hbz hsz hw0 hb0 ec hbw heb hds hF hZF hT hsnm hstx hnm htx hcl hsm z0 z1 hwa hs0 hba ca
  go_enter Tryz.func5, Tryz.ntmps5
  go_upto_region 1 with fail
  rw [← WZ.out, ← W0.out, ← WA.out]
  rw [← EB.out]
  obtain ⟨E0, hE0⟩ : ∃ E, E = readyE F ZF := ⟨_, rfl⟩
  have YC := Lib.hid (show Calls Tryz.prog 30 _ wa (fun e w' => e = .returned (.int .i64 E0) ∧ Below wa.heap.size wa w') by have h := YF.out wa (Below.refl _ _); rw [← hE0] at h; exact h)
  have E0E := Lib.hid hE0
  clear hE0 YF
  have z0 := Z0.out; have z1 := Z1.out
  have k0 := EC.out.k0; have k1 := EC.out.k1; have k2 := EC.out.k2; have k3 := EC.out.k3; have k4 := EC.out.k4; have k5 := EC.out.k5; have k6 := EC.out.k6; have k7 := EC.out.k7; have k8 := EC.out.k8; have k9 := EC.out.k9; have k10 := EC.out.k10; have k11 := EC.out.k11; have k12 := EC.out.k12; have k13 := EC.out.k13; have k14 := EC.out.k14; have k15 := EC.out.k15; have k16 := EC.out.k16
  go_cut [13] (fun s9 wx => s9 = .int .i64 E0 ∧ Below wa.heap.size wa wx)
  case first => as_aux_lemma =>
    go_wp2_with fail
    refine YC.out.mono ?_; rintro e w1 ⟨rfl, hb1⟩
    have H1 := Lib.hid hb1
    clear hb1 z0 z1 k0 k1 k2 k3 k4 k5 k6 k7 k8 k9 k10 k11 k12 k13 k14 k15 k16
    go_wp2
    go_meet
    exact ⟨rfl, H1.out⟩
  case rest =>
  obtain ⟨rfl, hb1⟩ := hcut
  obtain ⟨w1, rfl⟩ : ∃ x, x = wc := ⟨_, rfl⟩
  have B1 := Lib.hid hb1
  have E1 := Lib.hid (EC.out.below B1.out)
  clear hb1 YC z0 z1 k0 k1 k2 k3 k4 k5 k6 k7 k8 k9 k10 k11 k12 k13 k14 k15 k16
  obtain ⟨R, hR⟩ : ∃ R, R = ringsL ah Z T M N C A ln a (b - 1) := ⟨_, rfl⟩
  obtain ⟨S, hS⟩ : ∃ S, S = spanE a b := ⟨_, rfl⟩
  obtain ⟨X, hX⟩ : ∃ X, X = ringE (betE F ZF a b) R.length := ⟨_, rfl⟩
  have LA := Lib.hid (show ∀ wx, Below wa.heap.size wa wx → Calls Tryz.prog 24 _ wx (RingsP snm X R wx) from fun wx hbx => by have h := BF.out a b wx hbx; rw [← hR, ← hX] at h; exact h)
  obtain ⟨G, hG⟩ : ∃ G, G = if E0 ≠ 0 then E0 else S := ⟨_, rfl⟩
  have LR := Lib.hid (show G = 0 → (IntKind.i64.wrap (b - 1) = b - 1 ∧ ∀ wx, Below wa.heap.size wa wx → Calls Tryz.prog 32 #[.agg #[.int .i64 ah, .slice aZ Z.length kZ], .agg #[.string snm, .string stx, .int .i64 st, .int .i64 ln, .bool rp, .int .i64 fr, .int .i64 ev, .int .i64 ct, .int .i64 ti, .slice am mo.length km, .slice ad da.length kd, .slice aw we.length kw, .slice ap pk.length kp, .slice aM M.length kM, .slice aN N.length kN, .slice aC C.length kC, .slice aA A.length kA], .int .i64 a, .int .i64 (b - 1)] wx (RrgP snm R wx)) from fun g0 => by
    have e0 : E0 = 0 := by
      by_cases h : E0 = 0
      · exact h
      · rw [hG, if_pos h] at g0; exact g0
    have s0 : S = 0 := by rw [hG, if_neg (by omega)] at g0; exact g0
    obtain ⟨f0, f1⟩ := ready_ok (E0E.out.symm.trans e0)
    rw [hS] at s0
    obtain ⟨t1, t2, t3, t4⟩ := spanE_0 s0
    have := timeB_yes t1; have := timeB_yes t2
    refine ⟨IntWalk.i64_in _ (by omega), fun wx hbx => ?_⟩
    have h := RF.out f0 f1 a (b - 1) wx (by omega) (by omega) hbx
    rw [← hR] at h; exact h)
  have RS := Lib.hid (show ∀ wx, Calls Tryz.prog 31 #[.int .i64 a, .int .i64 b] wx (fun e w' => e = .returned (.int .i64 S) ∧ wx = w') from fun wx => by rw [hS]; exact rstretch_any a b wx)
  have XE := Lib.hid (show X = if G ≠ 0 then G else manyE R.length by rw [hX, betE, ← E0E.out, ← hS, ← hG, ringE])
  have GE := Lib.hid hG
  clear hR hS hX BF hG RF
  go_upto_if 23 with fail
  go_cut [13] (fun s10 wx => s10 = .int .i64 G ∧ w1 = wx)
  case first => as_aux_lemma =>
    by_cases h0 : E0 = 0
    · have d0 : (E0 == 0) = true := by simpa using h0
      have e : G = S := by rw [GE.out, if_neg (by omega)]
      subst e
      clear h0 LR LA XE
      go_wp2_with (go_at_call 31; refine (RS.out _).mono ?_; rintro e w' ⟨rfl, rfl⟩)
      go_meet
      exact ⟨rfl, rfl⟩
    · have d0 : (E0 == 0) = false := by simpa using h0
      have e : G = E0 := by rw [GE.out, if_pos h0]
      subst e
      clear h0 LR LA XE
      go_wp2
      go_meet
      exact ⟨rfl, rfl⟩
  case rest =>
  obtain ⟨rfl, rfl⟩ := hcut
  go_upto_if 28 with fail
  go_cut [13, 14] (fun s10 s11 wx => s10 = .int .i64 X ∧ (∃ u, s11 = u ∧ RngsR snm wx u (if X = 0 then R else [])) ∧ Below w1.heap.size w1 wx)
  case first => as_aux_lemma =>
    by_cases g0 : G = 0
    case neg =>
      have d0 : (G == 0) = false := by simpa using g0
      have XX : X = G := by rw [XE.out, if_pos g0]
      subst XX
      have TN := Lib.hid (show RngsR snm w1 (.slice none 0 0) (if X = 0 then R else []) by rw [if_neg g0]; exact reads_nil w1 5)
      clear g0 XE
      go_wp2
      go_meet
      exact ⟨rfl, ⟨_, rfl, TN.out⟩, Below.refl _ _⟩
    subst g0
    obtain ⟨wb1, lr⟩ := LR.out rfl
    have RJ := Lib.hid (lr w1 B1.out)
    have z0 := cell_below B1.out Z0.out; have z1 := cell_below B1.out Z1.out
    have k0 := E1.out.k0; have k1 := E1.out.k1; have k2 := E1.out.k2; have k3 := E1.out.k3; have k4 := E1.out.k4; have k5 := E1.out.k5; have k6 := E1.out.k6; have k7 := E1.out.k7; have k8 := E1.out.k8; have k9 := E1.out.k9; have k10 := E1.out.k10; have k11 := E1.out.k11; have k12 := E1.out.k12; have k13 := E1.out.k13; have k14 := E1.out.k14; have k15 := E1.out.k15; have k16 := E1.out.k16
    have XN := Lib.hid (show manyE R.length = X by rw [XE.out, if_neg (by simp)])
    clear LR LA XE lr
    go_wp2_with fail
    refine RJ.out.mono ?_; rintro e w2 ⟨u, rfl, hu, hb2⟩
    rw [XN.out] at hu ⊢
    have HU := Lib.hid (rngsX_rngs0 hu); have HB := Lib.hid hb2
    clear hb2 hu z0 z1 wb1 k0 k1 k2 k3 k4 k5 k6 k7 k8 k9 k10 k11 k12 k13 k14 k15 k16
    go_wp2
    go_meet
    exact ⟨rfl, ⟨_, rfl, HU.out⟩, HB.out⟩
  case rest =>
  obtain ⟨rfl, ⟨u, rfl, hu⟩, hb2⟩ := hcut
  obtain ⟨w2, rfl⟩ : ∃ x, x = wc := ⟨_, rfl⟩
  have B2 := Lib.hid (B1.out.trans (hb2.mono B1.out.size))
  have U2 := Lib.hid hu
  have E2 := Lib.hid (EC.out.below B2.out)
  have L2 := Lib.hid (LA.out w2 B2.out)
  clear hb2 hu LR RS LA E1 XE
  have z0 := cell_below B2.out Z0.out; have z1 := cell_below B2.out Z1.out
  have k0 := E2.out.k0; have k1 := E2.out.k1; have k2 := E2.out.k2; have k3 := E2.out.k3; have k4 := E2.out.k4; have k5 := E2.out.k5; have k6 := E2.out.k6; have k7 := E2.out.k7; have k8 := E2.out.k8; have k9 := E2.out.k9; have k10 := E2.out.k10; have k11 := E2.out.k11; have k12 := E2.out.k12; have k13 := E2.out.k13; have k14 := E2.out.k14; have k15 := E2.out.k15; have k16 := E2.out.k16
  go_upto_region 7 with fail
  go_cut [15, 16] (fun s12 s13 wx => ∃ v, s12 = v ∧ s13 = errV X ∧ OwnR snm w2.heap.size wx v (if X = 0 then R else []) ∧ Below w2.heap.size w2 wx)
  case first => as_aux_lemma =>
    go_wp2_with fail
    refine L2.out.mono ?_; rintro e w3 ⟨v, rfl, hv, hb⟩
    have HV := Lib.hid hv; have HB := Lib.hid hb
    clear hv hb z0 z1 k0 k1 k2 k3 k4 k5 k6 k7 k8 k9 k10 k11 k12 k13 k14 k15 k16
    go_wp2
    go_meet
    exact ⟨_, rfl, rfl, HV.out, HB.out⟩
  case rest =>
  obtain ⟨v, rfl, rfl, hv, hb3⟩ := hcut
  obtain ⟨w3, rfl⟩ : ∃ x, x = wc := ⟨_, rfl⟩
  have B3 := Lib.hid (B2.out.trans (hb3.mono B2.out.size))
  have U3 := Lib.hid (U2.out.below hb3)
  have V3 := Lib.hid (OwnR.rngs hv)
  have ES := Lib.hid (error_same X w3 (ERT.out.below B3.out))
  clear hb3 hv z0 z1 k0 k1 k2 k3 k4 k5 k6 k7 k8 k9 k10 k11 k12 k13 k14 k15 k16 E2 L2 U2
  go_upto_region 8 with fail
  go_cut [17] (fun s14 wx => s14 = .bool true ∧ Below w3.heap.size w3 wx)
  case first => as_aux_lemma =>
    go_wp2_with fail
    refine ES.out.mono ?_; rintro e w4 ⟨rfl, hb⟩
    have HB := Lib.hid hb
    clear hb
    go_wp2
    go_meet
    exact ⟨rfl, HB.out⟩
  case rest =>
  obtain ⟨rfl, hb4⟩ := hcut
  obtain ⟨w4, rfl⟩ : ∃ x, x = wc := ⟨_, rfl⟩
  have B4 := Lib.hid (B3.out.trans (hb4.mono B3.out.size))
  have TS := Lib.hid (rings_same snm _ _ _ w4 (V3.out.below hb4) (U3.out.below hb4))
  clear hb4 ES V3 U3
  go_upto_region 9 with fail
  go_cut [18] (fun s15 wx => s15 = .bool true ∧ Below w4.heap.size w4 wx)
  case first => as_aux_lemma =>
    go_wp2_with fail
    refine TS.out.mono ?_; rintro e w5 ⟨rfl, hb⟩
    have HB := Lib.hid hb
    clear hb
    go_wp2
    go_meet
    exact ⟨rfl, HB.out⟩
  case rest =>
  obtain ⟨rfl, hb5⟩ := hcut
  obtain ⟨w5, rfl⟩ : ∃ x, x = wc := ⟨_, rfl⟩
  have B5 := Lib.hid (B4.out.trans (hb5.mono B4.out.size))
  obtain ⟨p0, p1, p2, p3, p4, q0, q1, q2, q3, q4⟩ := CA.out
  have p0 := cell_below B5.out p0; have p1 := cell_below B5.out p1; have p2 := cell_below B5.out p2; have p3 := cell_below B5.out p3; have p4 := cell_below B5.out p4
  have q0 := cell_below B5.out q0; have q1 := cell_below B5.out q1; have q2 := cell_below B5.out q2; have q3 := cell_below B5.out q3; have q4 := cell_below B5.out q4
  obtain ⟨o, ho⟩ : ∃ o, o = ordX (a1, na, a2, a3, a4) (b1, nb, b2, b3, b4) := ⟨_, rfl⟩
  have O1 := Lib.hid (show ∀ wx, Calls Tryz.prog 34 #[.agg #[.int .i64 a1, .string na, .int .i64 a2, .int .i64 a3, .int .i64 a4], .agg #[.int .i64 b1, .string nb, .int .i64 b2, .int .i64 b3, .int .i64 b4]] wx (fun e w' => e = .returned (.int .i64 o) ∧ Below wx.heap.size wx w') from fun wx => by
    refine (rorder_any a1 na a2 a3 a4 b1 nb b2 b3 b4 wx).mono ?_
    rintro e w' ⟨rfl, q, os, rfl⟩
    exact ⟨by rw [ho]; rfl, grown_below _ _ _⟩)
  have O2 := Lib.hid (show ∀ wx, Calls Tryz.prog 35 #[.agg #[.int .i64 a1, .string na, .int .i64 a2, .int .i64 a3, .int .i64 a4], .agg #[.int .i64 b1, .string nb, .int .i64 b2, .int .i64 b3, .int .i64 b4]] wx (fun e w' => e = .returned (.int .i64 o) ∧ Below wx.heap.size wx w') from fun wx => by rw [ho]; exact rord_any a1 na a2 a3 a4 b1 nb b2 b3 b4 wx)
  have OO : (o == o) = true := by simp
  clear hb5 TS ho
  go_upto_region 10 with fail
  go_cut [12] (fun s12 wx => s12 = .bool true ∧ Below w5.heap.size w5 wx)
  case first => as_aux_lemma =>
    go_region_held3 (fun w' => w'.cell? ⟨eb + 2, 0, none⟩ = some (.int .i64 a1) ∧ w'.cell? ⟨eb + 2, 1, none⟩ = some (.string na) ∧ w'.cell? ⟨eb + 2, 2, none⟩ = some (.int .i64 a2) ∧ w'.cell? ⟨eb + 2, 3, none⟩ = some (.int .i64 a3) ∧ w'.cell? ⟨eb + 2, 4, none⟩ = some (.int .i64 a4) ∧ w'.cell? ⟨eb + 3, 0, none⟩ = some (.int .i64 b1) ∧ w'.cell? ⟨eb + 3, 1, none⟩ = some (.string nb) ∧ w'.cell? ⟨eb + 3, 2, none⟩ = some (.int .i64 b2) ∧ w'.cell? ⟨eb + 3, 3, none⟩ = some (.int .i64 b3) ∧ w'.cell? ⟨eb + 3, 4, none⟩ = some (.int .i64 b4) ∧ Below w5.heap.size w5 w')
      (first | (refine ⟨?_, ?_, ?_, ?_, ?_, ?_, ?_, ?_, ?_, ?_, ?_⟩ <;> (first | assumption | exact Below.refl _ _ | exact (Below.refl _ _).drew)) | (go_split_ands; refine ⟨?_, ?_, ?_, ?_, ?_, ?_, ?_, ?_, ?_, ?_, ?_⟩ <;> (first | assumption | exact cell_below hbq (by assumption) | exact below_next (by assumption) hbq)))
      (first
        | (go_at_call 34; refine (O1.out _).mono ?_; rintro e wq ⟨rfl, hbq⟩)
        | (go_at_call 35; refine (O2.out _).mono ?_; rintro e wq ⟨rfl, hbq⟩))
    all_goals
      go_wp2
      go_meet
      exact ⟨by first | rfl | simp, by go_split_ands; assumption⟩
  case rest =>
  obtain ⟨rfl, hb6⟩ := hcut
  have B6 := Lib.hid (B5.out.trans (hb6.mono B5.out.size))
  clear hb6 p0 p1 p2 p3 p4 q0 q1 q2 q3 q4
  go_wp2
  go_ret
  exact ⟨rfl, BW.out.trans (B6.out.mono BW.out.size)⟩

end Go.Proofs.YtgelojhpanbnaaaGreatDoor

namespace Go.Proofs.YtgelojhpanbnaaaGreatDoor
open Go.RowKit Go.Shelf
set_option linter.unusedVariables false

theorem alarmTells_law (ah : Int) (vZ : Value) (Z : List (Int × Int)) (nm tx : List UInt8) (st ln : Int) (rp : Bool) (fr ev ct ti : Int) (vm vd vw vp vM vN vC vA : Value) (mo da : List Int) (we : List (Int × Int)) (pk M N : List Int) (C : List (Int × Int)) (A : List Alm) (a b : Int) (a1 : Int) (na : ByteArray) (a2 a3 a4 b1 : Int) (nb : ByteArray) (b2 b3 b4 : Int) (w : World) (hw : Months w) (hE : ErrT w) (w0 : (Lit.int .i64 ah).wf = true) (hZ : PairsR w vZ Z)
    (hmo : IntsR w vm mo) (hda : IntsR w vd da) (hwe : PairsR w vw we) (hpk : IntsR w vp pk) (hM : IntsR w vM M) (hN : IntsR w vN N) (hC : PairsR w vC C) (hA : AlmsR w vA A)
    (hnm : nm.length ≤ 140737488351232) (htx : tx.length ≤ 140737488351232) (hcl : C.length ≤ 8796093022208) (hsm : mo.length ≤ 70368744177664 ∧ da.length ≤ 70368744177664 ∧ we.length ≤ 70368744177664 ∧ pk.length ≤ 70368744177664) (w1 : (Lit.int .i64 a).wf = true) (w2 : (Lit.int .i64 b).wf = true) (w3 : (Lit.int .i64 a1).wf = true) (w4 : (Lit.int .i64 a2).wf = true) (w5 : (Lit.int .i64 a3).wf = true) (w6 : (Lit.int .i64 a4).wf = true) (w7 : (Lit.int .i64 b1).wf = true) (w8 : (Lit.int .i64 b2).wf = true) (w9 : (Lit.int .i64 b3).wf = true) (w10 : (Lit.int .i64 b4).wf = true) :
    Calls Tryz.prog 5 #[.agg #[.int .i64 ah, vZ], .agg #[.string (bs nm), .string (bs tx), .int .i64 st, .int .i64 ln, .bool rp, .int .i64 fr, .int .i64 ev, .int .i64 ct, .int .i64 ti, vm, vd, vw, vp, vM, vN, vC, vA], .int .i64 a, .int .i64 b, .agg #[.int .i64 a1, .string na, .int .i64 a2, .int .i64 a3, .int .i64 a4], .agg #[.int .i64 b1, .string nb, .int .i64 b2, .int .i64 b3, .int .i64 b4]] w fun e w' => e = .returned (.bool true) ∧ Below w.heap.size w w' :=
  alarmTells_any ah vZ Z nm tx st ln rp fr ev ct ti vm vd vw vp vM vN vC vA mo da we pk M N C A a b a1 na a2 a3 a4 b1 nb b2 b3 b4 w hw hE hZ ⟨hmo, hda, hwe, hpk, hM, hN, hC, hA⟩ hnm htx hcl hsm

end Go.Proofs.YtgelojhpanbnaaaGreatDoor

namespace Go.Proofs.YtgelojhpanbnaaaGreatDoor
open Go.Joins Go.ChangeShapes Go.WideShapes Go.RowKit Go.Deep

section
variable {H : Type} {enc : TypeId × Value → H} {P : Program} {w : World} {base : Nat} {spare : Nat → Bool} {held : Bool}
theorem open_agg5 {r : Reach} {b0 : Nat} {t : TypeId} {f0 f1 f2 f3 f4 : Field} {v : Value} {d : DataW H} {p : List MemPlace} (hs : P.underlying t = some (.struct #[f0, f1, f2, f3, f4])) (hone : oneCellFields P #[f0, f1, f2, f3, f4] = true) (hC : P.cellsOf t = 5)
    (hv : Value.okWide P w r b0 t v) (h : DataW.Trod enc P w base spare held t v d p) :
    ∃ (v0 v1 v2 v3 v4 : Value) (y0 y1 y2 y3 y4 : DataW H × List MemPlace) (n : Nat), v = .agg #[v0, v1, v2, v3, v4] ∧ d = .agg [y0.1, y1.1, y2.1, y3.1, y4.1] ∧ p = y0.2 ++ (y1.2 ++ (y2.2 ++ (y3.2 ++ y4.2))) ∧
      DataW.trod enc P w base spare held n f0.type [v0] = some y0 ∧ DataW.trod enc P w base spare held n f1.type [v1] = some y1 ∧ DataW.trod enc P w base spare held n f2.type [v2] = some y2 ∧ DataW.trod enc P w base spare held n f3.type [v3] = some y3 ∧ DataW.trod enc P w base spare held n f4.type [v4] = some y4 := by
  obtain ⟨cs, rfl, hsz⟩ := okWide_struct hs hv
  obtain ⟨l⟩ := cs
  match l, hsz.trans hC with
  | [c0, c1, c2, c3, c4], _ =>
    obtain ⟨fuel, hf⟩ := h
    obtain ⟨xs, n, _, hx, _, hlen, hg⟩ := DataW.trod_struct hs hf
    obtain ⟨o0, k0⟩ := hone_of hone 0 f0 rfl
    obtain ⟨o1, k1⟩ := hone_of hone 1 f1 rfl
    obtain ⟨o2, k2⟩ := hone_of hone 2 f2 rfl
    obtain ⟨o3, k3⟩ := hone_of hone 3 f3 rfl
    obtain ⟨o4, k4⟩ := hone_of hone 4 f4 rfl
    match xs, hlen with
    | [y0, y1, y2, y3, y4], _ =>
      simp only [Prod.mk.injEq] at hx
      exact ⟨c0, c1, c2, c3, c4, y0, y1, y2, y3, y4, n, rfl, by simpa using hx.1, by simpa using hx.2, by simpa [Value.cells, o0, k0] using hg 0 f0 rfl, by simpa [Value.cells, o1, k1] using hg 1 f1 rfl, by simpa [Value.cells, o2, k2] using hg 2 f2 rfl, by simpa [Value.cells, o3, k3] using hg 3 f3 rfl, by simpa [Value.cells, o4, k4] using hg 4 f4 rfl⟩
end

end Go.Proofs.YtgelojhpanbnaaaGreatDoor
