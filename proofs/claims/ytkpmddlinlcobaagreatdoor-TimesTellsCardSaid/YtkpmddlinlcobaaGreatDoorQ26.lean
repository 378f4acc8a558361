/- Texts joined into one (a claim has at most 60 files): The contract of the reference chimeref2.Ready, and its Between at any later world; The law TimesTells: from when to when any event is, between any two times, and next: the walk; The law TimesTells, as its frame takes it; What the reach says of all arguments it says of all but the first. -/
import Derived.Test.YtkpmddlinlcobaaGreatDoorRefEv
import Derived.Test.YtkpmddlinlcobaaGreatDoorTimHa
import Derived.Test.YtkpmddlinlcobaaGreatDoorRefBt
import Derived.Test.YtkpmddlinlcobaaGreatDoorRefE
import Derived.Test.YtkpmddlinlcobaaGreatDoorTimJ
import Derived.Test.YtkpmddlinlcobaaGreatDoorQ21
import Derived.Test.YtkpmddlinlcobaaGreatDoorQ10
namespace Go.Proofs.YtkpmddlinlcobaaGreatDoor
open Go.RowKit Go.Shelf
set_option linter.unusedSimpArgs false
set_option linter.unusedVariables false

set_option maxRecDepth 100000 in
set_option maxHeartbeats 4000000 in
theorem rready_any (nm tx : List UInt8) (st ln : Int) (rp : Bool) (fr ev ct ti : Int) (vm vd vw vp vM vN vC vA : Value) (mo da : List Int) (we : List (Int × Int)) (pk M N : List Int) (C : List (Int × Int)) (A : List Alm) (ah : Int) (vZ : Value) (Z : List (Int × Int)) (w : World)
    (hR : EvR w vm vd vw vp vM vN vC vA mo da we pk M N C A) (hZ : PairsR w vZ Z) (hnm : nm.length ≤ 140737488351232) (htx : tx.length ≤ 140737488351232) (hcl : C.length ≤ 8796093022208) (hsm : mo.length ≤ 70368744177664 ∧ da.length ≤ 70368744177664 ∧ we.length ≤ 70368744177664 ∧ pk.length ≤ 70368744177664) :
    Calls Tryz.prog 30 #[.agg #[.int .i64 ah, vZ], .agg #[.string (bs nm), .string (bs tx), .int .i64 st, .int .i64 ln, .bool rp, .int .i64 fr, .int .i64 ev, .int .i64 ct, .int .i64 ti, vm, vd, vw, vp, vM, vN, vC, vA]] w fun e w' => e = .returned (.int .i64 (readyE (evF nm tx st ln rp fr ev ct ti mo da we pk M N C A) (zfault ah Z))) ∧ Below w.heap.size w w' := by
  obtain ⟨h1, h2, h3, h4, hM, hN, hC, hA⟩ := hR
  obtain ⟨am, km, rfl, -, -, -⟩ := intsR_open h1
  obtain ⟨ad, kd, rfl, -, -, -⟩ := intsR_open h2
  obtain ⟨aw, kw, rfl, -, -, -⟩ := pairsR_open h3
  obtain ⟨ap, kp, rfl, -, -, -⟩ := intsR_open h4
  obtain ⟨aM, kM, rfl, -, -, -⟩ := intsR_open hM
  obtain ⟨aN, kN, rfl, -, -, -⟩ := intsR_open hN
  obtain ⟨aC, kC, rfl, -, kC2, hds⟩ := pairsR_open hC
  obtain ⟨aA, kA, rfl, -, -, -⟩ := almsR_open hA
  unfold maxLen at kC2
  obtain ⟨aZ, kZ, rfl, -, -, -⟩ := pairsR_open hZ
  obtain ⟨snm, hsnm⟩ : ∃ s, s = bs nm := ⟨_, rfl⟩
  obtain ⟨stx, hstx⟩ : ∃ s, s = bs tx := ⟨_, rfl⟩
  obtain ⟨eb, heb⟩ : ∃ x, x = w.heap.size := ⟨_, rfl⟩
  obtain ⟨wz, hwz⟩ : ∃ x, x = w.alloc (.cells #[.int .i64 ah, .slice aZ Z.length kZ] 56) := ⟨_, rfl⟩
  have hbz : Below w.heap.size w wz := by rw [hwz]; exact (Below.refl _ _).alloc (Nat.le_refl _) _
  have hsz : wz.heap.size = eb + 1 := by rw [hwz, heb]; simp
  have z0 : wz.cell? ⟨eb, 0, none⟩ = some (.int .i64 ah) := by rw [hwz, heb]; simp
  have z1 : wz.cell? ⟨eb, 1, none⟩ = some (.slice aZ Z.length kZ) := by rw [hwz, heb]; simp
  obtain ⟨w0, hw0⟩ : ∃ x, x = wz.alloc (.cells #[.string snm, .string stx, .int .i64 st, .int .i64 ln, .bool rp, .int .i64 fr, .int .i64 ev, .int .i64 ct, .int .i64 ti, .slice am mo.length km, .slice ad da.length kd, .slice aw we.length kw, .slice ap pk.length kp, .slice aM M.length kM, .slice aN N.length kN, .slice aC C.length kC, .slice aA A.length kA] 29) := ⟨_, rfl⟩
  have hb0 : Below wz.heap.size wz w0 := by rw [hw0]; exact (Below.refl _ _).alloc (Nat.le_refl _) _
  have ec := hw0 ▸ evC_new wz 29 snm stx st ln rp fr ev ct ti (.slice am mo.length km) (.slice ad da.length kd) (.slice aw we.length kw) (.slice ap pk.length kp) (.slice aM M.length kM) (.slice aN N.length kN) (.slice aC C.length kC) (.slice aA A.length kA)
  rw [hsz] at ec
  have z0 := cell_below hb0 z0; have z1 := cell_below hb0 z1
  have hbw : Below w.heap.size w w0 := hbz.trans (hb0.mono hbz.size)
  obtain ⟨F, hF⟩ : ∃ F, F = (evF nm tx st ln rp fr ev ct ti mo da we pk M N C A) := ⟨_, rfl⟩
  obtain ⟨ZF, hZF⟩ : ∃ F, F = zfault ah Z := ⟨_, rfl⟩
  have CK := Lib.hid (show Calls Tryz.prog 14 #[.agg #[.string snm, .string stx, .int .i64 st, .int .i64 ln, .bool rp, .int .i64 fr, .int .i64 ev, .int .i64 ct, .int .i64 ti, .slice am mo.length km, .slice ad da.length kd, .slice aw we.length kw, .slice ap pk.length kp, .slice aM M.length kM, .slice aN N.length kN, .slice aC C.length kC, .slice aA A.length kA]] w0 (fun e w' => e = .returned (.int .i64 F) ∧ Below w0.heap.size w0 w') by
    rw [hF, hsnm, hstx]
    exact revent_any nm tx st ln rp fr ev ct ti _ _ _ _ _ _ _ _ mo da we pk M N C A w0 (h1.below hbw) (h2.below hbw) (h3.below hbw) (h4.below hbw) (hM.below hbw) (hN.below hbw) (hC.below hbw) (hA.below hbw) hnm htx hcl hsm)
  have ZK := Lib.hid (show ∀ wx, Below w0.heap.size w0 wx → Calls Tryz.prog 83 #[.agg #[.int .i64 ah, .slice aZ Z.length kZ]] wx (fun e w' => e = .returned (.int .i64 ZF) ∧ Below wx.heap.size wx w') from fun wx hbx => by
    rw [hZF]; exact rzone_any _ Z ah wx (hZ.below (hbw.trans (hbx.mono hbw.size))))
  rw [← hsnm, ← hstx, ← hF, ← hZF]
  obtain ⟨YE, hYE⟩ : ∃ z, z = readyE F ZF := ⟨_, rfl⟩
  rw [← hYE]
  have YH := Lib.hid hYE
  have EC := Lib.hid ec; have BW := Lib.hid hbw; have WZ := Lib.hid hwz; have W0 := Lib.hid hw0; have EB := Lib.hid heb
  have Z0 := Lib.hid z0; have Z1 := Lib.hid z1
  clear h1 h2 h3 h4 hM hN hC hA hZ hwz hbz hsz hw0 hb0 ec hbw heb hds z0 z1 hF hZF hsnm hstx hnm htx hcl hsm hYE
  go_enter Tryz.func30, Tryz.ntmps30
  go_upto_region 1 with fail
  rw [← WZ.out, ← W0.out]
  rw [← EB.out]
  have k0 := EC.out.k0; have k1 := EC.out.k1; have k2 := EC.out.k2; have k3 := EC.out.k3; have k4 := EC.out.k4; have k5 := EC.out.k5; have k6 := EC.out.k6; have k7 := EC.out.k7; have k8 := EC.out.k8; have k9 := EC.out.k9; have k10 := EC.out.k10; have k11 := EC.out.k11; have k12 := EC.out.k12; have k13 := EC.out.k13; have k14 := EC.out.k14; have k15 := EC.out.k15; have k16 := EC.out.k16
  go_wp2_with fail
  refine CK.out.mono ?_; rintro e w1 ⟨rfl, hb1⟩
  have z0 := cell_below hb1 Z0.out
  have z1 := cell_below hb1 Z1.out
  have B1 := Lib.hid hb1
  clear hb1 k0 k1 k2 k3 k4 k5 k6 k7 k8 k9 k10 k11 k12 k13 k14 k15 k16
  by_cases h0 : F = 0
  · have RE := Lib.hid (show YE = ZF by rw [YH.out, readyE, if_neg (by omega)])
    have d0 : (F == 0) = true := by simpa using h0
    clear h0
    go_wp2_with fail
    refine (ZK.out _ B1.out).mono ?_; rintro e w2 ⟨rfl, hb2⟩
    have B2 := Lib.hid (B1.out.trans (hb2.mono B1.out.size))
    clear hb2 z0 z1
    go_wp2
    go_ret
    exact ⟨by first | (rw [RE.out]; done) | (rw [RE.out]; rfl), BW.out.trans (B2.out.mono BW.out.size)⟩
  · have RE := Lib.hid (show YE = F by rw [YH.out, readyE, if_pos h0])
    have d0 : (F == 0) = false := by simpa using h0
    clear h0 z0 z1
    go_wp2
    go_ret
    exact ⟨by first | (rw [RE.out]; done) | (rw [RE.out]; rfl), BW.out.trans (B1.out.mono BW.out.size)⟩

def RdyG (w0 : World) (zv ev : Value) (F ZF : Int) : Prop :=
  ∀ (wx : World), Below w0.heap.size w0 wx → Calls Tryz.prog 30 #[zv, ev] wx (fun e w' => e = .returned (.int .i64 (readyE F ZF)) ∧ Below wx.heap.size wx w')

theorem rdyG_mk (nm tx : List UInt8) (st ln : Int) (rp : Bool) (fr ev ct ti : Int) (vm vd vw vp vM vN vC vA : Value) (mo da : List Int) (we : List (Int × Int)) (pk M N : List Int) (C : List (Int × Int)) (A : List Alm) (ah : Int) (vZ : Value) (Z : List (Int × Int)) (w w0 : World) (hb0 : Below w.heap.size w w0)
    (hR : EvR w vm vd vw vp vM vN vC vA mo da we pk M N C A) (hZ : PairsR w vZ Z) (hnm : nm.length ≤ 140737488351232) (htx : tx.length ≤ 140737488351232) (hcl : C.length ≤ 8796093022208) (hsm : mo.length ≤ 70368744177664 ∧ da.length ≤ 70368744177664 ∧ we.length ≤ 70368744177664 ∧ pk.length ≤ 70368744177664) :
    RdyG w0 (.agg #[.int .i64 ah, vZ]) (.agg #[.string (bs nm), .string (bs tx), .int .i64 st, .int .i64 ln, .bool rp, .int .i64 fr, .int .i64 ev, .int .i64 ct, .int .i64 ti, vm, vd, vw, vp, vM, vN, vC, vA]) (evF nm tx st ln rp fr ev ct ti mo da we pk M N C A) (zfault ah Z) := fun wx hbx => by
  have hbw : Below w.heap.size w wx := hb0.trans (hbx.mono hb0.size)
  exact rready_any nm tx st ln rp fr ev ct ti _ _ _ _ _ _ _ _ mo da we pk M N C A ah _ Z wx (hR.below hbw) (hZ.below hbw) hnm htx hcl hsm

/-- the reference's Between at any later world. -/
def RbtG (w0 : World) (zv ev : Value) (F ZF ah ln : Int) (Z : List (Int × Int)) (T M N : List Int) (C : List (Int × Int)) : Prop :=
  F = 0 → ZF = 0 → ∀ (lo hi : Int) (wx : World), (-1000000000 ≤ lo ∧ lo ≤ 1000000000) → (-1000000000 ≤ hi ∧ hi ≤ 1000000000) → Below w0.heap.size w0 wx → Calls Tryz.prog 31 #[zv, ev, .int .i64 lo, .int .i64 hi] wx (fun e w' => ∃ u, e = .returned u ∧ TmsR ln w' u (tmsOf ah Z T M N C ln lo hi) ∧ Below wx.heap.size wx w')

theorem rbtG_mk (nm tx : List UInt8) (st ln : Int) (rp : Bool) (fr ev ct ti : Int) (vm vd vw vp vM vN vC vA : Value) (mo da : List Int) (we : List (Int × Int)) (pk M N : List Int) (C : List (Int × Int)) (A : List Alm) (ah : Int) (vZ : Value) (Z : List (Int × Int)) (w w0 : World) (hb0 : Below w.heap.size w w0)
    (hR : EvR w vm vd vw vp vM vN vC vA mo da we pk M N C A) (hZ : PairsR w vZ Z) :
    RbtG w0 (.agg #[.int .i64 ah, vZ]) (.agg #[.string (bs nm), .string (bs tx), .int .i64 st, .int .i64 ln, .bool rp, .int .i64 fr, .int .i64 ev, .int .i64 ct, .int .i64 ti, vm, vd, vw, vp, vM, vN, vC, vA]) (evF nm tx st ln rp fr ev ct ti mo da we pk M N C A) (zfault ah Z) ah ln Z (ruleT rp st fr ev ct ti mo da we pk) M N C := fun hF hz lo hi wx h1 h2 hbx => by
  have hbw : Below w.heap.size w wx := hb0.trans (hbx.mono hb0.size)
  exact rbet_any (bs nm) (bs tx) st ln rp fr ev ct ti _ _ _ _ _ _ _ _ mo da we pk M N C A ah _ Z lo hi wx (hR.below hbw) (evF_facts hF) (hZ.below hbw) hz h1 h2

end Go.Proofs.YtkpmddlinlcobaaGreatDoor

namespace Go.Proofs.YtkpmddlinlcobaaGreatDoor
open Go.RowKit Go.Shelf
set_option linter.unusedSimpArgs false
set_option linter.unusedVariables false

theorem nextE_form (F ZF a : Int) (L : List (Int × Int)) (E1 : Int) (h : E1 = if readyE F ZF = 0 ∧ timeB a = false then 1 else readyE F ZF) : (E1 ≠ 0 → nextE F ZF a L = E1) ∧ (E1 = 0 → F = 0 ∧ ZF = 0 ∧ timeB a = true ∧ nextE F ZF a L = if L = [] then 5 else 0) := by
  subst h
  unfold nextE
  by_cases h0 : readyE F ZF = 0
  · obtain ⟨h1, h2⟩ := ready_ok h0
    cases ht : timeB a
    · simp [h0]
    · subst h1; subst h2
      simp [show readyE 0 0 = 0 from rfl]
  · simp [h0]

theorem nextT_zero {ln E : Int} {L : List (Int × Int)} {t1 t2 t3 : Int} (h : E ≠ 0) (hf : nextT ln E L = .agg #[.int .i64 t1, .int .i64 t2, .int .i64 t3]) : t1 = 0 ∧ t2 = 0 ∧ t3 = 0 := by
  rw [nextT_no h] at hf
  injection hf with h1
  have h2 := congrArg Array.toList h1
  simp at h2
  exact ⟨h2.1.symm, h2.2.1.symm, h2.2.2.symm⟩

theorem tmsR_nil (ln : Int) (w : World) : TmsR ln w (.slice none 0 0) [] := reads_nil w 3

set_option maxRecDepth 100000 in
set_option maxHeartbeats 16000000 in
theorem timesTells_any (ah : Int) (vZ : Value) (Z : List (Int × Int)) (nm tx : List UInt8) (st ln : Int) (rp : Bool) (fr ev ct ti : Int) (vm vd vw vp vM vN vC vA : Value) (mo da : List Int) (we : List (Int × Int)) (pk M N : List Int) (C : List (Int × Int)) (A : List Alm) (a b : Int) (w : World) (hw : Months w) (hE : ErrT w) (hZ : PairsR w vZ Z)
    (hR : EvR w vm vd vw vp vM vN vC vA mo da we pk M N C A) (hnm : nm.length ≤ 140737488351232) (htx : tx.length ≤ 140737488351232) (hcl : C.length ≤ 8796093022208) (hsm : mo.length ≤ 70368744177664 ∧ da.length ≤ 70368744177664 ∧ we.length ≤ 70368744177664 ∧ pk.length ≤ 70368744177664) :
    Calls Tryz.prog 6 #[.agg #[.int .i64 ah, vZ], .agg #[.string (bs nm), .string (bs tx), .int .i64 st, .int .i64 ln, .bool rp, .int .i64 fr, .int .i64 ev, .int .i64 ct, .int .i64 ti, vm, vd, vw, vp, vM, vN, vC, vA], .int .i64 a, .int .i64 b] w fun e w' => e = .returned (.bool true) ∧ Below w.heap.size w w' := by
  have hR0 := hR
  obtain ⟨h1, h2, h3, h4, hM, hN, hC, hA⟩ := hR
  obtain ⟨am, km, rfl, -, -, -⟩ := intsR_open h1
  obtain ⟨ad, kd, rfl, -, -, -⟩ := intsR_open h2
  obtain ⟨aw, kw, rfl, -, -, -⟩ := pairsR_open h3
  obtain ⟨ap, kp, rfl, -, -, -⟩ := intsR_open h4
  obtain ⟨aM, kM, rfl, -, -, -⟩ := intsR_open hM
  obtain ⟨aN, kN, rfl, -, -, -⟩ := intsR_open hN
  obtain ⟨aC, kC, rfl, -, kC2, hds⟩ := pairsR_open hC
  obtain ⟨aA, kA, rfl, -, -, -⟩ := almsR_open hA
  unfold maxLen at kC2
  obtain ⟨aZ, kZ, rfl, -, -, -⟩ := pairsR_open hZ
  obtain ⟨snm, hsnm⟩ : ∃ s, s = bs nm := ⟨_, rfl⟩
  obtain ⟨stx, hstx⟩ : ∃ s, s = bs tx := ⟨_, rfl⟩
  obtain ⟨eb, heb⟩ : ∃ x, x = w.heap.size := ⟨_, rfl⟩
  obtain ⟨wz, hwz⟩ : ∃ x, x = w.alloc (.cells #[.int .i64 ah, .slice aZ Z.length kZ] 56) := ⟨_, rfl⟩
  have hbz : Below w.heap.size w wz := by rw [hwz]; exact (Below.refl _ _).alloc (Nat.le_refl _) _
  have hsz : wz.heap.size = eb + 1 := by rw [hwz, heb]; simp
  have z0 : wz.cell? ⟨eb, 0, none⟩ = some (.int .i64 ah) := by rw [hwz, heb]; simp
  have z1 : wz.cell? ⟨eb, 1, none⟩ = some (.slice aZ Z.length kZ) := by rw [hwz, heb]; simp
  obtain ⟨w0, hw0⟩ : ∃ x, x = wz.alloc (.cells #[.string snm, .string stx, .int .i64 st, .int .i64 ln, .bool rp, .int .i64 fr, .int .i64 ev, .int .i64 ct, .int .i64 ti, .slice am mo.length km, .slice ad da.length kd, .slice aw we.length kw, .slice ap pk.length kp, .slice aM M.length kM, .slice aN N.length kN, .slice aC C.length kC, .slice aA A.length kA] 29) := ⟨_, rfl⟩
  have hb0 : Below wz.heap.size wz w0 := by rw [hw0]; exact (Below.refl _ _).alloc (Nat.le_refl _) _
  have ec := hw0 ▸ evC_new wz 29 snm stx st ln rp fr ev ct ti (.slice am mo.length km) (.slice ad da.length kd) (.slice aw we.length kw) (.slice ap pk.length kp) (.slice aM M.length kM) (.slice aN N.length kN) (.slice aC C.length kC) (.slice aA A.length kA)
  rw [hsz] at ec
  have z0 := cell_below hb0 z0; have z1 := cell_below hb0 z1
  have hbw : Below w.heap.size w w0 := hbz.trans (hb0.mono hbz.size)
  obtain ⟨F, hF⟩ : ∃ F, F = (evF nm tx st ln rp fr ev ct ti mo da we pk M N C A) := ⟨_, rfl⟩
  obtain ⟨ZF, hZF⟩ : ∃ F, F = zfault ah Z := ⟨_, rfl⟩
  obtain ⟨T, hT⟩ : ∃ T, T = ruleT rp st fr ev ct ti mo da we pk := ⟨_, rfl⟩
  have BF := Lib.hid (show BetG w0 (.agg #[.int .i64 ah, .slice aZ Z.length kZ]) (.agg #[.string snm, .string stx, .int .i64 st, .int .i64 ln, .bool rp, .int .i64 fr, .int .i64 ev, .int .i64 ct, .int .i64 ti, .slice am mo.length km, .slice ad da.length kd, .slice aw we.length kw, .slice ap pk.length kp, .slice aM M.length kM, .slice aN N.length kN, .slice aC C.length kC, .slice aA A.length kA]) F ZF ah ln Z T M N C by rw [hF, hZF, hT, hsnm, hstx]; exact betG_mk nm tx st ln rp fr ev ct ti _ _ _ _ _ _ _ _ mo da we pk M N C A ah _ Z w w0 hbw hw hR0 hZ hnm htx hcl)
  have NF := Lib.hid (show NextG w0 (.agg #[.int .i64 ah, .slice aZ Z.length kZ]) (.agg #[.string snm, .string stx, .int .i64 st, .int .i64 ln, .bool rp, .int .i64 fr, .int .i64 ev, .int .i64 ct, .int .i64 ti, .slice am mo.length km, .slice ad da.length kd, .slice aw we.length kw, .slice ap pk.length kp, .slice aM M.length kM, .slice aN N.length kN, .slice aC C.length kC, .slice aA A.length kA]) F ZF ah ln Z T M N C by rw [hF, hZF, hT, hsnm, hstx]; exact nextG_mk nm tx st ln rp fr ev ct ti _ _ _ _ _ _ _ _ mo da we pk M N C A ah _ Z w w0 hbw hw hR0 hZ hnm htx hcl)
  have YF := Lib.hid (show RdyG w0 (.agg #[.int .i64 ah, .slice aZ Z.length kZ]) (.agg #[.string snm, .string stx, .int .i64 st, .int .i64 ln, .bool rp, .int .i64 fr, .int .i64 ev, .int .i64 ct, .int .i64 ti, .slice am mo.length km, .slice ad da.length kd, .slice aw we.length kw, .slice ap pk.length kp, .slice aM M.length kM, .slice aN N.length kN, .slice aC C.length kC, .slice aA A.length kA]) F ZF by rw [hF, hZF, hsnm, hstx]; exact rdyG_mk nm tx st ln rp fr ev ct ti _ _ _ _ _ _ _ _ mo da we pk M N C A ah _ Z w w0 hbw hR0 hZ hnm htx hcl hsm)
  have RF := Lib.hid (show RbtG w0 (.agg #[.int .i64 ah, .slice aZ Z.length kZ]) (.agg #[.string snm, .string stx, .int .i64 st, .int .i64 ln, .bool rp, .int .i64 fr, .int .i64 ev, .int .i64 ct, .int .i64 ti, .slice am mo.length km, .slice ad da.length kd, .slice aw we.length kw, .slice ap pk.length kp, .slice aM M.length kM, .slice aN N.length kN, .slice aC C.length kC, .slice aA A.length kA]) F ZF ah ln Z T M N C by rw [hF, hZF, hT, hsnm, hstx]; exact rbtG_mk nm tx st ln rp fr ev ct ti _ _ _ _ _ _ _ _ mo da we pk M N C A ah _ Z w w0 hbw hR0 hZ)
  have ERT := Lib.hid (hE.below hbw)
  have EC := Lib.hid ec; have BW := Lib.hid hbw; have WZ := Lib.hid hwz; have W0 := Lib.hid hw0; have EB := Lib.hid heb
  have Z0 := Lib.hid z0; have Z1 := Lib.hid z1
  rw [← hsnm, ← hstx]
  clear hR0 h1 h2 h3 h4 hM hN hC hA hw hE hZ hwz hbz hsz hw0 hb0 ec hbw heb hds hF hZF hT hsnm hstx hnm htx hcl hsm z0 z1
  go_enter Tryz.func6, Tryz.ntmps6
  go_upto_region 1 with fail
  rw [← WZ.out, ← W0.out]
  rw [← EB.out]
  obtain ⟨E0, hE0⟩ : ∃ E, E = readyE F ZF := ⟨_, rfl⟩
  have YC := Lib.hid (show Calls Tryz.prog 30 _ w0 (fun e w' => e = .returned (.int .i64 E0) ∧ Below w0.heap.size w0 w') by have h := YF.out w0 (Below.refl _ _); rw [← hE0] at h; exact h)
  have E0E := Lib.hid hE0
  clear hE0 YF
  have z0 := Z0.out; have z1 := Z1.out
  have k0 := EC.out.k0; have k1 := EC.out.k1; have k2 := EC.out.k2; have k3 := EC.out.k3; have k4 := EC.out.k4; have k5 := EC.out.k5; have k6 := EC.out.k6; have k7 := EC.out.k7; have k8 := EC.out.k8; have k9 := EC.out.k9; have k10 := EC.out.k10; have k11 := EC.out.k11; have k12 := EC.out.k12; have k13 := EC.out.k13; have k14 := EC.out.k14; have k15 := EC.out.k15; have k16 := EC.out.k16
  go_cut [9] (fun s9 wx => s9 = .int .i64 E0 ∧ Below w0.heap.size w0 wx)
  case first => as_aux_lemma =>
    go_wp2_with fail
    refine YC.out.mono ?_; rintro e w1 ⟨rfl, hb1⟩
    have H1 := Lib.hid hb1
    clear hb1 z0 z1 k0 k1 k2 k3 k4 k5 k6 k7 k8 k9 k10 k11 k12 k13 k14 k15 k16
    go_wp2
    go_meet
    exact ⟨rfl, H1.out⟩
  case rest =>
  obtain ⟨rfl, hb1⟩ := hcut
  obtain ⟨w1, rfl⟩ : ∃ x, x = wc := ⟨_, rfl⟩
  have B1 := Lib.hid hb1
  have E1 := Lib.hid (EC.out.below B1.out)
  clear hb1 YC z0 z1 k0 k1 k2 k3 k4 k5 k6 k7 k8 k9 k10 k11 k12 k13 k14 k15 k16
  obtain ⟨R, hR⟩ : ∃ R, R = tmsOf ah Z T M N C ln a b := ⟨_, rfl⟩
  obtain ⟨S, hS⟩ : ∃ S, S = spanE a b := ⟨_, rfl⟩
  obtain ⟨X, hX⟩ : ∃ X, X = fullN (betE F ZF a b) R.length := ⟨_, rfl⟩
  have LA := Lib.hid (show ∀ wx, Below w0.heap.size w0 wx → Calls Tryz.prog 28 _ wx (BetP ln X R wx) from fun wx hbx => by have h := BF.out a b wx hbx; rw [← hR, ← hX] at h; exact h)
  obtain ⟨G, hG⟩ : ∃ G, G = if E0 ≠ 0 then E0 else S := ⟨_, rfl⟩
  have LR := Lib.hid (show G = 0 → ∀ wx, Below w0.heap.size w0 wx → Calls Tryz.prog 31 #[.agg #[.int .i64 ah, .slice aZ Z.length kZ], .agg #[.string snm, .string stx, .int .i64 st, .int .i64 ln, .bool rp, .int .i64 fr, .int .i64 ev, .int .i64 ct, .int .i64 ti, .slice am mo.length km, .slice ad da.length kd, .slice aw we.length kw, .slice ap pk.length kp, .slice aM M.length kM, .slice aN N.length kN, .slice aC C.length kC, .slice aA A.length kA], .int .i64 a, .int .i64 b] wx (fun e w' => ∃ u, e = .returned u ∧ TmsR ln w' u R ∧ Below wx.heap.size wx w') from fun g0 wx hbx => by
    have e0 : E0 = 0 := by
      by_cases h : E0 = 0
      · exact h
      · rw [hG, if_pos h] at g0; exact g0
    have s0 : S = 0 := by rw [hG, if_neg (by omega)] at g0; exact g0
    obtain ⟨f0, f1⟩ := ready_ok (E0E.out.symm.trans e0)
    rw [hS] at s0
    obtain ⟨t1, t2, t3, t4⟩ := spanE_0 s0
    have := timeB_yes t1; have := timeB_yes t2
    have h := RF.out f0 f1 a b wx (by omega) (by omega) hbx
    rw [← hR] at h; exact h)
  have RS := Lib.hid (show ∀ wx, Calls Tryz.prog 19 #[.int .i64 a, .int .i64 b] wx (fun e w' => e = .returned (.int .i64 S) ∧ wx = w') from fun wx => by rw [hS]; exact rstretch_any a b wx)
  have XE := Lib.hid (show X = fullN G R.length by rw [hX, betE, ← E0E.out, ← hS, hG])
  have GE := Lib.hid hG
  clear hR hS hX BF hG
  go_upto_if 26 with fail
  go_cut [10] (fun s10 wx => s10 = .int .i64 G ∧ w1 = wx)
  case first => as_aux_lemma =>
    by_cases h0 : E0 = 0
    · have d0 : (E0 == 0) = true := by simpa using h0
      have e : G = S := by rw [GE.out, if_neg (by omega)]
      subst e
      clear h0 LR LA XE
      go_wp2_with (go_at_call 19; refine (RS.out _).mono ?_; rintro e w' ⟨rfl, rfl⟩)
      go_meet
      exact ⟨rfl, rfl⟩
    · have d0 : (E0 == 0) = false := by simpa using h0
      have e : G = E0 := by rw [GE.out, if_pos h0]
      subst e
      clear h0 LR LA XE
      go_wp2
      go_meet
      exact ⟨rfl, rfl⟩
  case rest =>
  obtain ⟨rfl, rfl⟩ := hcut
  go_upto_if 31 with fail
  go_cut [10, 11] (fun s10 s11 wx => s10 = .int .i64 X ∧ (∃ u, s11 = u ∧ TmsR ln wx u (if X = 0 then R else [])) ∧ Below w1.heap.size w1 wx)
  case first => as_aux_lemma =>
    by_cases g0 : G = 0
    case neg =>
      have d0 : (G == 0) = false := by simpa using g0
      have XX : X = G := by rw [XE.out, fullN, if_neg (by omega)]
      subst XX
      have TN := Lib.hid (show TmsR ln w1 (.slice none 0 0) (if X = 0 then R else []) by rw [if_neg g0]; exact tmsR_nil _ _)
      clear g0 XE
      go_wp2
      go_meet
      exact ⟨rfl, ⟨_, rfl, TN.out⟩, Below.refl _ _⟩
    subst g0
    have RJ := Lib.hid (LR.out rfl w1 B1.out)
    have z0 := cell_below B1.out Z0.out; have z1 := cell_below B1.out Z1.out
    have k0 := E1.out.k0; have k1 := E1.out.k1; have k2 := E1.out.k2; have k3 := E1.out.k3; have k4 := E1.out.k4; have k5 := E1.out.k5; have k6 := E1.out.k6; have k7 := E1.out.k7; have k8 := E1.out.k8; have k9 := E1.out.k9; have k10 := E1.out.k10; have k11 := E1.out.k11; have k12 := E1.out.k12; have k13 := E1.out.k13; have k14 := E1.out.k14; have k15 := E1.out.k15; have k16 := E1.out.k16
    obtain ⟨n, hn⟩ : ∃ n, n = R.length := ⟨_, rfl⟩
    have XN := Lib.hid (show X = if 200 < n then 4 else 0 by rw [XE.out, fullN, ← hn]; simp)
    have NR := Lib.hid hn
    clear LR LA XE hn
    go_wp2_with fail
    refine RJ.out.mono ?_; rintro e w2 ⟨u, rfl, hu, hb2⟩
    obtain ⟨ua, uc, rfl, -, u2, -⟩ := tmsR_open hu
    unfold maxLen at u2
    have HU := Lib.hid hu; have HB := Lib.hid hb2
    rw [← NR.out]
    clear hb2 hu z0 z1 k0 k1 k2 k3 k4 k5 k6 k7 k8 k9 k10 k11 k12 k13 k14 k15 k16
    by_cases n2 : 200 < n
    · have d2 : decide ((200 : Int) < (n : Int)) = true := decide_eq_true (by omega)
      have d2b : decide (200 < n) = true := decide_eq_true n2
      have XX : X = 4 := by rw [XN.out, if_pos n2]
      subst XX
      have TN := Lib.hid (show TmsR ln w2 (.slice none 0 0) (if (4 : Int) = 0 then R else []) by rw [if_neg (by decide)]; exact tmsR_nil _ _)
      clear n2
      go_wp2
      go_meet
      exact ⟨rfl, ⟨_, rfl, TN.out⟩, HB.out⟩
    · have d2 : decide ((200 : Int) < (n : Int)) = false := decide_eq_false (by omega)
      have d2b : decide (200 < n) = false := decide_eq_false n2
      have XX : X = 0 := by rw [XN.out, if_neg n2]
      subst XX
      have TN := Lib.hid (show TmsR ln w2 (.slice ua n uc) (if (0 : Int) = 0 then R else []) by rw [if_pos rfl, NR.out]; exact HU.out)
      clear n2
      go_wp2
      go_meet
      exact ⟨rfl, ⟨_, rfl, TN.out⟩, HB.out⟩
  case rest =>
  obtain ⟨rfl, ⟨u, rfl, hu⟩, hb2⟩ := hcut
  obtain ⟨w2, rfl⟩ : ∃ x, x = wc := ⟨_, rfl⟩
  have B2 := Lib.hid (B1.out.trans (hb2.mono B1.out.size))
  have U2 := Lib.hid hu
  have E2 := Lib.hid (EC.out.below B2.out)
  have L2 := Lib.hid (LA.out w2 B2.out)
  clear hb2 hu LR RS LA E1 XE
  have z0 := cell_below B2.out Z0.out; have z1 := cell_below B2.out Z1.out
  have k0 := E2.out.k0; have k1 := E2.out.k1; have k2 := E2.out.k2; have k3 := E2.out.k3; have k4 := E2.out.k4; have k5 := E2.out.k5; have k6 := E2.out.k6; have k7 := E2.out.k7; have k8 := E2.out.k8; have k9 := E2.out.k9; have k10 := E2.out.k10; have k11 := E2.out.k11; have k12 := E2.out.k12; have k13 := E2.out.k13; have k14 := E2.out.k14; have k15 := E2.out.k15; have k16 := E2.out.k16
  go_upto_region 11 with fail
  go_cut [12, 13] (fun s12 s13 wx => ∃ v, s12 = v ∧ s13 = errV X ∧ OwnT ln w2.heap.size wx v (if X = 0 then R else []) ∧ Below w2.heap.size w2 wx)
  case first => as_aux_lemma =>
    go_wp2_with fail
    refine L2.out.mono ?_; rintro e w3 ⟨v, rfl, hv, hb⟩
    have HV := Lib.hid hv; have HB := Lib.hid hb
    clear hv hb z0 z1 k0 k1 k2 k3 k4 k5 k6 k7 k8 k9 k10 k11 k12 k13 k14 k15 k16
    go_wp2
    go_meet
    exact ⟨_, rfl, rfl, HV.out, HB.out⟩
  case rest =>
  obtain ⟨v, rfl, rfl, hv, hb3⟩ := hcut
  obtain ⟨w3, rfl⟩ : ∃ x, x = wc := ⟨_, rfl⟩
  have B3 := Lib.hid (B2.out.trans (hb3.mono B2.out.size))
  have U3 := Lib.hid (U2.out.below hb3)
  have V3 := Lib.hid (OwnT.tms hv)
  have ES := Lib.hid (error_same X w3 (ERT.out.below B3.out))
  clear hb3 hv z0 z1 k0 k1 k2 k3 k4 k5 k6 k7 k8 k9 k10 k11 k12 k13 k14 k15 k16 E2 L2 U2
  go_upto_region 12 with fail
  go_cut [14] (fun s14 wx => s14 = .bool true ∧ Below w3.heap.size w3 wx)
  case first => as_aux_lemma =>
    go_wp2_with fail
    refine ES.out.mono ?_; rintro e w4 ⟨rfl, hb⟩
    have HB := Lib.hid hb
    clear hb
    go_wp2
    go_meet
    exact ⟨rfl, HB.out⟩
  case rest =>
  obtain ⟨rfl, hb4⟩ := hcut
  obtain ⟨w4, rfl⟩ : ∃ x, x = wc := ⟨_, rfl⟩
  have B4 := Lib.hid (B3.out.trans (hb4.mono B3.out.size))
  have TS := Lib.hid (times_same ln _ _ _ w4 (V3.out.below hb4) (U3.out.below hb4))
  clear hb4 ES V3 U3
  go_upto_region 13 with fail
  go_cut [15] (fun s15 wx => s15 = .bool true ∧ Below w4.heap.size w4 wx)
  case first => as_aux_lemma =>
    go_wp2_with fail
    refine TS.out.mono ?_; rintro e w5 ⟨rfl, hb⟩
    have HB := Lib.hid hb
    clear hb
    go_wp2
    go_meet
    exact ⟨rfl, HB.out⟩
  case rest =>
  obtain ⟨rfl, hb5⟩ := hcut
  obtain ⟨w5, rfl⟩ : ∃ x, x = wc := ⟨_, rfl⟩
  have B5 := Lib.hid (B4.out.trans (hb5.mono B4.out.size))
  clear hb5 TS
  obtain ⟨ta, hta⟩ : ∃ t, t = timeB a := ⟨_, rfl⟩
  have RA := Lib.hid (show ∀ wx, Calls Tryz.prog 32 #[.int .i64 a] wx (fun e w' => e = .returned (.bool ta) ∧ wx = w') from fun wx => by rw [hta]; exact rtime_any a wx)
  obtain ⟨L, hL⟩ : ∃ L, L = tmsOf ah Z T M N C ln (a + 1) (a + 500000 + 1) := ⟨_, rfl⟩
  obtain ⟨NE, hNE⟩ : ∃ E, E = nextE F ZF a L := ⟨_, rfl⟩
  have NC := Lib.hid (show ∀ wx, Below w0.heap.size w0 wx → Calls Tryz.prog 27 #[.agg #[.int .i64 ah, .slice aZ Z.length kZ], .agg #[.string snm, .string stx, .int .i64 st, .int .i64 ln, .bool rp, .int .i64 fr, .int .i64 ev, .int .i64 ct, .int .i64 ti, .slice am mo.length km, .slice ad da.length kd, .slice aw we.length kw, .slice ap pk.length kp, .slice aM M.length kM, .slice aN N.length kN, .slice aC C.length kC, .slice aA A.length kA], .int .i64 a] wx (fun e w' => e = .returned (.tuple #[nextT ln NE L, errV NE]) ∧ Below wx.heap.size wx w') from fun wx hbx => by have h := NF.out a wx hbx; rw [← hL, ← hNE] at h; exact h)
  obtain ⟨t1v, t2v, t3v, hform, hval⟩ := nextT_form ln NE L
  rw [hform] at NC
  have NZ := Lib.hid (show NE ≠ 0 → t1v = 0 ∧ t2v = 0 ∧ t3v = 0 from fun h => nextT_zero h hform)
  have NV := Lib.hid hval
  obtain ⟨E1, hE1⟩ : ∃ E, E = if E0 = 0 ∧ ta = false then (1 : Int) else E0 := ⟨_, rfl⟩
  have NF1 := Lib.hid (show (E1 ≠ 0 → NE = E1) ∧ (E1 = 0 → F = 0 ∧ ZF = 0 ∧ timeB a = true ∧ NE = if L = [] then 5 else 0) by rw [hNE]; exact nextE_form F ZF a L E1 (by rw [hE1, E0E.out, hta]))
  have RJ := Lib.hid (show E1 = 0 → ∀ wx, Below w0.heap.size w0 wx → Calls Tryz.prog 31 #[.agg #[.int .i64 ah, .slice aZ Z.length kZ], .agg #[.string snm, .string stx, .int .i64 st, .int .i64 ln, .bool rp, .int .i64 fr, .int .i64 ev, .int .i64 ct, .int .i64 ti, .slice am mo.length km, .slice ad da.length kd, .slice aw we.length kw, .slice ap pk.length kp, .slice aM M.length kM, .slice aN N.length kN, .slice aC C.length kC, .slice aA A.length kA], .int .i64 (a + 1), .int .i64 (a + 500001)] wx (fun e w' => ∃ u, e = .returned u ∧ TmsR ln w' u L ∧ Below wx.heap.size wx w') from fun h wx hbx => by
    obtain ⟨f0, f1, f2, -⟩ := NF1.out.2 h
    have := timeB_yes f2
    have h := RF.out f0 f1 (a + 1) (a + 500001) wx (by omega) (by omega) hbx
    rw [hL, show a + 500000 + 1 = a + 500001 by omega]; exact h)
  have EE := Lib.hid hE1
  clear hta hL hNE hform hval NF RF hE1
  go_upto_region 14 with fail
  go_cut [16] (fun s16 wx => s16 = .bool ta ∧ w5 = wx)
  case first => as_aux_lemma =>
    go_wp2_with (go_at_call 32; refine (RA.out _).mono ?_; rintro e w' ⟨rfl, rfl⟩)
    go_meet
    exact ⟨rfl, rfl⟩
  case rest =>
  obtain ⟨rfl, rfl⟩ := hcut
  go_upto_region 15 with fail
  go_cut [61] (fun s61 wx => s61 = .bool (decide (E0 = 0) && !ta) ∧ w5 = wx)
  case first => as_aux_lemma =>
    by_cases h0 : E0 = 0
    · have d0 : (E0 == 0) = true := by simpa using h0
      have H0 := Lib.hid h0
      clear h0
      cases ta <;> (go_wp2; go_meet; exact ⟨by simp [H0.out], rfl⟩)
    · have d0 : (E0 == 0) = false := by simpa using h0
      have H0 := Lib.hid h0
      clear h0
      cases ta <;> (go_wp2; go_meet; exact ⟨by simp [H0.out], rfl⟩)
  case rest =>
  obtain ⟨rfl, rfl⟩ := hcut
  go_upto_if 61 with fail
  go_cut [9] (fun s9 wx => s9 = .int .i64 E1 ∧ w5 = wx)
  case first => as_aux_lemma =>
    by_cases h0 : E0 = 0 ∧ ta = false
    · have d0 : (decide (E0 = 0) && !ta) = true := by simp [h0.1, h0.2]
      have e : E1 = 1 := by rw [EE.out, if_pos h0]
      subst e
      rw [d0]
      clear h0 d0 NC RJ NF1
      go_wp2
      go_meet
      exact ⟨rfl, rfl⟩
    · have d0 : (decide (E0 = 0) && !ta) = false := by
        by_cases h1 : E0 = 0
        · cases ta
          · exact absurd ⟨h1, rfl⟩ h0
          · simp
        · simp [h1]
      have e : E1 = E0 := by rw [EE.out, if_neg h0]
      subst e
      rw [d0]
      clear h0 d0 NC RJ NF1
      go_wp2
      go_meet
      exact ⟨rfl, rfl⟩
  case rest =>
  obtain ⟨rfl, rfl⟩ := hcut
  obtain ⟨w6, hw6⟩ : ∃ x, x = w5.alloc (.cells #[.int .i64 0, .int .i64 0, .int .i64 0] 51) := ⟨_, rfl⟩
  obtain ⟨nb, hnb⟩ : ∃ x, x = w5.heap.size := ⟨_, rfl⟩
  have BX := Lib.hid (show BoxT w6 nb 0 0 0 by rw [hw6, hnb]; exact block_new w5 _)
  have HB6 := Lib.hid (show Below w5.heap.size w5 w6 by rw [hw6]; exact (Below.refl _ _).alloc (Nat.le_refl _) _)
  have B6 := Lib.hid (B5.out.trans (HB6.out.mono B5.out.size))
  have W6 := Lib.hid hw6; have NB := Lib.hid hnb
  clear hw6 hnb
  go_upto_if 63 with fail
  rw [← W6.out, ← NB.out]
  go_cut [9] (fun s9 wx => s9 = .int .i64 NE ∧ BoxT wx nb t1v t2v t3v ∧ Below w5.heap.size w5 wx)
  case first => as_aux_lemma =>
    by_cases h1 : E1 = 0
    case neg =>
      have d0 : (E1 == 0) = false := by simpa using h1
      have e := NF1.out.1 h1
      obtain ⟨rfl, rfl, rfl⟩ := NZ.out (by rw [e]; exact h1)
      subst e
      clear h1 NC RJ NF1
      go_wp2
      go_meet
      exact ⟨rfl, BX.out, HB6.out⟩
    have d0 : (E1 == 0) = true := by simpa using h1
    obtain ⟨-, -, f2, f3⟩ := NF1.out.2 h1
    have ab := timeB_yes f2
    have RK := Lib.hid (RJ.out h1 w6 B6.out)
    have F3 := Lib.hid f3
    have wa : IntKind.i64.wrap (a + 1) = a + 1 := IntWalk.i64_in _ (by omega)
    have wb : IntKind.i64.wrap (a + 500001) = a + 500001 := IntWalk.i64_in _ (by omega)
    have E6 := Lib.hid (EC.out.below B6.out)
    have z0 := cell_below B6.out Z0.out; have z1 := cell_below B6.out Z1.out
    have k0 := E6.out.k0; have k1 := E6.out.k1; have k2 := E6.out.k2; have k3 := E6.out.k3; have k4 := E6.out.k4; have k5 := E6.out.k5; have k6 := E6.out.k6; have k7 := E6.out.k7; have k8 := E6.out.k8; have k9 := E6.out.k9; have k10 := E6.out.k10; have k11 := E6.out.k11; have k12 := E6.out.k12; have k13 := E6.out.k13; have k14 := E6.out.k14; have k15 := E6.out.k15; have k16 := E6.out.k16
    have H1 := Lib.hid h1
    clear h1 NC RJ NF1 f2 f3 ab
    go_wp2_with fail
    refine RK.out.mono ?_; rintro e w7 ⟨u, rfl, hu, hb7⟩
    obtain ⟨ua, uc, rfl, -, u2, hus⟩ := tmsR_open hu
    unfold maxLen at u2
    have HB := Lib.hid (HB6.out.trans (hb7.mono HB6.out.size))
    have X7 := Lib.hid (BX.out.below hb7)
    clear hu hb7 z0 z1 wa wb k0 k1 k2 k3 k4 k5 k6 k7 k8 k9 k10 k11 k12 k13 k14 k15 k16
    cases L with
    | nil =>
      have e : NE = 5 := by rw [F3.out, if_pos rfl]
      obtain ⟨rfl, rfl, rfl⟩ := NZ.out (by omega)
      subst e
      clear hus
      go_wp2
      go_meet
      exact ⟨rfl, X7.out, HB.out⟩
    | cons x r =>
      have e : NE = 0 := by rw [F3.out, if_neg (by simp)]
      obtain ⟨v1, v2, v3⟩ := NV.out x r e rfl
      obtain ⟨ub, uo, rfl, hc⟩ := hus (by simp)
      obtain ⟨c0, c1, c2⟩ := hc 0 (by simp)
      simp only [Nat.zero_mul, Nat.add_zero, List.getElem_cons_zero] at c0 c1 c2
      rw [← v1] at c0
      rw [← v2] at c1
      rw [← v3] at c2
      subst e
      have TH := Lib.hid (one_there X7.out)
      have XN := Lib.hid (BoxT.made (x := t1v) (y := t2v) (z := t3v) X7.out)
      have BN := Lib.hid (set3_below (o := 0) (u := .int .i64 t1v) (v := .int .i64 t2v) (x := .int .i64 t3v) HB.out (Nat.le_of_eq NB.out.symm))
      obtain ⟨n, hn⟩ : ∃ n, n = (x :: r).length := ⟨_, rfl⟩
      have n0 : 0 < n := by rw [hn]; simp
      rw [← hn]
      have d1 : ((n : Int) == 0) = false := by rw [beq_eq_false_iff_ne]; omega
      have d3 : (0 : Int) < (n : Int) := by omega
      clear hus hc hn v1 v2 v3
      go_wp2_with (refine wpList_store_mid rfl 51 _ _ rfl nb 0 #[.int .i64 t1v, .int .i64 t2v, .int .i64 t3v] rfl rfl TH.out (by kernel_rfl) (by simp [Value.oneCell']) ?_)
      go_meet
      exact ⟨by rw [H1.out], XN.out, BN.out⟩
  case rest =>
  obtain ⟨rfl, hx7, hb7⟩ := hcut
  obtain ⟨w7, rfl⟩ : ∃ x, x = wc := ⟨_, rfl⟩
  have B7 := Lib.hid (B5.out.trans (hb7.mono B5.out.size))
  have X7 := Lib.hid hx7
  have NK := Lib.hid (NC.out w7 B7.out)
  have E7 := Lib.hid (EC.out.below B7.out)
  clear hb7 hx7 NC RJ NF1 NZ NV BX HB6 B6 W6
  have z0 := cell_below B7.out Z0.out; have z1 := cell_below B7.out Z1.out
  have k0 := E7.out.k0; have k1 := E7.out.k1; have k2 := E7.out.k2; have k3 := E7.out.k3; have k4 := E7.out.k4; have k5 := E7.out.k5; have k6 := E7.out.k6; have k7 := E7.out.k7; have k8 := E7.out.k8; have k9 := E7.out.k9; have k10 := E7.out.k10; have k11 := E7.out.k11; have k12 := E7.out.k12; have k13 := E7.out.k13; have k14 := E7.out.k14; have k15 := E7.out.k15; have k16 := E7.out.k16
  go_upto_region 23 with fail
  go_cut [13, 19] (fun s13 s19 wx => s13 = errV NE ∧ (∃ xb, s19 = .pointer (some ⟨xb, 0, none⟩) ∧ BoxT wx xb t1v t2v t3v) ∧ Below w7.heap.size w7 wx)
  case first => as_aux_lemma =>
    go_wp2_with fail
    refine NK.out.mono ?_; rintro e w8 ⟨rfl, hb⟩
    have HB := Lib.hid hb
    have hnw := block_new w8 (.cells #[.int .i64 t1v, .int .i64 t2v, .int .i64 t3v] 51)
    have HN := Lib.hid hnw
    clear hb z0 z1 hnw k0 k1 k2 k3 k4 k5 k6 k7 k8 k9 k10 k11 k12 k13 k14 k15 k16
    go_wp2
    go_meet
    exact ⟨rfl, ⟨_, rfl, HN.out⟩, HB.out.alloc HB.out.size _⟩
  case rest =>
  obtain ⟨rfl, ⟨xb, rfl, hx8⟩, hb8⟩ := hcut
  obtain ⟨w8, rfl⟩ : ∃ x, x = wc := ⟨_, rfl⟩
  have B8 := Lib.hid (B7.out.trans (hb8.mono B7.out.size))
  have Y8 := Lib.hid (X7.out.below hb8)
  have X8 := Lib.hid hx8
  have ES := Lib.hid (error_same NE w8 (ERT.out.below B8.out))
  clear hb8 hx8 z0 z1 k0 k1 k2 k3 k4 k5 k6 k7 k8 k9 k10 k11 k12 k13 k14 k15 k16 E7 NK X7
  go_wp2_with fail
  refine ES.out.mono ?_; rintro e w9 ⟨rfl, hb9⟩
  have B9 := Lib.hid (B8.out.trans (hb9.mono B8.out.size))
  obtain ⟨c0, c1, c2⟩ := (X8.out.below hb9).cells
  obtain ⟨d0, d1, d2⟩ := (Y8.out.below hb9).cells
  clear hb9 ES
  go_wp2
  go_ret
  exact ⟨by first | rfl | simp, BW.out.trans (B9.out.mono BW.out.size)⟩

end Go.Proofs.YtkpmddlinlcobaaGreatDoor

namespace Go.Proofs.YtkpmddlinlcobaaGreatDoor
open Go.RowKit Go.Shelf
set_option linter.unusedVariables false

theorem timesTells_law (ah : Int) (vZ : Value) (Z : List (Int × Int)) (nm tx : List UInt8) (st ln : Int) (rp : Bool) (fr ev ct ti : Int) (vm vd vw vp vM vN vC vA : Value) (mo da : List Int) (we : List (Int × Int)) (pk M N : List Int) (C : List (Int × Int)) (A : List Alm) (a b : Int) (w : World) (hw : Months w) (hE : ErrT w) (w0 : (Lit.int .i64 ah).wf = true) (hZ : PairsR w vZ Z)
    (hmo : IntsR w vm mo) (hda : IntsR w vd da) (hwe : PairsR w vw we) (hpk : IntsR w vp pk) (hM : IntsR w vM M) (hN : IntsR w vN N) (hC : PairsR w vC C) (hA : AlmsR w vA A)
    (hnm : nm.length ≤ 140737488351232) (htx : tx.length ≤ 140737488351232) (hcl : C.length ≤ 8796093022208) (hsm : mo.length ≤ 70368744177664 ∧ da.length ≤ 70368744177664 ∧ we.length ≤ 70368744177664 ∧ pk.length ≤ 70368744177664) (w1 : (Lit.int .i64 a).wf = true) (w2 : (Lit.int .i64 b).wf = true) :
    Calls Tryz.prog 6 #[.agg #[.int .i64 ah, vZ], .agg #[.string (bs nm), .string (bs tx), .int .i64 st, .int .i64 ln, .bool rp, .int .i64 fr, .int .i64 ev, .int .i64 ct, .int .i64 ti, vm, vd, vw, vp, vM, vN, vC, vA], .int .i64 a, .int .i64 b] w fun e w' => e = .returned (.bool true) ∧ Below w.heap.size w w' :=
  timesTells_any ah vZ Z nm tx st ln rp fr ev ct ti vm vd vw vp vM vN vC vA mo da we pk M N C A a b w hw hE hZ ⟨hmo, hda, hwe, hpk, hM, hN, hC, hA⟩ hnm htx hcl hsm

end Go.Proofs.YtkpmddlinlcobaaGreatDoor

namespace Go.Proofs.YtkpmddlinlcobaaGreatDoor
open Go.RowKit

theorem each_tail {H : Type} {P : Program} {t : TypeId} {ts : List TypeId} {d : DataW H} {ds : List (DataW H)} (h : (DataW.weightsEach P (t :: ts) (d :: ds)).all (· ≤ reachBytes) = true) : (DataW.weightsEach P ts ds).all (· ≤ reachBytes) = true := by
  rw [List.all_eq_true] at h ⊢
  intro n hn
  exact h n (by rw [DataW.weightsEach]; exact List.mem_append_right _ hn)

end Go.Proofs.YtkpmddlinlcobaaGreatDoor
