/- Texts joined into one (a claim has at most 60 files): The contract of the reference chimeref2.Ready, and its Between at any later world; The law TimesTells: from when to when any event is, between any two times, and next: the walk; The law TimesTells, as its frame takes it. -/
import Derived.Test.YtgelojhpanbnaaaGreatDoorRefEv
import Derived.Test.YtgelojhpanbnaaaGreatDoorTimHa
import Derived.Test.YtgelojhpanbnaaaGreatDoorRefBt
import Derived.Test.YtgelojhpanbnaaaGreatDoorQ32
import Derived.Test.YtgelojhpanbnaaaGreatDoorTimJ
import Derived.Test.YtgelojhpanbnaaaGreatDoorQ21
namespace Go.Proofs.YtgelojhpanbnaaaGreatDoor
open Go.RowKit Go.Shelf
set_option linter.unusedSimpArgs false
set_option linter.unusedVariables false

set_option maxRecDepth 100000 in
set_option maxHeartbeats 4000000 in
theorem rready_any (nm tx : List UInt8) (st ln : Int) (rp : Bool) (fr ev ct ti : Int) (vm vd vw vp vM vN vC vA : Value) (mo da : List Int) (we : List (Int × Int)) (pk M N : List Int) (C : List (Int × Int)) (A : List Alm) (ah : Int) (vZ : Value) (Z : List (Int × Int)) (w : World)
    (hR : EvR w vm vd vw vp vM vN vC vA mo da we pk M N C A) (hZ : PairsR w vZ Z) (hnm : nm.length ≤ 140737488351232) (htx : tx.length ≤ 140737488351232) (hcl : C.length ≤ 8796093022208) (hsm : mo.length ≤ 70368744177664 ∧ da.length ≤ 70368744177664 ∧ we.length ≤ 70368744177664 ∧ pk.length ≤ 70368744177664) :
    Calls Tryz.prog 30 #[.agg #[.int .i64 ah, vZ], .agg #[.string (bs nm), .string (bs tx), .int .i64 st, .int .i64 ln, .bool rp, .int .i64 fr, .int .i64 ev, .int .i64 ct, .int .i64 ti, vm, vd, vw, vp, vM, vN, vC, vA]] w fun e w' => e = .returned (.int .i64 (readyE (evF nm tx st ln rp fr ev ct ti mo da we pk M N C A) (zfault ah Z))) ∧ Below w.heap.size w w' := by
  obtain ⟨h1, h2, h3, h4, hM, hN, hC, hA⟩ := hR
  obtain ⟨am, km, rfl, -, -, -⟩ := intsR_open h1
  obtain ⟨ad, kd, rfl, -, -, -⟩ := intsR_open h2
  obtain ⟨aw, kw, rfl, -, -, -⟩ := pairsR_open h3
  obtain ⟨ap, kp, rfl, -, -, -⟩ := intsR_open h4
  obtain ⟨aM, kM, rfl, -, -, -⟩ := intsR_open hM
  obtain ⟨aN, kN, rfl, -, -, -⟩ := intsR_open hN
  obtain ⟨aC, kC, rfl, -, kC2, hds⟩ := pairsR_open hC
  obtain ⟨aA, kA, rfl, -, -, -⟩ := almsR_open hA
  unfold maxLen at kC2
  obtain ⟨aZ, kZ, rfl, -, -, -⟩ := pairsR_open hZ
  obtain ⟨snm, hsnm⟩ : ∃ s, s = bs nm := ⟨_, rfl⟩
  obtain ⟨stx, hstx⟩ : ∃ s, s = bs tx := ⟨_, rfl⟩
  obtain ⟨eb, heb⟩ : ∃ x, x = w.heap.size := ⟨_, rfl⟩
  obtain ⟨wz, hwz⟩ : ∃ x, x = w.alloc (.cells #[.int .i64 ah, .slice aZ Z.length kZ] 33) := ⟨_, rfl⟩
  have hbz : Below w.heap.size w wz := by rw [hwz]; exact (Below.refl _ _).alloc (Nat.le_refl _) _
  have hsz : wz.heap.size = eb + 1 := by rw [hwz, heb]; simp
  have z0 : wz.cell? ⟨eb, 0, none⟩ = some (.int .i64 ah) := by rw [hwz, heb]; simp
  have z1 : wz.cell? ⟨eb, 1, none⟩ = some (.slice aZ Z.length kZ) := by rw [hwz, heb]; simp
  obtain ⟨w0, hw0⟩ : ∃ x, x = wz.alloc (.cells #[.string snm, .string stx, .int .i64 st, .int .i64 ln, .bool rp, .int .i64 fr, .int .i64 ev, .int .i64 ct, .int .i64 ti, .slice am mo.length km, .slice ad da.length kd, .slice aw we.length kw, .slice ap pk.length kp, .slice aM M.length kM, .slice aN N.length kN, .slice aC C.length kC, .slice aA A.length kA] 29) := ⟨_, rfl⟩
  have hb0 : Below wz.heap.size wz w0 := by rw [hw0]; exact (Below.refl _ _).alloc (Nat.le_refl _) _
  have ec := hw0 ▸ evC_new wz 29 snm stx st ln rp fr ev ct ti (.slice am mo.length km) (.slice ad da.length kd) (.slice aw we.length kw) (.slice ap pk.length kp) (.slice aM M.length kM) (.slice aN N.length kN) (.slice aC C.length kC) (.slice aA A.length kA)
  rw [hsz] at ec
  have z0 := cell_below hb0 z0; have z1 := cell_below hb0 z1
  have hbw : Below w.heap.size w w0 := hbz.trans (hb0.mono hbz.size)
  obtain ⟨F, hF⟩ : ∃ F, F = (evF nm tx st ln rp fr ev ct ti mo da we pk M N C A) := ⟨_, rfl⟩
  obtain ⟨ZF, hZF⟩ : ∃ F, F = zfault ah Z := ⟨_, rfl⟩
  have CK := Lib.hid (show Calls Tryz.prog 49 #[.agg #[.string snm, .string stx, .int .i64 st, .int .i64 ln, .bool rp, .int .i64 fr, .int .i64 ev, .int .i64 ct, .int .i64 ti, .slice am mo.length km, .slice ad da.length kd, .slice aw we.length kw, .slice ap pk.length kp, .slice aM M.length kM, .slice aN N.length kN, .slice aC C.length kC, .slice aA A.length kA]] w0 (fun e w' => e = .returned (.int .i64 F) ∧ Below w0.heap.size w0 w') by
    rw [hF, hsnm, hstx]
    exact revent_any nm tx st ln rp fr ev ct ti _ _ _ _ _ _ _ _ mo da we pk M N C A w0 (h1.below hbw) (h2.below hbw) (h3.below hbw) (h4.below hbw) (hM.below hbw) (hN.below hbw) (hC.below hbw) (hA.below hbw) hnm htx hcl hsm)
  have ZK := Lib.hid (show ∀ wx, Below w0.heap.size w0 wx → Calls Tryz.prog 36 #[.agg #[.int .i64 ah, .slice aZ Z.length kZ]] wx (fun e w' => e = .returned (.int .i64 ZF) ∧ Below wx.heap.size wx w') from fun wx hbx => by
    rw [hZF]; exact rzone_any _ Z ah wx (hZ.below (hbw.trans (hbx.mono hbw.size))))
  rw [← hsnm, ← hstx, ← hF, ← hZF]
  obtain ⟨YE, hYE⟩ : ∃ z, z = readyE F ZF := ⟨_, rfl⟩
  rw [← hYE]
  have YH := Lib.hid hYE
  have EC := Lib.hid ec; have BW := Lib.hid hbw; have WZ := Lib.hid hwz; have W0 := Lib.hid hw0; have EB := Lib.hid heb
  have Z0 := Lib.hid z0; have Z1 := Lib.hid z1
  clear h1 h2 h3 h4 hM hN hC hA hZ hwz hbz hsz hw0 hb0 ec hbw heb hds z0 z1 hF hZF hsnm hstx hnm htx hcl hsm hYE
  go_enter Tryz.func30, Tryz.ntmps30
  go_upto_region 1 with fail
  rw [← WZ.out, ← W0.out]
  rw [← EB.out]
  have k0 := EC.out.k0; have k1 := EC.out.k1; have k2 := EC.out.k2; have k3 := EC.out.k3; have k4 := EC.out.k4; have k5 := EC.out.k5; have k6 := EC.out.k6; have k7 := EC.out.k7; have k8 := EC.out.k8; have k9 := EC.out.k9; have k10 := EC.out.k10; have k11 := EC.out.k11; have k12 := EC.out.k12; have k13 := EC.out.k13; have k14 := EC.out.k14; have k15 := EC.out.k15; have k16 := EC.out.k16
  go_wp2_with fail
  refine CK.out.mono ?_; rintro e w1 ⟨rfl, hb1⟩
  have z0 := cell_below hb1 Z0.out
  have z1 := cell_below hb1 Z1.out
  have B1 := Lib.hid hb1
  clear hb1 k0 k1 k2 k3 k4 k5 k6 k7 k8 k9 k10 k11 k12 k13 k14 k15 k16
  by_cases h0 : F = 0
  · have RE := Lib.hid (show YE = ZF by rw [YH.out, readyE, if_neg (by omega)])
    have d0 : (F == 0) = true := by simpa using h0
    clear h0
    go_wp2_with fail
    refine (ZK.out _ B1.out).mono ?_; rintro e w2 ⟨rfl, hb2⟩
    have B2 := Lib.hid (B1.out.trans (hb2.mono B1.out.size))
    clear hb2 z0 z1
    go_wp2
    go_ret
    exact ⟨by first | (rw [RE.out]; done) | (rw [RE.out]; rfl), BW.out.trans (B2.out.mono BW.out.size)⟩
  · have RE := Lib.hid (show YE = F by rw [YH.out, readyE, if_pos h0])
    have d0 : (F == 0) = false := by simpa using h0
    clear h0 z0 z1
    go_wp2
    go_ret
    exact ⟨by first | (rw [RE.out]; done) | (rw [RE.out]; rfl), BW.out.trans (B1.out.mono BW.out.size)⟩

def RdyG (w0 : World) (zv ev : Value) (F ZF : Int) : Prop :=
  ∀ (wx : World), Below w0.heap.size w0 wx → Calls Tryz.prog 30 #[zv, ev] wx (fun e w' => e = .returned (.int .i64 (readyE F ZF)) ∧ Below wx.heap.size wx w')

theorem rdyG_mk (nm tx : List UInt8) (st ln : Int) (rp : Bool) (fr ev ct ti : Int) (vm vd vw vp vM vN vC vA : Value) (mo da : List Int) (we : List (Int × Int)) (pk M N : List Int) (C : List (Int × Int)) (A : List Alm) (ah : Int) (vZ : Value) (Z : List (Int × Int)) (w w0 : World) (hb0 : Below w.heap.size w w0)
    (hR : EvR w vm vd vw vp vM vN vC vA mo da we pk M N C A) (hZ : PairsR w vZ Z) (hnm : nm.length ≤ 140737488351232) (htx : tx.length ≤ 140737488351232) (hcl : C.length ≤ 8796093022208) (hsm : mo.length ≤ 70368744177664 ∧ da.length ≤ 70368744177664 ∧ we.length ≤ 70368744177664 ∧ pk.length ≤ 70368744177664) :
    RdyG w0 (.agg #[.int .i64 ah, vZ]) (.agg #[.string (bs nm), .string (bs tx), .int .i64 st, .int .i64 ln, .bool rp, .int .i64 fr, .int .i64 ev, .int .i64 ct, .int .i64 ti, vm, vd, vw, vp, vM, vN, vC, vA]) (evF nm tx st ln rp fr ev ct ti mo da we pk M N C A) (zfault ah Z) := fun wx hbx => by
  have hbw : Below w.heap.size w wx := hb0.trans (hbx.mono hb0.size)
  exact rready_any nm tx st ln rp fr ev ct ti _ _ _ _ _ _ _ _ mo da we pk M N C A ah _ Z wx (hR.below hbw) (hZ.below hbw) hnm htx hcl hsm

/-- the reference's Between at any later world. -/
def RbtG (w0 : World) (zv ev : Value) (F ZF ah ln : Int) (Z : List (Int × Int)) (T M N : List Int) (C : List (Int × Int)) : Prop :=
  F = 0 → ZF = 0 → ∀ (lo hi : Int) (wx : World), (-1000000000 ≤ lo ∧ lo ≤ 1000000000) → (-1000000000 ≤ hi ∧ hi ≤ 1000000000) → Below w0.heap.size w0 wx → Calls Tryz.prog 97 #[zv, ev, .int .i64 lo, .int .i64 hi] wx (fun e w' => ∃ u, e = .returned u ∧ TmsR ln w' u (tmsOf ah Z T M N C ln lo hi) ∧ Below wx.heap.size wx w')

theorem rbtG_mk (nm tx : List UInt8) (st ln : Int) (rp : Bool) (fr ev ct ti : Int) (vm vd vw vp vM vN vC vA : Value) (mo da : List Int) (we : List (Int × Int)) (pk M N : List Int) (C : List (Int × Int)) (A : List Alm) (ah : Int) (vZ : Value) (Z : List (Int × Int)) (w w0 : World) (hb0 : Below w.heap.size w w0)
    (hR : EvR w vm vd vw vp vM vN vC vA mo da we pk M N C A) (hZ : PairsR w vZ Z) :
    RbtG w0 (.agg #[.int .i64 ah, vZ]) (.agg #[.string (bs nm), .string (bs tx), .int .i64 st, .int .i64 ln, .bool rp, .int .i64 fr, .int .i64 ev, .int .i64 ct, .int .i64 ti, vm, vd, vw, vp, vM, vN, vC, vA]) (evF nm tx st ln rp fr ev ct ti mo da we pk M N C A) (zfault ah Z) ah ln Z (ruleT rp st fr ev ct ti mo da we pk) M N C := fun hF hz lo hi wx h1 h2 hbx => by
  have hbw : Below w.heap.size w wx := hb0.trans (hbx.mono hb0.size)
  exact rbet_any (bs nm) (bs tx) st ln rp fr ev ct ti _ _ _ _ _ _ _ _ mo da we pk M N C A ah _ Z lo hi wx (hR.below hbw) (evF_facts hF) (hZ.below hbw) hz h1 h2

end Go.Proofs.YtgelojhpanbnaaaGreatDoor

namespace Go.Proofs.YtgelojhpanbnaaaGreatDoor
open Go.RowKit Go.Shelf
set_option linter.unusedSimpArgs false
set_option linter.unusedVariables false

theorem nextE_form (F ZF a : Int) (L : List (Int × Int)) (E1 : Int) (h : E1 = if readyE F ZF = 0 ∧ timeB a = false then 1 else readyE F ZF) : (E1 ≠ 0 → nextE F ZF a L = E1) ∧ (E1 = 0 → F = 0 ∧ ZF = 0 ∧ timeB a = true ∧ nextE F ZF a L = if L = [] then 5 else 0) := by
  subst h
  unfold nextE
  by_cases h0 : readyE F ZF = 0
  · obtain ⟨h1, h2⟩ := ready_ok h0
    cases ht : timeB a
    · simp [h0]
    · subst h1; subst h2
      simp [show readyE 0 0 = 0 from rfl]
  · simp [h0]

theorem nextT_zero {ln E : Int} {L : List (Int × Int)} {t1 t2 t3 : Int} (h : E ≠ 0) (hf : nextT ln E L = .agg #[.int .i64 t1, .int .i64 t2, .int .i64 t3]) : t1 = 0 ∧ t2 = 0 ∧ t3 = 0 := by
  rw [nextT_no h] at hf
  injection hf with h1
  have h2 := congrArg Array.toList h1
  simp at h2
  exact ⟨h2.1.symm, h2.2.1.symm, h2.2.2.symm⟩

theorem tmsR_nil (ln : Int) (w : World) : TmsR ln w (.slice none 0 0) [] := reads_nil w 3

end Go.Proofs.YtgelojhpanbnaaaGreatDoor

namespace Go.Proofs.YtgelojhpanbnaaaGreatDoor
open Go.RowKit Go.Shelf
set_option linter.unusedVariables false

end Go.Proofs.YtgelojhpanbnaaaGreatDoor
