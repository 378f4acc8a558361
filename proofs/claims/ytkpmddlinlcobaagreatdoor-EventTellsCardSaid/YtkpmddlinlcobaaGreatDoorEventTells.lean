/- The law EventTells: what is wrong with any event, which times it has between any two, and when any is really: the walk. -/
import Derived.Test.YtkpmddlinlcobaaGreatDoorEvMov
import Derived.Test.YtkpmddlinlcobaaGreatDoorQ21
import Derived.Test.YtkpmddlinlcobaaGreatDoorRefE
import Derived.Test.YtkpmddlinlcobaaGreatDoorRefEv
import Derived.Test.YtkpmddlinlcobaaGreatDoorQ24
import Derived.Deep.RegionHeld3
namespace Go.Proofs.YtkpmddlinlcobaaGreatDoor
open Go.RowKit Go.Shelf
set_option linter.unusedSimpArgs false
set_option linter.unusedVariables false

/-- one time alone. -/
theorem evL_one {B M N : List Int} {x : Int} (h : IsT B M N x) : (evL B M N x x).length = 1 := by
  have hr : evL B M N x x = [x] := rise_ext _ _ (evL_up ..) (by simp) fun y => by
    rw [evL_is, List.mem_singleton]
    constructor
    · rintro ⟨-, h1, h2⟩; omega
    · rintro rfl; exact ⟨h, Int.le_refl _, Int.le_refl _⟩
  rw [hr]; rfl

theorem evL_one_is {B M N : List Int} {x : Int} (h : (evL B M N x x).length = 1) : IsT B M N x := by
  obtain ⟨y, hy⟩ := List.length_eq_one_iff.1 h
  obtain ⟨h1, h2, h3⟩ := evL_is.1 (show y ∈ evL B M N x x by rw [hy]; exact List.mem_cons_self)
  obtain rfl : y = x := by omega
  exact h1

set_option maxRecDepth 100000 in
set_option maxHeartbeats 16000000 in
theorem eventTells_any (nm tx : List UInt8) (st ln : Int) (rp : Bool) (fr ev ct ti : Int) (vm vd vw vp vM vN vC vA : Value) (mo da : List Int) (we : List (Int × Int)) (pk M N : List Int) (C : List (Int × Int)) (A : List Alm) (ao : Int) (aen : Bool) (ar ab a b x : Int) (w : World) (hw : Months w) (hE : ErrT w)
    (hR : EvR w vm vd vw vp vM vN vC vA mo da we pk M N C A) (hnm : nm.length ≤ 140737488351232) (htx : tx.length ≤ 140737488351232) (hcl : C.length ≤ 8796093022208)
    (hsm : mo.length ≤ 70368744177664 ∧ da.length ≤ 70368744177664 ∧ we.length ≤ 70368744177664 ∧ pk.length ≤ 70368744177664) (hbb : -9223372036854775808 ≤ b ∧ b < 9223372036854775808) (hxb : -9223372036854775808 ≤ x ∧ x < 9223372036854775808) :
    Calls Tryz.prog 3 #[.agg #[.string (bs nm), .string (bs tx), .int .i64 st, .int .i64 ln, .bool rp, .int .i64 fr, .int .i64 ev, .int .i64 ct, .int .i64 ti, vm, vd, vw, vp, vM, vN, vC, vA], .agg #[.int .i64 ao, .bool aen, .int .i64 ar, .int .i64 ab], .int .i64 a, .int .i64 b, .int .i64 x] w fun e w' => e = .returned (.bool true) ∧ Below w.heap.size w w' := by
  obtain ⟨i0, hi0, hz0, hz1, hz2⟩ := info_parts intInfoP
  have hR0 := hR
  obtain ⟨h1, h2, h3, h4, hM, hN, hC, hA⟩ := hR
  obtain ⟨am, km, rfl, -, -, -⟩ := intsR_open h1
  obtain ⟨ad, kd, rfl, -, -, -⟩ := intsR_open h2
  obtain ⟨aw, kw, rfl, -, -, -⟩ := pairsR_open h3
  obtain ⟨ap, kp, rfl, -, -, -⟩ := intsR_open h4
  obtain ⟨aM, kM, rfl, -, -, -⟩ := intsR_open hM
  obtain ⟨aN, kN, rfl, -, -, -⟩ := intsR_open hN
  obtain ⟨aC, kC, rfl, -, kC2, hds⟩ := pairsR_open hC
  obtain ⟨aA, kA, rfl, -, -, -⟩ := almsR_open hA
  unfold maxLen at kC2
  obtain ⟨snm, hsnm⟩ : ∃ s, s = bs nm := ⟨_, rfl⟩
  obtain ⟨stx, hstx⟩ : ∃ s, s = bs tx := ⟨_, rfl⟩
  obtain ⟨eb, heb⟩ : ∃ x, x = w.heap.size := ⟨_, rfl⟩
  obtain ⟨wz, hwz⟩ : ∃ x, x = w.alloc (.cells #[.string snm, .string stx, .int .i64 st, .int .i64 ln, .bool rp, .int .i64 fr, .int .i64 ev, .int .i64 ct, .int .i64 ti, .slice am mo.length km, .slice ad da.length kd, .slice aw we.length kw, .slice ap pk.length kp, .slice aM M.length kM, .slice aN N.length kN, .slice aC C.length kC, .slice aA A.length kA] 29) := ⟨_, rfl⟩
  have hbz : Below w.heap.size w wz := by rw [hwz]; exact (Below.refl _ _).alloc (Nat.le_refl _) _
  have hsz : wz.heap.size = eb + 1 := by rw [hwz, heb]; simp
  have ec := hwz ▸ evC_new w 29 snm stx st ln rp fr ev ct ti (.slice am mo.length km) (.slice ad da.length kd) (.slice aw we.length kw) (.slice ap pk.length kp) (.slice aM M.length kM) (.slice aN N.length kN) (.slice aC C.length kC) (.slice aA A.length kA)
  rw [← heb] at ec
  obtain ⟨w0, hw0⟩ : ∃ x, x = wz.alloc (.cells #[.int .i64 ao, .bool aen, .int .i64 ar, .int .i64 ab] 31) := ⟨_, rfl⟩
  have hb0 : Below wz.heap.size wz w0 := by rw [hw0]; exact (Below.refl _ _).alloc (Nat.le_refl _) _
  have z0 : w0.cell? ⟨eb + 1, 0, none⟩ = some (.int .i64 ao) := by rw [hw0, ← hsz]; simp
  have z1 : w0.cell? ⟨eb + 1, 1, none⟩ = some (.bool aen) := by rw [hw0, ← hsz]; simp
  have z2 : w0.cell? ⟨eb + 1, 2, none⟩ = some (.int .i64 ar) := by rw [hw0, ← hsz]; simp
  have z3 : w0.cell? ⟨eb + 1, 3, none⟩ = some (.int .i64 ab) := by rw [hw0, ← hsz]; simp
  have ec := ec.below hb0
  have hbw : Below w.heap.size w w0 := hbz.trans (hb0.mono hbz.size)
  obtain ⟨F, hF⟩ : ∃ F, F = (evF nm tx st ln rp fr ev ct ti mo da we pk M N C A) := ⟨_, rfl⟩
  obtain ⟨R, hRR⟩ : ∃ R, R = evL (ruleT rp st fr ev ct ti mo da we pk) M N a b := ⟨_, rfl⟩
  obtain ⟨H, hH⟩ : ∃ H, H = eventE F a b := ⟨_, rfl⟩
  obtain ⟨G, hG⟩ : ∃ G, G = fullE H R := ⟨_, rfl⟩
  obtain ⟨S, hS⟩ : ∃ S, S = if G = 0 then R else [] := ⟨_, rfl⟩
  obtain ⟨X, hX⟩ : ∃ X, X = evL (ruleT rp st fr ev ct ti mo da we pk) M N x x := ⟨_, rfl⟩
  obtain ⟨r1, hr1⟩ : ∃ r, r = (reallyC C x).1 := ⟨_, rfl⟩
  obtain ⟨r2, hr2⟩ : ∃ r, r = (reallyC C x).2 := ⟨_, rfl⟩
  have ERT := Lib.hid (hE.below hbw)
  have RE := Lib.hid (show ∀ wx, Below w0.heap.size w0 wx → Calls Tryz.prog 14 #[.agg #[.string snm, .string stx, .int .i64 st, .int .i64 ln, .bool rp, .int .i64 fr, .int .i64 ev, .int .i64 ct, .int .i64 ti, .slice am mo.length km, .slice ad da.length kd, .slice aw we.length kw, .slice ap pk.length kp, .slice aM M.length kM, .slice aN N.length kN, .slice aC C.length kC, .slice aA A.length kA]] wx (fun e w' => e = .returned (.int .i64 F) ∧ Below wx.heap.size wx w') from fun wx hbx => by
    have hx := hbw.trans (hbx.mono hbw.size)
    rw [hF, hsnm, hstx]
    exact revent_any nm tx st ln rp fr ev ct ti _ _ _ _ _ _ _ _ mo da we pk M N C A wx (h1.below hx) (h2.below hx) (h3.below hx) (h4.below hx) (hM.below hx) (hN.below hx) (hC.below hx) (hA.below hx) hnm htx hcl hsm)
  have CK := Lib.hid (show ∀ wx, Below w0.heap.size w0 wx → Calls Tryz.prog 16 #[.agg #[.string snm, .string stx, .int .i64 st, .int .i64 ln, .bool rp, .int .i64 fr, .int .i64 ev, .int .i64 ct, .int .i64 ti, .slice am mo.length km, .slice ad da.length kd, .slice aw we.length kw, .slice ap pk.length kp, .slice aM M.length kM, .slice aN N.length kN, .slice aC C.length kC, .slice aA A.length kA]] wx (fun e w' => e = .returned (errV F) ∧ Below wx.heap.size wx w') from fun wx hbx => by
    have hx := hbw.trans (hbx.mono hbw.size)
    rw [hF, hsnm, hstx]
    exact check_any nm tx st ln rp fr ev ct ti _ _ _ _ _ _ _ _ mo da we pk M N C A wx (h1.below hx) (h2.below hx) (h3.below hx) (h4.below hx) (hM.below hx) (hN.below hx) (hC.below hx) (hA.below hx) hnm htx hcl)
  have LC := Lib.hid (show ∀ wx, Below w0.heap.size w0 wx → Calls Tryz.prog 21 #[.agg #[.string snm, .string stx, .int .i64 st, .int .i64 ln, .bool rp, .int .i64 fr, .int .i64 ev, .int .i64 ct, .int .i64 ti, .slice am mo.length km, .slice ad da.length kd, .slice aw we.length kw, .slice ap pk.length kp, .slice aM M.length kM, .slice aN N.length kN, .slice aC C.length kC, .slice aA A.length kA], .int .i64 a, .int .i64 b] wx (LocP G R wx) from fun wx hbx => by
    have hx := hbw.trans (hbx.mono hbw.size)
    rw [hG, hH, hF, hRR, hsnm, hstx]
    exact local_any nm tx st ln rp fr ev ct ti _ _ _ _ _ _ _ _ mo da we pk M N C A a b wx (h1.below hx) (h2.below hx) (h3.below hx) (h4.below hx) (hM.below hx) (hN.below hx) (hC.below hx) (hA.below hx) (hw.below hx) hnm htx hcl)
  have DC := Lib.hid (show ∀ wx, Below w0.heap.size w0 wx → Calls Tryz.prog 23 #[.agg #[.string snm, .string stx, .int .i64 st, .int .i64 ln, .bool rp, .int .i64 fr, .int .i64 ev, .int .i64 ct, .int .i64 ti, .slice am mo.length km, .slice ad da.length kd, .slice aw we.length kw, .slice ap pk.length kp, .slice aM M.length kM, .slice aN N.length kN, .slice aC C.length kC, .slice aA A.length kA], .int .i64 a, .int .i64 b] wx (fun e w' => ∃ v, e = .returned (.tuple #[v, errV G]) ∧ IntsR w' v (Lib.compact (S.map dayN)) ∧ Below wx.heap.size wx w') from fun wx hbx => by
    have hx := hbw.trans (hbx.mono hbw.size)
    rw [hS, hG, hH, hF, hRR, hsnm, hstx]
    exact edays_any nm tx st ln rp fr ev ct ti _ _ _ _ _ _ _ _ mo da we pk M N C A a b wx (hw.below hx) (hR0.below hx) hnm htx hcl)
  have RL := Lib.hid (show F = 0 → ∀ wx, Below w0.heap.size w0 wx → Calls Tryz.prog 20 #[.agg #[.string snm, .string stx, .int .i64 st, .int .i64 ln, .bool rp, .int .i64 fr, .int .i64 ev, .int .i64 ct, .int .i64 ti, .slice am mo.length km, .slice ad da.length kd, .slice aw we.length kw, .slice ap pk.length kp, .slice aM M.length kM, .slice aN N.length kN, .slice aC C.length kC, .slice aA A.length kA], .int .i64 a, .int .i64 b] wx (fun e w' => ∃ u, e = .returned u ∧ IntsR w' u R ∧ Below wx.heap.size wx w') from fun h0 wx hbx => by
    have hx := hbw.trans (hbx.mono hbw.size)
    rw [hRR]
    exact rlocal_any snm stx st ln rp fr ev ct ti _ _ _ _ _ _ _ _ mo da we pk M N C A a b wx (hR0.below hx) (evF_facts (hF.symm.trans h0)).ok hbb)
  have RI := Lib.hid (show F = 0 → ∀ wx, Below w0.heap.size w0 wx → Calls Tryz.prog 24 #[.agg #[.string snm, .string stx, .int .i64 st, .int .i64 ln, .bool rp, .int .i64 fr, .int .i64 ev, .int .i64 ct, .int .i64 ti, .slice am mo.length km, .slice ad da.length kd, .slice aw we.length kw, .slice ap pk.length kp, .slice aM M.length kM, .slice aN N.length kN, .slice aC C.length kC, .slice aA A.length kA], .int .i64 x] wx (fun e w' => e = .returned (.bool (decide (X.length = 1))) ∧ Below wx.heap.size wx w') from fun h0 wx hbx => by
    have hx := hbw.trans (hbx.mono hbw.size)
    rw [hX]
    exact ris_any snm stx st ln rp fr ev ct ti _ _ _ _ _ _ _ _ mo da we pk M N C A x wx (hR0.below hx) (evF_facts (hF.symm.trans h0)).ok hxb)
  have RR := Lib.hid (show ∀ wx, Below w0.heap.size w0 wx → Calls Tryz.prog 25 #[.agg #[.string snm, .string stx, .int .i64 st, .int .i64 ln, .bool rp, .int .i64 fr, .int .i64 ev, .int .i64 ct, .int .i64 ti, .slice am mo.length km, .slice ad da.length kd, .slice aw we.length kw, .slice ap pk.length kp, .slice aM M.length kM, .slice aN N.length kN, .slice aC C.length kC, .slice aA A.length kA], .int .i64 x] wx (fun e w' => e = .returned (.tuple #[.int .i64 r1, .bool (!r2)]) ∧ Below wx.heap.size wx w') from fun wx hbx => by
    have hx := hbw.trans (hbx.mono hbw.size)
    rw [hr1, hr2]
    exact rreally_any snm stx st ln rp fr ev ct ti _ _ _ _ _ _ _ _ mo da we pk M N C A x wx rfl rfl rfl rfl rfl rfl rfl (hC.below hx) hcl)
  have MB := Lib.hid (show F ≠ 0 → ∀ wx, Below w0.heap.size w0 wx → Calls Tryz.prog 26 #[.agg #[.string snm, .string stx, .int .i64 st, .int .i64 ln, .bool rp, .int .i64 fr, .int .i64 ev, .int .i64 ct, .int .i64 ti, .slice am mo.length km, .slice ad da.length kd, .slice aw we.length kw, .slice ap pk.length kp, .slice aM M.length kM, .slice aN N.length kN, .slice aC C.length kC, .slice aA A.length kA], .int .i64 x] wx (fun e w' => e = .returned (.tuple #[.int .i64 0, .bool false, errV F]) ∧ Below wx.heap.size wx w') from fun h0 wx hbx => by
    have hx := hbw.trans (hbx.mono hbw.size)
    rw [hF, hsnm, hstx]
    exact moved_bad nm tx st ln rp fr ev ct ti _ _ _ _ _ _ _ _ mo da we pk M N C A x wx (hw.below hx) (hR0.below hx) hnm htx hcl (by rw [← hF]; exact h0))
  have MN := Lib.hid (show F = 0 → X.length ≠ 1 → ∀ wx, Below w0.heap.size w0 wx → Calls Tryz.prog 26 #[.agg #[.string snm, .string stx, .int .i64 st, .int .i64 ln, .bool rp, .int .i64 fr, .int .i64 ev, .int .i64 ct, .int .i64 ti, .slice am mo.length km, .slice ad da.length kd, .slice aw we.length kw, .slice ap pk.length kp, .slice aM M.length kM, .slice aN N.length kN, .slice aC C.length kC, .slice aA A.length kA], .int .i64 x] wx (fun e w' => e = .returned (.tuple #[.int .i64 0, .bool false, errV 5]) ∧ Below wx.heap.size wx w') from fun h0 h9 wx hbx => by
    have hx := hbw.trans (hbx.mono hbw.size)
    rw [hsnm, hstx]
    refine moved_not nm tx st ln rp fr ev ct ti _ _ _ _ _ _ _ _ mo da we pk M N C A x wx (hw.below hx) (hR0.below hx) hnm htx hcl (hF.symm.trans h0) (fun hi => h9 ?_)
    rw [hX]; exact evL_one hi)
  have MY := Lib.hid (show F = 0 → X.length = 1 → ∀ wx, Below w0.heap.size w0 wx → Calls Tryz.prog 26 #[.agg #[.string snm, .string stx, .int .i64 st, .int .i64 ln, .bool rp, .int .i64 fr, .int .i64 ev, .int .i64 ct, .int .i64 ti, .slice am mo.length km, .slice ad da.length kd, .slice aw we.length kw, .slice ap pk.length kp, .slice aM M.length kM, .slice aN N.length kN, .slice aC C.length kC, .slice aA A.length kA], .int .i64 x] wx (fun e w' => e = .returned (.tuple #[.int .i64 r1, .bool r2, .nilIface]) ∧ Below wx.heap.size wx w') from fun h0 h9 wx hbx => by
    have hx := hbw.trans (hbx.mono hbw.size)
    rw [hr1, hr2, hsnm, hstx]
    refine moved_ok nm tx st ln rp fr ev ct ti _ _ _ _ _ _ _ _ mo da we pk M N C A x wx (hw.below hx) (hR0.below hx) (hF.symm.trans h0) ?_ hnm htx hcl
    rw [hX] at h9
    exact evL_one_is h9)
  have SB := Lib.hid (show ∀ t ∈ S, 0 ≤ t ∧ t < 157785120 from fun t ht => by
    rw [hS] at ht
    by_cases h0 : G = 0
    · rw [if_pos h0, hRR] at ht
      rw [h0] at hG
      obtain ⟨-, g1, g2, -, -⟩ := eventE_0 (hH.symm.trans (fullE_0 hG.symm).1)
      have g3 := timeB_yes g1; have g4 := timeB_yes g2
      have g5 := (evL_is.1 ht).2
      omega
    · rw [if_neg h0] at ht; cases ht)
  have SL := Lib.hid (show S.length ≤ 200 by
    rw [hS]
    by_cases h0 : G = 0
    · rw [if_pos h0]; rw [h0] at hG; exact (fullE_0 hG.symm).2
    · rw [if_neg h0]; exact Nat.zero_le _)
  have HE := Lib.hid (show H = if F = 0 then spanE a b else F by rw [hH]; unfold eventE; by_cases h0 : F = 0 <;> simp [h0])
  have GE := Lib.hid hG; have SE := Lib.hid hS
  have FH := Lib.hid (show H = 0 → F = 0 from fun h => (eventE_0 (hH.symm.trans h)).1)
  rw [← hsnm, ← hstx]
  have EC := Lib.hid ec; have BW := Lib.hid hbw; have WZ := Lib.hid hwz; have W0 := Lib.hid hw0; have EB := Lib.hid heb
  have Z0 := Lib.hid z0; have Z1 := Lib.hid z1; have Z2 := Lib.hid z2; have Z3 := Lib.hid z3
  clear hR0 h1 h2 h3 h4 hM hN hC hA hw hE hsm hbb hxb hwz hbz hsz hw0 hb0 ec hbw heb hds hsnm hstx hnm htx hcl z0 z1 z2 z3 hF hRR hH hG hS hX hr1 hr2
  go_enter Tryz.func3, Tryz.ntmps3
  go_upto_region 1 with fail
  rw [← WZ.out, ← W0.out]
  rw [← EB.out]
  have k0 := EC.out.k0; have k1 := EC.out.k1; have k2 := EC.out.k2; have k3 := EC.out.k3; have k4 := EC.out.k4; have k5 := EC.out.k5; have k6 := EC.out.k6; have k7 := EC.out.k7; have k8 := EC.out.k8; have k9 := EC.out.k9; have k10 := EC.out.k10; have k11 := EC.out.k11; have k12 := EC.out.k12; have k13 := EC.out.k13; have k14 := EC.out.k14; have k15 := EC.out.k15; have k16 := EC.out.k16
  go_cut [11] (fun s11 wx => s11 = .int .i64 F ∧ Below w0.heap.size w0 wx)
  case first => as_aux_lemma =>
    go_wp2_with fail
    refine (RE.out _ (Below.refl _ _)).mono ?_; rintro e w1 ⟨rfl, hb1⟩
    have H1 := Lib.hid hb1
    clear hb1 k0 k1 k2 k3 k4 k5 k6 k7 k8 k9 k10 k11 k12 k13 k14 k15 k16
    go_wp2
    go_meet
    exact ⟨rfl, H1.out⟩
  case rest =>
  obtain ⟨rfl, hb1⟩ := hcut
  obtain ⟨w1, rfl⟩ : ∃ x, x = wc := ⟨_, rfl⟩
  have B1 := Lib.hid hb1
  have E1 := Lib.hid (EC.out.below hb1)
  clear hb1 RE k0 k1 k2 k3 k4 k5 k6 k7 k8 k9 k10 k11 k12 k13 k14 k15 k16
  go_upto_region 2 with fail
  have k0 := E1.out.k0; have k1 := E1.out.k1; have k2 := E1.out.k2; have k3 := E1.out.k3; have k4 := E1.out.k4; have k5 := E1.out.k5; have k6 := E1.out.k6; have k7 := E1.out.k7; have k8 := E1.out.k8; have k9 := E1.out.k9; have k10 := E1.out.k10; have k11 := E1.out.k11; have k12 := E1.out.k12; have k13 := E1.out.k13; have k14 := E1.out.k14; have k15 := E1.out.k15; have k16 := E1.out.k16
  go_cut [12] (fun s12 wx => s12 = .bool true ∧ Below w0.heap.size w0 wx)
  case first => as_aux_lemma =>
    go_wp2_with fail
    refine (CK.out _ B1.out).mono ?_; rintro e w2 ⟨rfl, hb2⟩
    have H2 := Lib.hid (B1.out.trans (hb2.mono B1.out.size))
    clear hb2 k0 k1 k2 k3 k4 k5 k6 k7 k8 k9 k10 k11 k12 k13 k14 k15 k16
    go_wp2_with fail
    refine (error_same F _ (ERT.out.below H2.out)).mono ?_; rintro e w3 ⟨rfl, hb3⟩
    have H3 := Lib.hid (H2.out.trans (hb3.mono H2.out.size))
    clear hb3
    go_wp2
    go_meet
    exact ⟨rfl, H3.out⟩
  case rest =>
  obtain ⟨rfl, hb2⟩ := hcut
  obtain ⟨w2, rfl⟩ : ∃ x, x = wc := ⟨_, rfl⟩
  have B2 := Lib.hid hb2
  have z0 := cell_below hb2 Z0.out; have z1 := cell_below hb2 Z1.out; have z2 := cell_below hb2 Z2.out; have z3 := cell_below hb2 Z3.out
  clear hb2 CK E1 k0 k1 k2 k3 k4 k5 k6 k7 k8 k9 k10 k11 k12 k13 k14 k15 k16
  obtain ⟨AE, hAE⟩ : ∃ q, q = almE ao ar ab := ⟨_, rfl⟩
  have A1 := Lib.hid (show ∀ wx, Calls Tryz.prog 17 #[.agg #[.int .i64 ao, .bool aen, .int .i64 ar, .int .i64 ab]] wx (fun e w' => e = .returned (errV AE) ∧ Below wx.heap.size wx w') from fun wx => by rw [hAE]; exact alarm_any ao ar ab aen wx)
  have A2 := Lib.hid (show ∀ wx, Calls Tryz.prog 18 #[.agg #[.int .i64 ao, .bool aen, .int .i64 ar, .int .i64 ab]] wx (fun e w' => e = .returned (.int .i64 AE) ∧ Below wx.heap.size wx w') from fun wx => by rw [hAE]; exact ralarm_any ao ar ab aen wx)
  clear hAE
  go_upto_region 3 with fail
  go_cut [13] (fun s13 wx => s13 = .bool true ∧ Below w0.heap.size w0 wx)
  case first => as_aux_lemma =>
    go_region_held3 (fun w' => w'.cell? ⟨eb + 1, 0, none⟩ = some (.int .i64 ao) ∧ w'.cell? ⟨eb + 1, 1, none⟩ = some (.bool aen) ∧ w'.cell? ⟨eb + 1, 2, none⟩ = some (.int .i64 ar) ∧ w'.cell? ⟨eb + 1, 3, none⟩ = some (.int .i64 ab) ∧ Below w0.heap.size w0 w')
      (first | (refine ⟨?_, ?_, ?_, ?_, ?_⟩ <;> (first | assumption | exact B2.out | exact B2.out.drew)) | (go_split_ands; refine ⟨?_, ?_, ?_, ?_, ?_⟩ <;> (first | assumption | exact cell_below hb (by assumption) | exact below_next (by assumption) hb)))
      (first
        | (go_at_call 17; refine (A1.out _).mono ?_; rintro e w' ⟨rfl, hb⟩)
        | (go_at_call 18; refine (A2.out _).mono ?_; rintro e w' ⟨rfl, hb⟩)
        | (go_at_call 15; refine (error_same AE _ (ERT.out.below (by go_split_ands; assumption))).mono ?_; rintro e w' ⟨rfl, hb⟩))
    all_goals
      go_split_ands
      go_wp2
      go_meet
      exact ⟨rfl, by assumption⟩
  case rest =>
  obtain ⟨rfl, hb3⟩ := hcut
  obtain ⟨w3, rfl⟩ : ∃ x, x = wc := ⟨_, rfl⟩
  have B3 := Lib.hid hb3
  clear hb3 z0 z1 z2 z3 Z0 Z1 Z2 Z3 A1 A2 B2
  go_upto_if 46 with fail
  go_cut [14] (fun s14 wx => s14 = .int .i64 H ∧ Below w3.heap.size w3 wx)
  case first => as_aux_lemma =>
    by_cases h0 : F = 0
    · obtain rfl := h0
      obtain ⟨SP, hSP⟩ : ∃ q, q = spanE a b := ⟨_, rfl⟩
      have HS := Lib.hid (show H = SP by rw [HE.out, if_pos rfl, hSP])
      have ST := Lib.hid (show ∀ wx, Calls Tryz.prog 19 #[.int .i64 a, .int .i64 b] wx (fun e w' => e = .returned (.int .i64 SP) ∧ wx = w') from fun wx => by rw [hSP]; exact rstretch_any a b wx)
      clear hSP
      go_wp2_with fail
      refine (ST.out _).mono ?_; rintro e w4 ⟨rfl, rfl⟩
      go_wp2
      go_meet
      exact ⟨by rw [HS.out], Below.refl _ _⟩
    · have HS := Lib.hid (show H = F by rw [HE.out, if_neg h0])
      have d0 : (F == 0) = false := by rw [beq_eq_false_iff_ne]; exact h0
      clear h0
      go_wp2
      go_meet
      exact ⟨by rw [HS.out], Below.refl _ _⟩
  case rest =>
  obtain ⟨rfl, hb4⟩ := hcut
  obtain ⟨w4, rfl⟩ : ∃ x, x = wc := ⟨_, rfl⟩
  have B4 := Lib.hid (B3.out.trans (hb4.mono B3.out.size))
  have E4 := Lib.hid (EC.out.below B4.out)
  clear hb4 HE B3
  go_upto_if 51 with fail
  have k0 := E4.out.k0; have k1 := E4.out.k1; have k2 := E4.out.k2; have k3 := E4.out.k3; have k4 := E4.out.k4; have k5 := E4.out.k5; have k6 := E4.out.k6; have k7 := E4.out.k7; have k8 := E4.out.k8; have k9 := E4.out.k9; have k10 := E4.out.k10; have k11 := E4.out.k11; have k12 := E4.out.k12; have k13 := E4.out.k13; have k14 := E4.out.k14; have k15 := E4.out.k15; have k16 := E4.out.k16
  go_cut [14, 15] (fun s14 s15 wx => s14 = .int .i64 G ∧ (∃ va, ∃ vc : Nat, s15 = .slice va S.length vc ∧ IntsR wx (.slice va S.length vc) S) ∧ Below w4.heap.size w4 wx)
  case first => as_aux_lemma =>
    by_cases h0 : H = 0
    · have f0 := FH.out h0
      have CL := Lib.hid (RL.out f0 _ B4.out)
      obtain rfl := h0
      clear f0
      go_wp2_with fail
      refine CL.out.mono ?_; rintro e w5 ⟨v, rfl, hv, hb5⟩
      obtain ⟨va, vc, rfl, -, -, -⟩ := intsR_open hv
      have HV := Lib.hid hv; have HB := Lib.hid hb5
      obtain ⟨n, hn⟩ : ∃ n, n = R.length := ⟨_, rfl⟩
      have NE := Lib.hid hn
      rw [← hn]
      clear hv hb5 hn CL k0 k1 k2 k3 k4 k5 k6 k7 k8 k9 k10 k11 k12 k13 k14 k15 k16
      by_cases hl : 200 < n
      · have hg : G = 4 := by rw [GE.out, fullE, if_pos ⟨rfl, by rw [← NE.out]; exact hl⟩]
        subst hg
        have hs : S = [] := by rw [SE.out, if_neg (by decide)]
        subst hs
        have d1 : decide ((200 : Int) < (n : Int)) = true := decide_eq_true (by omega)
        clear hl
        go_wp2
        go_meet
        exact ⟨rfl, ⟨_, _, rfl, intsR_nil _⟩, HB.out⟩
      · have hg : G = 0 := by rw [GE.out, fullE, if_neg (fun h => hl (by rw [NE.out]; exact h.2))]
        subst hg
        have hs : S = R := by rw [SE.out, if_pos rfl]
        subst hs
        have d1 : decide ((200 : Int) < (n : Int)) = false := decide_eq_false (by omega)
        clear hl
        go_wp2
        go_meet
        exact ⟨rfl, ⟨_, _, by rw [NE.out], HV.out⟩, HB.out⟩
    · have hg : G = H := by rw [GE.out, fullE_no h0]
      subst hg
      have hs : S = [] := by rw [SE.out, if_neg h0]
      subst hs
      have d0 : (G == 0) = false := by rw [beq_eq_false_iff_ne]; exact h0
      clear h0
      go_wp2
      go_meet
      exact ⟨rfl, ⟨_, _, rfl, intsR_nil _⟩, Below.refl _ _⟩
  case rest =>
  obtain ⟨rfl, ⟨va, vc, rfl, hv⟩, hb5⟩ := hcut
  obtain ⟨w5, rfl⟩ : ∃ x, x = wc := ⟨_, rfl⟩
  have B5 := Lib.hid (B4.out.trans (hb5.mono B4.out.size))
  have SV := Lib.hid hv
  obtain ⟨va2, vc2, e5, -, kv, hcs⟩ := intsR_open hv
  cases e5
  unfold maxLen at kv
  have HS := Lib.hid hcs
  obtain ⟨n, hn⟩ : ∃ n, n = S.length := ⟨_, rfl⟩
  have NE := Lib.hid hn
  obtain ⟨Y, hY⟩ : ∃ Y, Y = S.map dayN := ⟨_, rfl⟩
  have YL := Lib.hid (show Y.length = n by rw [hY, hn, List.length_map])
  have YE := Lib.hid (show ∀ k (hk : k < S.length) (hk2 : k < Y.length), Y[k] = S[k] / 1440 + 1 from fun k hk hk2 => by simp only [hY, List.getElem_map]; rfl)
  have n200 : n ≤ 200 := by rw [hn]; exact SL.out
  rw [← hY] at DC
  rw [← hn]
  clear hv hcs hb5 hn hY k0 k1 k2 k3 k4 k5 k6 k7 k8 k9 k10 k11 k12 k13 k14 k15 k16 E4 B4 RL GE FH
  go_upto_block 0 with fail
  go_cut [16] (fun s16 wx => (∃ u, s16 = u ∧ IntsR wx u (Lib.compact Y)) ∧ Below w5.heap.size w5 wx)
  case first => as_aux_lemma =>
    go_wp2_with fail
    go_loopg [16, 17] n (fun g ov iv wr => ∃ k : Nat, k ≤ n ∧ iv = .int .i64 k ∧ g = n - k ∧ wr.ownsRow w5.heap.size 3 1 ov (cpK Y k).length ((cpK Y k).map (Value.int .i64)) ∧ Below w5.heap.size w5 wr)
    case atStart => exact ⟨0, Nat.zero_le _, rfl, rfl, World.ownsRow_nil _ _ _ _, Below.refl _ _⟩
    case round =>
      obtain ⟨k, hk, rfl, hg, ho, hb⟩ := hrel
      obtain ⟨w6, rfl⟩ : ∃ x, x = wr := ⟨_, rfl⟩
      have GG := Lib.hid hg; have OW := Lib.hid ho; have B6 := Lib.hid hb
      obtain ⟨oa, oc, rfl, -, -, hog⟩ := owns_cells ho
      clear hg hb
      by_cases hlt : k < n
      · have hkS : k < S.length := by rw [← NE.out]; exact hlt
        have hkY : k < Y.length := by rw [YL.out]; exact hlt
        obtain ⟨gb, go, rfl, hcs⟩ := HS.out (by omega)
        have c0 := cell_below B6.out (hcs k hkS)
        have ye := YE.out k hkS hkY
        obtain ⟨t, ht⟩ : ∃ t, t = S[k] := ⟨_, rfl⟩
        have tb := SB.out t (by rw [ht]; exact List.getElem_mem _)
        rw [← ht] at c0 ye
        have OL := cpK_len Y k
        have j0 : (0 : Int) ≤ (k : Int) := Int.natCast_nonneg _
        have j2 : (k : Int) < (n : Int) := by omega
        have t0 : Int.tdiv t 1440 = t / 1440 := Int.tdiv_eq_ediv_of_nonneg tb.1
        have s0 : IntKind.i64.wrap (t / 1440) = t / 1440 := IntWalk.i64_in _ (by omega)
        have s1 : IntKind.i64.wrap (t / 1440 + 1) = t / 1440 + 1 := IntWalk.i64_in _ (by omega)
        have s2 : IntKind.i64.wrap ((k : Int) + 1) = (k : Int) + 1 := IntWalk.i64_in _ (by omega)
        have NX := Lib.hid (show ∃ bk : Bool, cpK Y (k + 1) = (if bk then cpK Y k ++ [Y[k]] else cpK Y k) ∧ (k = 0 → bk = true ∧ (cpK Y k).length = 0) ∧ (0 < k → ∃ q, (q = Y[k] → bk = false) ∧ (q ≠ Y[k] → bk = true) ∧ 0 < (cpK Y k).length ∧ (cpK Y k)[(cpK Y k).length - 1]? = some q) by
          cases k with
          | zero => exact ⟨true, by rw [if_pos rfl, cpK_zero]; exact cpK_first hkY, fun _ => ⟨rfl, rfl⟩, fun h => absurd h (by omega)⟩
          | succ j =>
            obtain ⟨l, hl⟩ := cpK_last (Z := Y) (k := j) (by omega)
            have hq : 0 < (cpK Y (j + 1)).length ∧ (cpK Y (j + 1))[(cpK Y (j + 1)).length - 1]? = some Y[j] := by rw [hl]; simp
            by_cases he : Y[j + 1] = Y[j]
            · exact ⟨false, by rw [if_neg (by simp)]; exact cpK_no hkY he, fun h => absurd h (by omega), fun _ => ⟨Y[j], fun _ => rfl, fun h => absurd he.symm h, hq⟩⟩
            · exact ⟨true, by rw [if_pos rfl]; exact cpK_yes hkY he, fun h => absurd h (by omega), fun _ => ⟨Y[j], fun h => absurd h.symm he, fun _ => rfl, hq⟩⟩)
        obtain ⟨bk, nx1, nx2, nx3⟩ := NX.out
        obtain ⟨O, hO⟩ : ∃ O, O = cpK Y k := ⟨_, rfl⟩
        rw [← hO] at OW OL nx1 nx2 nx3 hog ho ⊢
        obtain ⟨d, hd⟩ : ∃ d, d = t / 1440 + 1 := ⟨_, rfl⟩
        rw [ye, ← hd] at nx1 nx3
        rw [← hd] at s1
        have N1 := Lib.hid nx1; have N2 := Lib.hid nx2; have N3 := Lib.hid nx3
        obtain ⟨lo, hlo⟩ : ∃ q, q = O.length := ⟨_, rfl⟩
        have LO := Lib.hid hlo
        rw [← hlo] at OL ⊢
        have OG := Lib.hid (show 0 < lo → ∃ g, oa = some ⟨g, 0, none⟩ ∧ ∀ j u, (O.map (Value.int .i64))[j]? = some u → w6.cell? ⟨g, j, none⟩ = some u from fun hp => by
          obtain ⟨g, e1, -, q⟩ := hog (by omega)
          exact ⟨g, e1, q⟩)
        clear NX nx1 nx2 nx3 hcs ht hO ye ho hog hlo
        go_upto_region 16 with fail
        go_cut [18] (fun s18 wx => s18 = .int .i64 d ∧ w6 = wx)
        case first => as_aux_lemma =>
          go_wp2
          go_meet
          exact ⟨by first | rfl | rw [hd], rfl⟩
        case rest =>
        obtain ⟨rfl, rfl⟩ := hcut
        clear hd
        go_upto_region 17 with fail
        go_cut [83] (fun s83 wx => s83 = .bool bk ∧ Below w6.heap.size w6 wx)
        case first => as_aux_lemma =>
          clear s0 s1 c0
          by_cases hk0 : k = 0
          · obtain ⟨q1, q2⟩ := N2.out hk0
            rw [← LO.out] at q2
            subst q1; subst q2
            clear hk0
            go_wp2
            go_meet
            exact ⟨by first | rfl | simp, by first | exact Below.refl _ _ | exact below_drewN (Below.refl _ _) _⟩
          · obtain ⟨q, q1, q2, q3, q4⟩ := N3.out (by omega)
            rw [← LO.out] at q3 q4
            obtain ⟨g, rfl, qc⟩ := OG.out q3
            have c1 := qc (lo - 1) _ (by rw [List.getElem?_map, q4]; rfl)
            obtain ⟨j, rfl⟩ : ∃ j, lo = j + 1 := ⟨lo - 1, by omega⟩
            rw [Nat.add_sub_cancel] at c1
            have i0 : (0 : Int) ≤ (j : Int) := Int.natCast_nonneg _
            have i2 : (j : Int) < ((j + 1 : Nat) : Int) := by omega
            have i3 : IntKind.i64.wrap (((j + 1 : Nat) : Int) - 1) = (j : Int) := by rw [IntWalk.i64_in _ (by omega)]; omega
            have i4 : ((((j + 1 : Nat) : Int)) == 0) = false := by rw [beq_eq_false_iff_ne]; omega
            by_cases hqd : q = d
            · obtain rfl := q1 hqd
              subst hqd
              clear q1 q2 q3 q4 qc hk0
              go_wp2
              go_meet
              exact ⟨by first | rfl | simp, by first | exact Below.refl _ _ | exact below_drewN (Below.refl _ _) _⟩
            · obtain rfl := q2 hqd
              have d9 : (q == d) = false := by rw [beq_eq_false_iff_ne]; exact hqd
              have HQ := Lib.hid hqd
              clear q1 q2 q3 q4 qc hk0 hqd
              go_wp2
              go_meet
              exact ⟨by first | rfl | (simp; done) | (simp; exact .inr HQ.out), by first | exact Below.refl _ _ | exact below_drewN (Below.refl _ _) _⟩
        case rest =>
        obtain ⟨rfl, hb7⟩ := hcut
        obtain ⟨w7, rfl⟩ : ∃ x, x = wc := ⟨_, rfl⟩
        have B7 := Lib.hid (B6.out.trans (hb7.mono B6.out.size))
        have hown := own_kept OW.out hb7
        rw [← LO.out] at hown
        have hw7 := B7.out.size
        clear hb7 c0 s0 s1 OG
        cases bk
        · have HO := Lib.hid hown
          clear hown
          go_wp2
          go_roundg (n - (k + 1))
          case measure => rw [GG.out]; omega
          case rel => exact ⟨k + 1, by omega, by go_num, rfl, by rw [show cpK Y (k + 1) = O from N1.out, ← LO.out]; exact HO.out, B7.out⟩
        · go_wp2_with (at_builtin; refine wpList_append_lies _ rfl _ _ 22 rfl w5.heap.size 3 i0 _ 1 8 Tryz.underlying22 hi0 hz0 hz1 hz2 rfl (by decide) _ _ _ rfl (hown.alloc _) ⟨w7.heap.size, 0, none⟩ 1 1 [.int .i64 d] rfl rfl (cell_one_new _ _ _) (by simp [Value.oneCell']) (by decide) (by unfold maxLen; omega) (by omega) (by simp; omega) _ rfl ?_)
          intro g7 cap7 w8 hown7 hgrow7 hat7 hlt7
          have HO := Lib.hid hown7
          have HB := Lib.hid ((B7.out.alloc hw7 (.cells #[.int .i64 d] 3)).grown hgrow7 (by simp; omega) (fun c hc => (hown.lt c hc).1))
          clear hown7 hgrow7 hat7 hlt7 hown
          go_wp2
          go_roundg (n - (k + 1))
          case measure => rw [GG.out]; omega
          case rel => exact ⟨k + 1, by omega, by go_num, rfl, by rw [show cpK Y (k + 1) = O ++ [d] from N1.out, List.length_append, List.map_append, ← LO.out]; exact HO.out, HB.out⟩
      · obtain rfl : k = n := by omega
        have j2 : ¬ (k : Int) < (k : Int) := by omega
        have e1 : cpK Y k = Lib.compact Y := by rw [← YL.out]; exact cpK_all Y
        have OX := OW.out
        rw [e1] at OX
        have HI := Lib.hid (intsR_of_owns OX)
        rw [e1]
        clear e1 OX hog ho
        go_wp2
        go_meet
        exact ⟨⟨_, rfl, HI.out⟩, B6.out⟩
  case rest => as_aux_lemma =>
  obtain ⟨⟨u, rfl, hu⟩, hb6⟩ := hcut
  obtain ⟨w6, rfl⟩ : ∃ x, x = wc := ⟨_, rfl⟩
  obtain ⟨ua, uc, rfl, -, -, -⟩ := intsR_open hu
  have B6 := Lib.hid (B5.out.trans (hb6.mono B5.out.size))
  have SV6 := Lib.hid (SV.out.below hb6)
  have UV6 := Lib.hid hu
  have E6 := Lib.hid (EC.out.below B6.out)
  clear hb6 hu SV HS YE SB B5
  go_upto_region 19 with fail
  have k0 := E6.out.k0; have k1 := E6.out.k1; have k2 := E6.out.k2; have k3 := E6.out.k3; have k4 := E6.out.k4; have k5 := E6.out.k5; have k6 := E6.out.k6; have k7 := E6.out.k7; have k8 := E6.out.k8; have k9 := E6.out.k9; have k10 := E6.out.k10; have k11 := E6.out.k11; have k12 := E6.out.k12; have k13 := E6.out.k13; have k14 := E6.out.k14; have k15 := E6.out.k15; have k16 := E6.out.k16
  go_cut [19, 20] (fun s19 s20 wx => (∃ va, ∃ vc : Nat, s19 = .slice va n vc ∧ IntsR wx (.slice va n vc) S) ∧ s20 = errV G ∧ Below w6.heap.size w6 wx)
  case first => as_aux_lemma =>
    go_wp2_with fail
    refine (LC.out _ B6.out).mono ?_; rintro e w7 ⟨v, rfl, hv, hb7⟩
    rw [← SE.out] at hv
    have hi := hv.ints
    obtain ⟨va3, vc3, rfl, -, -, -⟩ := intsR_open hi
    have HI := Lib.hid hi; have HB := Lib.hid hb7
    clear hv hi hb7 k0 k1 k2 k3 k4 k5 k6 k7 k8 k9 k10 k11 k12 k13 k14 k15 k16
    go_wp2
    go_meet
    exact ⟨⟨_, _, by rw [NE.out], by rw [NE.out]; exact HI.out⟩, rfl, HB.out⟩
  case rest =>
  obtain ⟨⟨va3, vc3, rfl, hv⟩, rfl, hb7⟩ := hcut
  obtain ⟨w7, rfl⟩ : ∃ x, x = wc := ⟨_, rfl⟩
  have B7 := Lib.hid (B6.out.trans (hb7.mono B6.out.size))
  have GV := Lib.hid hv; have SV7 := Lib.hid (SV6.out.below hb7); have UV7 := Lib.hid (UV6.out.below hb7)
  clear hv hb7 k0 k1 k2 k3 k4 k5 k6 k7 k8 k9 k10 k11 k12 k13 k14 k15 k16 E6 LC SV6 UV6 B6
  rw [← NE.out] at SV7
  go_upto_region 20 with fail
  go_cut [21] (fun s21 wx => s21 = .bool true ∧ Below w7.heap.size w7 wx)
  case first => as_aux_lemma =>
    go_wp2_with fail
    refine (error_same G _ (ERT.out.below B7.out)).mono ?_; rintro e w8 ⟨rfl, hb8⟩
    have HB := Lib.hid hb8
    clear hb8
    go_wp2
    go_meet
    exact ⟨rfl, HB.out⟩
  case rest =>
  obtain ⟨rfl, hb8⟩ := hcut
  obtain ⟨w8, rfl⟩ : ∃ x, x = wc := ⟨_, rfl⟩
  have B8 := Lib.hid (B7.out.trans (hb8.mono B7.out.size))
  have GV8 := Lib.hid (GV.out.below hb8); have SV8 := Lib.hid (SV7.out.below hb8); have UV8 := Lib.hid (UV7.out.below hb8)
  clear hb8 GV SV7 UV7 B7
  go_upto_region 21 with fail
  go_cut [22] (fun s22 wx => s22 = .bool true ∧ Below w8.heap.size w8 wx)
  case first => as_aux_lemma =>
    go_wp2_with fail
    refine (ints_any _ _ S S _ GV8.out SV8.out).mono ?_; rintro e w9 ⟨rfl, hb9⟩
    have HB := Lib.hid hb9
    rw [show intsB S S = true from decide_eq_true rfl]
    clear hb9
    go_wp2
    go_meet
    exact ⟨rfl, HB.out⟩
  case rest =>
  obtain ⟨rfl, hb9⟩ := hcut
  obtain ⟨w9, rfl⟩ : ∃ x, x = wc := ⟨_, rfl⟩
  have B9 := Lib.hid (B8.out.trans (hb9.mono B8.out.size))
  have UV9 := Lib.hid (UV8.out.below hb9)
  have E9 := Lib.hid (EC.out.below B9.out)
  clear hb9 GV8 SV8 UV8 B8
  go_upto_region 22 with fail
  have k0 := E9.out.k0; have k1 := E9.out.k1; have k2 := E9.out.k2; have k3 := E9.out.k3; have k4 := E9.out.k4; have k5 := E9.out.k5; have k6 := E9.out.k6; have k7 := E9.out.k7; have k8 := E9.out.k8; have k9 := E9.out.k9; have k10 := E9.out.k10; have k11 := E9.out.k11; have k12 := E9.out.k12; have k13 := E9.out.k13; have k14 := E9.out.k14; have k15 := E9.out.k15; have k16 := E9.out.k16
  go_cut [19, 20] (fun s19 s20 wx => (∃ u, s19 = u ∧ IntsR wx u (Lib.compact Y)) ∧ s20 = errV G ∧ Below w9.heap.size w9 wx)
  case first => as_aux_lemma =>
    go_wp2_with fail
    refine (DC.out _ B9.out).mono ?_; rintro e w10 ⟨v, rfl, hv, hb10⟩
    have HI := Lib.hid hv; have HB := Lib.hid hb10
    clear hv hb10 k0 k1 k2 k3 k4 k5 k6 k7 k8 k9 k10 k11 k12 k13 k14 k15 k16
    go_wp2
    go_meet
    exact ⟨⟨_, rfl, HI.out⟩, rfl, HB.out⟩
  case rest => as_aux_lemma =>
  obtain ⟨⟨u2, rfl, hu2⟩, rfl, hb10⟩ := hcut
  obtain ⟨w10, rfl⟩ : ∃ x, x = wc := ⟨_, rfl⟩
  obtain ⟨ua2, uc2, rfl, -, -, -⟩ := intsR_open hu2
  have B10 := Lib.hid (B9.out.trans (hb10.mono B9.out.size))
  have DV := Lib.hid hu2; have UV10 := Lib.hid (UV9.out.below hb10)
  clear hu2 hb10 k0 k1 k2 k3 k4 k5 k6 k7 k8 k9 k10 k11 k12 k13 k14 k15 k16 E9 DC UV9 B9
  go_upto_region 23 with fail
  go_cut [23] (fun s23 wx => s23 = .bool true ∧ Below w10.heap.size w10 wx)
  case first => as_aux_lemma =>
    go_wp2_with fail
    refine (error_same G _ (ERT.out.below B10.out)).mono ?_; rintro e w11 ⟨rfl, hb11⟩
    have HB := Lib.hid hb11
    clear hb11
    go_wp2
    go_meet
    exact ⟨rfl, HB.out⟩
  case rest =>
  obtain ⟨rfl, hb11⟩ := hcut
  obtain ⟨w11, rfl⟩ : ∃ x, x = wc := ⟨_, rfl⟩
  have B11 := Lib.hid (B10.out.trans (hb11.mono B10.out.size))
  have DV11 := Lib.hid (DV.out.below hb11); have UV11 := Lib.hid (UV10.out.below hb11)
  clear hb11 DV UV10 B10
  go_upto_region 24 with fail
  go_cut [24] (fun s24 wx => s24 = .bool true ∧ Below w11.heap.size w11 wx)
  case first => as_aux_lemma =>
    go_wp2_with fail
    refine (ints_any _ _ (Lib.compact Y) (Lib.compact Y) _ DV11.out UV11.out).mono ?_; rintro e w12 ⟨rfl, hb12⟩
    have HB := Lib.hid hb12
    rw [show intsB (Lib.compact Y) (Lib.compact Y) = true from decide_eq_true rfl]
    clear hb12
    go_wp2
    go_meet
    exact ⟨rfl, HB.out⟩
  case rest =>
  obtain ⟨rfl, hb12⟩ := hcut
  obtain ⟨w12, rfl⟩ : ∃ x, x = wc := ⟨_, rfl⟩
  have B12 := Lib.hid (B11.out.trans (hb12.mono B11.out.size))
  clear hb12 DV11 UV11 B11
  go_upto_if 115 with fail
  have E12 := Lib.hid (EC.out.below B12.out)
  by_cases h0 : F = 0
  · as_aux_lemma =>
    obtain rfl := h0
    have IS := Lib.hid (RI.out rfl _ B12.out)
    clear MB
    have k0 := E12.out.k0; have k1 := E12.out.k1; have k2 := E12.out.k2; have k3 := E12.out.k3; have k4 := E12.out.k4; have k5 := E12.out.k5; have k6 := E12.out.k6; have k7 := E12.out.k7; have k8 := E12.out.k8; have k9 := E12.out.k9; have k10 := E12.out.k10; have k11 := E12.out.k11; have k12 := E12.out.k12; have k13 := E12.out.k13; have k14 := E12.out.k14; have k15 := E12.out.k15; have k16 := E12.out.k16
    go_upto_region 28 with fail
    obtain ⟨bi, hbi⟩ : ∃ q, q = decide (X.length = 1) := ⟨_, rfl⟩
    rw [← hbi] at IS
    have BI := Lib.hid hbi
    clear hbi
    go_cut [27] (fun s27 wx => s27 = .bool bi ∧ Below w12.heap.size w12 wx)
    case first => as_aux_lemma =>
      go_wp2_with fail
      refine IS.out.mono ?_; rintro e w13 ⟨rfl, hb13⟩
      have HB := Lib.hid hb13
      clear hb13 k0 k1 k2 k3 k4 k5 k6 k7 k8 k9 k10 k11 k12 k13 k14 k15 k16
      go_wp2
      go_meet
      exact ⟨rfl, HB.out⟩
    case rest =>
    obtain ⟨rfl, hb13⟩ := hcut
    obtain ⟨w13, rfl⟩ : ∃ x, x = wc := ⟨_, rfl⟩
    have B13 := Lib.hid (B12.out.trans (hb13.mono B12.out.size))
    have E13 := Lib.hid (EC.out.below B13.out)
    clear hb13 IS k0 k1 k2 k3 k4 k5 k6 k7 k8 k9 k10 k11 k12 k13 k14 k15 k16 E12 B12
    cases bi
    · as_aux_lemma =>
      have M5 := Lib.hid (MN.out rfl (by have := BI.out; simpa using this.symm) _ B13.out)
      have k0 := E13.out.k0; have k1 := E13.out.k1; have k2 := E13.out.k2; have k3 := E13.out.k3; have k4 := E13.out.k4; have k5 := E13.out.k5; have k6 := E13.out.k6; have k7 := E13.out.k7; have k8 := E13.out.k8; have k9 := E13.out.k9; have k10 := E13.out.k10; have k11 := E13.out.k11; have k12 := E13.out.k12; have k13 := E13.out.k13; have k14 := E13.out.k14; have k15 := E13.out.k15; have k16 := E13.out.k16
      clear MN MY
      go_upto_region 34 with fail
      rw [show errV 5 = .iface 119 (.int .i64 5) from rfl] at M5
      go_wp2_with fail
      refine M5.out.mono ?_; rintro e w14 ⟨rfl, hb14⟩
      have B14 := Lib.hid (B13.out.trans (hb14.mono B13.out.size))
      clear hb14 k0 k1 k2 k3 k4 k5 k6 k7 k8 k9 k10 k11 k12 k13 k14 k15 k16 E13
      have ES := Lib.hid (show Calls Tryz.prog 15 #[.iface 119 (.int .i64 5), .int .i64 5] w14 (fun e w' => e = .returned (.bool true) ∧ Below w14.heap.size w14 w') from error_same 5 _ (ERT.out.below B14.out))
      go_wp2_with fail
      refine ES.out.mono ?_; rintro e w15 ⟨rfl, hb15⟩
      have B15 := Lib.hid (B14.out.trans (hb15.mono B14.out.size))
      clear hb15 ES M5
      go_wp2
      go_ret
      exact ⟨rfl, BW.out.trans (B15.out.mono BW.out.size)⟩
    · as_aux_lemma =>
      have x1 : X.length = 1 := by have := BI.out; simpa using this.symm
      have M6 := Lib.hid (fun wx => MY.out rfl x1 wx)
      have RX := Lib.hid (RR.out _ B13.out)
      clear MN MY x1
      have k0 := E13.out.k0; have k1 := E13.out.k1; have k2 := E13.out.k2; have k3 := E13.out.k3; have k4 := E13.out.k4; have k5 := E13.out.k5; have k6 := E13.out.k6; have k7 := E13.out.k7; have k8 := E13.out.k8; have k9 := E13.out.k9; have k10 := E13.out.k10; have k11 := E13.out.k11; have k12 := E13.out.k12; have k13 := E13.out.k13; have k14 := E13.out.k14; have k15 := E13.out.k15; have k16 := E13.out.k16
      go_upto_region 30 with fail
      go_cut [28, 29] (fun s28 s29 wx => s28 = .int .i64 r1 ∧ s29 = .bool (!r2) ∧ Below w13.heap.size w13 wx)
      case first => as_aux_lemma =>
        go_wp2_with fail
        refine RX.out.mono ?_; rintro e w14 ⟨rfl, hb14⟩
        have HB := Lib.hid hb14
        clear hb14 k0 k1 k2 k3 k4 k5 k6 k7 k8 k9 k10 k11 k12 k13 k14 k15 k16
        go_wp2
        go_meet
        exact ⟨rfl, rfl, HB.out⟩
      case rest =>
      obtain ⟨rfl, rfl, hb14⟩ := hcut
      obtain ⟨w14, rfl⟩ : ∃ x, x = wc := ⟨_, rfl⟩
      have B14 := Lib.hid (B13.out.trans (hb14.mono B13.out.size))
      have E14 := Lib.hid (EC.out.below B14.out)
      have M7 := Lib.hid (M6.out _ B14.out)
      clear hb14 RX k0 k1 k2 k3 k4 k5 k6 k7 k8 k9 k10 k11 k12 k13 k14 k15 k16 E13 M6
      have k0 := E14.out.k0; have k1 := E14.out.k1; have k2 := E14.out.k2; have k3 := E14.out.k3; have k4 := E14.out.k4; have k5 := E14.out.k5; have k6 := E14.out.k6; have k7 := E14.out.k7; have k8 := E14.out.k8; have k9 := E14.out.k9; have k10 := E14.out.k10; have k11 := E14.out.k11; have k12 := E14.out.k12; have k13 := E14.out.k13; have k14 := E14.out.k14; have k15 := E14.out.k15; have k16 := E14.out.k16
      cases r2
      all_goals
        go_upto_region 34 with fail
        go_wp2_with fail
        refine M7.out.mono ?_; rintro e w15 ⟨rfl, hb15⟩
        have B15 := Lib.hid (B14.out.trans (hb15.mono B14.out.size))
        clear hb15 k0 k1 k2 k3 k4 k5 k6 k7 k8 k9 k10 k11 k12 k13 k14 k15 k16 E14 M7
        have ES := Lib.hid (show Calls Tryz.prog 15 #[.nilIface, .int .i64 0] w15 (fun e w' => e = .returned (.bool true) ∧ Below w15.heap.size w15 w') from error_nil 0 _ true rfl)
        go_wp2_with fail
        refine ES.out.mono ?_; rintro e w16 ⟨rfl, hb16⟩
        have B16 := Lib.hid (B15.out.trans (hb16.mono B15.out.size))
        clear hb16 ES
        go_wp2
        go_ret
        exact ⟨by first | rfl | simp, BW.out.trans (B16.out.mono BW.out.size)⟩
  · as_aux_lemma =>
    have d0 : (F == 0) = false := by rw [beq_eq_false_iff_ne]; exact h0
    have M5 := Lib.hid (MB.out h0 _ B12.out)
    have EV := Lib.hid (show errV F = .iface 119 (.int .i64 F) by rw [errV, if_neg h0])
    have ES := Lib.hid (fun wx (hx : Below w0.heap.size w0 wx) => error_same F wx (ERT.out.below hx))
    rw [EV.out] at M5 ES
    clear h0 MB MN MY RI RR
    have k0 := E12.out.k0; have k1 := E12.out.k1; have k2 := E12.out.k2; have k3 := E12.out.k3; have k4 := E12.out.k4; have k5 := E12.out.k5; have k6 := E12.out.k6; have k7 := E12.out.k7; have k8 := E12.out.k8; have k9 := E12.out.k9; have k10 := E12.out.k10; have k11 := E12.out.k11; have k12 := E12.out.k12; have k13 := E12.out.k13; have k14 := E12.out.k14; have k15 := E12.out.k15; have k16 := E12.out.k16
    go_upto_region 34 with fail
    go_wp2_with fail
    refine M5.out.mono ?_; rintro e w13 ⟨rfl, hb13⟩
    have B13 := Lib.hid (B12.out.trans (hb13.mono B12.out.size))
    clear hb13 k0 k1 k2 k3 k4 k5 k6 k7 k8 k9 k10 k11 k12 k13 k14 k15 k16 E12 M5
    go_wp2_with fail
    refine (ES.out _ B13.out).mono ?_; rintro e w14 ⟨rfl, hb14⟩
    have B14 := Lib.hid (B13.out.trans (hb14.mono B13.out.size))
    clear hb14 ES
    go_wp2
    go_ret
    exact ⟨by first | rfl | simp, BW.out.trans (B14.out.mono BW.out.size)⟩

end Go.Proofs.YtkpmddlinlcobaaGreatDoor
