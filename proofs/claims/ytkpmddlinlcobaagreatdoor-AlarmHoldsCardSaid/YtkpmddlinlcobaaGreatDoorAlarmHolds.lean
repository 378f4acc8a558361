/- The law AlarmHolds: each ring is of an alarm of its event, so many minutes from a time it has; in order; in two parts they are what they are in all: the walk. -/
import Derived.Test.YtkpmddlinlcobaaGreatDoorRngO
namespace Go.Proofs.YtkpmddlinlcobaaGreatDoor
open Go.RowKit Go.Shelf Go.Sort
set_option linter.unusedSimpArgs false
set_option linter.unusedVariables false

theorem holds_two (w : World) (b : Nat) (h : ∀ j u, ([.int .i64 (-10), .bool false, .int .i64 1, .int .i64 3, .int .i64 0, .bool true, .int .i64 0, .int .i64 0] : List Value)[j]? = some u → w.cell? ⟨b, j, none⟩ = some u) : AlmsR w (.slice (some ⟨b, 0, none⟩) 2 2) [(-10, false, 1, 3), (0, true, 0, 0)] :=
  ⟨_, 2, rfl, by simp [almV], by simp, by decide, fun _ => ⟨b, 0, rfl, fun j u hj => by rw [Nat.zero_add]; exact h j u hj⟩⟩

theorem aholds_lit (w0 : World) : ∃ ob vA1, Value.pointer (some ⟨w0.heap.size + 1, 0, none⟩) = .pointer (some ⟨ob, 0, none⟩) ∧ EvC ((w0.alloc (.cells #[.int .i64 (-10), .bool false, .int .i64 1, .int .i64 3, .int .i64 0, .bool true, .int .i64 0, .int .i64 0] 31)).alloc (.cells #[.string { data := #[97] }, .string { data := #[] }, .int .i64 66729179, .int .i64 60, .bool false, .int .i64 0, .int .i64 0, .int .i64 0, .int .i64 0, .slice none 0 0, .slice none 0 0, .slice none 0 0, .slice none 0 0, .slice none 0 0, .slice none 0 0, .slice none 0 0, .slice (some ⟨w0.heap.size, 0, none⟩) 2 2] 29)) ob { data := #[97] } { data := #[] } 66729179 60 false 0 0 0 0 (.slice none 0 0) (.slice none 0 0) (.slice none 0 0) (.slice none 0 0) (.slice none 0 0) (.slice none 0 0) (.slice none 0 0) vA1 ∧ AlmsR ((w0.alloc (.cells #[.int .i64 (-10), .bool false, .int .i64 1, .int .i64 3, .int .i64 0, .bool true, .int .i64 0, .int .i64 0] 31)).alloc (.cells #[.string { data := #[97] }, .string { data := #[] }, .int .i64 66729179, .int .i64 60, .bool false, .int .i64 0, .int .i64 0, .int .i64 0, .int .i64 0, .slice none 0 0, .slice none 0 0, .slice none 0 0, .slice none 0 0, .slice none 0 0, .slice none 0 0, .slice none 0 0, .slice (some ⟨w0.heap.size, 0, none⟩) 2 2] 29)) vA1 [(-10, false, 1, 3), (0, true, 0, 0)] ∧ Below w0.heap.size w0 ((w0.alloc (.cells #[.int .i64 (-10), .bool false, .int .i64 1, .int .i64 3, .int .i64 0, .bool true, .int .i64 0, .int .i64 0] 31)).alloc (.cells #[.string { data := #[97] }, .string { data := #[] }, .int .i64 66729179, .int .i64 60, .bool false, .int .i64 0, .int .i64 0, .int .i64 0, .int .i64 0, .slice none 0 0, .slice none 0 0, .slice none 0 0, .slice none 0 0, .slice none 0 0, .slice none 0 0, .slice none 0 0, .slice (some ⟨w0.heap.size, 0, none⟩) 2 2] 29)) := by
  obtain ⟨y1, hy1⟩ : ∃ z, z = w0.alloc (.cells #[.int .i64 (-10), .bool false, .int .i64 1, .int .i64 3, .int .i64 0, .bool true, .int .i64 0, .int .i64 0] 31) := ⟨_, rfl⟩
  have s1 : y1.heap.size = w0.heap.size + 1 := by rw [hy1]; simp
  have c : ∀ j u, ([.int .i64 (-10), .bool false, .int .i64 1, .int .i64 3, .int .i64 0, .bool true, .int .i64 0, .int .i64 0] : List Value)[j]? = some u → y1.cell? ⟨w0.heap.size, j, none⟩ = some u := fun j u hj => by
    rw [hy1, World.cell?_alloc_new]; simpa using hj
  have b1 : Below w0.heap.size w0 y1 := by rw [hy1]; exact (Below.refl _ _).alloc (Nat.le_refl _) _
  rw [← hy1]
  obtain ⟨o, ho⟩ : ∃ o : Obj, o = .cells #[.string { data := #[97] }, .string { data := #[] }, .int .i64 66729179, .int .i64 60, .bool false, .int .i64 0, .int .i64 0, .int .i64 0, .int .i64 0, .slice none 0 0, .slice none 0 0, .slice none 0 0, .slice none 0 0, .slice none 0 0, .slice none 0 0, .slice none 0 0, .slice (some ⟨w0.heap.size, 0, none⟩) 2 2] 29 := ⟨_, rfl⟩
  have ec := evC_new y1 29 { data := #[97] } { data := #[] } 66729179 60 false 0 0 0 0 (.slice none 0 0) (.slice none 0 0) (.slice none 0 0) (.slice none 0 0) (.slice none 0 0) (.slice none 0 0) (.slice none 0 0) (.slice (some ⟨w0.heap.size, 0, none⟩) 2 2)
  rw [← ho] at ec ⊢
  have b3 : Below y1.heap.size y1 (y1.alloc o) := (Below.refl y1.heap.size y1).alloc (Nat.le_refl _) o
  have i1 := holds_two (y1.alloc o) w0.heap.size (fun j u hj => cell_below b3 (c j u hj))
  rw [s1] at ec
  exact ⟨_, _, rfl, ec, i1, b1.trans (b3.mono (by omega))⟩

theorem aholds_fact : evF [97] [] 66729179 60 false 0 0 0 0 [] [] [] [] [] [] [] [(-10, false, 1, 3), (0, true, 0, 0)] = 0 := by decide +kernel

theorem aholds_call (vA : Value) (w : World) (hw : Months w) (hA : AlmsR w vA [(-10, false, 1, 3), (0, true, 0, 0)]) : Calls Tryz.prog 33 #[.agg #[.int .i64 0, .slice none 0 0], .agg #[.string { data := #[97] }, .string { data := #[] }, .int .i64 66729179, .int .i64 60, .bool false, .int .i64 0, .int .i64 0, .int .i64 0, .int .i64 0, .slice none 0 0, .slice none 0 0, .slice none 0 0, .slice none 0 0, .slice none 0 0, .slice none 0 0, .slice none 0 0, vA], .int .i64 66729000, .int .i64 66730000] w
      (RingsP (bs [97]) 0 [(66729169, 66729179, 0, 0), (66729172, 66729179, 0, 1), (66729239, 66729179, 1, 0)] w) := by
  have h := rings_any [97] [] 66729179 60 false 0 0 0 0 (.slice none 0 0) (.slice none 0 0) (.slice none 0 0) (.slice none 0 0) (.slice none 0 0) (.slice none 0 0) (.slice none 0 0) vA [] [] [] [] [] [] [] [(-10, false, 1, 3), (0, true, 0, 0)] 0 (.slice none 0 0) [] 66729000 66730000 w hw ⟨intsR_nil _, intsR_nil _, reads_nil _ _, intsR_nil _, intsR_nil _, intsR_nil _, reads_nil _ _, hA⟩ (reads_nil _ _) (by decide) (by decide) (by decide)
  rw [aholds_fact, show ruleT false 66729179 0 0 0 0 [] [] [] [] = [66729179] from rfl, show (66730000 : Int) - 1 = 66729999 by decide, two_rings, show ringE (betE 0 (zfault 0 []) 66729000 66730000) ([(66729169, 66729179, 0, 0), (66729172, 66729179, 0, 1), (66729239, 66729179, 1, 0)] : List Rng).length = 0 by decide] at h
  exact h

theorem below_grow {B : Nat} {a w : World} (h : Below B a w) (hB : B ≤ w.heap.size) (os : Array Obj) : Below B a (grow w os) :=
  h.trans ⟨rfl, rfl, rfl, by simp [grow], fun k hk => heap_grow_old _ _ (by omega)⟩

/-- what is asked of a ring in a list of rings. -/
theorem any_take {Q : List (Int × Int)} {wh : Int} {m : Nat} (h : m < Q.length) : ((Q.take (m + 1)).any fun t => t.1 == wh) = (((Q.take m).any fun t => t.1 == wh) || (Q[m].1 == wh)) := by
  rw [List.take_succ_eq_append_getElem h, List.any_append]; simp

set_option maxRecDepth 100000 in
set_option maxHeartbeats 16000000 in
theorem alarmHolds_any (ah : Int) (vZ : Value) (Z : List (Int × Int)) (nm tx : List UInt8) (st ln : Int) (rp : Bool) (fr ev ct ti : Int) (vm vd vw vp vM vN vC vA : Value) (mo da : List Int) (we : List (Int × Int)) (pk M N : List Int) (C : List (Int × Int)) (A : List Alm) (a c b : Int) (w : World) (hw : Months w) (hZ : PairsR w vZ Z)
    (hR : EvR w vm vd vw vp vM vN vC vA mo da we pk M N C A) (hnm : nm.length ≤ 140737488351232) (htx : tx.length ≤ 140737488351232) (hcl : C.length ≤ 8796093022208) :
    Calls Tryz.prog 8 #[.agg #[.int .i64 ah, vZ], .agg #[.string (bs nm), .string (bs tx), .int .i64 st, .int .i64 ln, .bool rp, .int .i64 fr, .int .i64 ev, .int .i64 ct, .int .i64 ti, vm, vd, vw, vp, vM, vN, vC, vA], .int .i64 a, .int .i64 c, .int .i64 b] w fun e w' => e = .returned (.bool true) ∧ Below w.heap.size w w' := by
  have hR0 := hR
  obtain ⟨h1, h2, h3, h4, hM, hN, hC, hA⟩ := hR
  obtain ⟨am, km, rfl, -, -, -⟩ := intsR_open h1
  obtain ⟨ad, kd, rfl, -, -, -⟩ := intsR_open h2
  obtain ⟨aw, kw, rfl, -, -, -⟩ := pairsR_open h3
  obtain ⟨ap, kp, rfl, -, -, -⟩ := intsR_open h4
  obtain ⟨aM, kM, rfl, -, -, -⟩ := intsR_open hM
  obtain ⟨aN, kN, rfl, -, -, -⟩ := intsR_open hN
  obtain ⟨aC, kC, rfl, -, kC2, hds⟩ := pairsR_open hC
  obtain ⟨aA, kA, rfl, -, kA2, hdA⟩ := almsR_open hA
  unfold maxLen at kC2 kA2
  obtain ⟨aZ, kZ, rfl, -, -, -⟩ := pairsR_open hZ
  obtain ⟨snm, hsnm⟩ : ∃ s, s = bs nm := ⟨_, rfl⟩
  obtain ⟨stx, hstx⟩ : ∃ s, s = bs tx := ⟨_, rfl⟩
  obtain ⟨eb, heb⟩ : ∃ x, x = w.heap.size := ⟨_, rfl⟩
  obtain ⟨wz, hwz⟩ : ∃ x, x = w.alloc (.cells #[.int .i64 ah, .slice aZ Z.length kZ] 56) := ⟨_, rfl⟩
  have hbz : Below w.heap.size w wz := by rw [hwz]; exact (Below.refl _ _).alloc (Nat.le_refl _) _
  have hsz : wz.heap.size = eb + 1 := by rw [hwz, heb]; simp
  have z0 : wz.cell? ⟨eb, 0, none⟩ = some (.int .i64 ah) := by rw [hwz, heb]; simp
  have z1 : wz.cell? ⟨eb, 1, none⟩ = some (.slice aZ Z.length kZ) := by rw [hwz, heb]; simp
  obtain ⟨w0, hw0⟩ : ∃ x, x = wz.alloc (.cells #[.string snm, .string stx, .int .i64 st, .int .i64 ln, .bool rp, .int .i64 fr, .int .i64 ev, .int .i64 ct, .int .i64 ti, .slice am mo.length km, .slice ad da.length kd, .slice aw we.length kw, .slice ap pk.length kp, .slice aM M.length kM, .slice aN N.length kN, .slice aC C.length kC, .slice aA A.length kA] 29) := ⟨_, rfl⟩
  have hb0 : Below wz.heap.size wz w0 := by rw [hw0]; exact (Below.refl _ _).alloc (Nat.le_refl _) _
  have ec := hw0 ▸ evC_new wz 29 snm stx st ln rp fr ev ct ti (.slice am mo.length km) (.slice ad da.length kd) (.slice aw we.length kw) (.slice ap pk.length kp) (.slice aM M.length kM) (.slice aN N.length kN) (.slice aC C.length kC) (.slice aA A.length kA)
  rw [hsz] at ec
  have z0 := cell_below hb0 z0; have z1 := cell_below hb0 z1
  have hbw : Below w.heap.size w w0 := hbz.trans (hb0.mono hbz.size)
  obtain ⟨F, hF⟩ : ∃ F, F = (evF nm tx st ln rp fr ev ct ti mo da we pk M N C A) := ⟨_, rfl⟩
  obtain ⟨ZF, hZF⟩ : ∃ F, F = zfault ah Z := ⟨_, rfl⟩
  obtain ⟨T, hT⟩ : ∃ T, T = ruleT rp st fr ev ct ti mo da we pk := ⟨_, rfl⟩
  have BF := Lib.hid (show BetG w0 (.agg #[.int .i64 ah, .slice aZ Z.length kZ]) (.agg #[.string snm, .string stx, .int .i64 st, .int .i64 ln, .bool rp, .int .i64 fr, .int .i64 ev, .int .i64 ct, .int .i64 ti, .slice am mo.length km, .slice ad da.length kd, .slice aw we.length kw, .slice ap pk.length kp, .slice aM M.length kM, .slice aN N.length kN, .slice aC C.length kC, .slice aA A.length kA]) F ZF ah ln Z T M N C by rw [hF, hZF, hT, hsnm, hstx]; exact betG_mk nm tx st ln rp fr ev ct ti _ _ _ _ _ _ _ _ mo da we pk M N C A ah _ Z w w0 hbw hw hR0 hZ hnm htx hcl)
  have NF := Lib.hid (show RngG w0 (.agg #[.int .i64 ah, .slice aZ Z.length kZ]) (.agg #[.string snm, .string stx, .int .i64 st, .int .i64 ln, .bool rp, .int .i64 fr, .int .i64 ev, .int .i64 ct, .int .i64 ti, .slice am mo.length km, .slice ad da.length kd, .slice aw we.length kw, .slice ap pk.length kp, .slice aM M.length kM, .slice aN N.length kN, .slice aC C.length kC, .slice aA A.length kA]) snm F ZF ah ln Z T M N C A by rw [hF, hZF, hT, hsnm, hstx]; exact rngG_mk nm tx st ln rp fr ev ct ti _ _ _ _ _ _ _ _ mo da we pk M N C A ah _ Z w w0 hbw hw hR0 hZ hnm htx hcl)
  have FF := Lib.hid (show F = 0 → EvFacts st ln rp fr ev ct ti mo da we pk M N C A from fun h => evF_facts (hF.symm.trans h))
  have HA := Lib.hid (show 0 < A.length → ∃ b off, aA = some ⟨b, off, none⟩ ∧ ∀ j (hj : j < A.length), w0.cell? ⟨b, off + j * 4, none⟩ = some (.int .i64 A[j].1) ∧ w0.cell? ⟨b, off + j * 4 + 1, none⟩ = some (.bool A[j].2.1) ∧ w0.cell? ⟨b, off + j * 4 + 2, none⟩ = some (.int .i64 A[j].2.2.1) ∧ w0.cell? ⟨b, off + j * 4 + 3, none⟩ = some (.int .i64 A[j].2.2.2) from fun hp => by
    obtain ⟨b, off, e1, e2⟩ := hdA hp
    exact ⟨b, off, e1, fun j hj => ⟨cell_below hbw (e2 j hj).1, cell_below hbw (e2 j hj).2.1, cell_below hbw (e2 j hj).2.2.1, cell_below hbw (e2 j hj).2.2.2⟩⟩)
  have ZE := Lib.hid hZF
  have HW := Lib.hid (hw.below hbw)
  have EC := Lib.hid ec; have BW := Lib.hid hbw; have WZ := Lib.hid hwz; have W0 := Lib.hid hw0; have EB := Lib.hid heb
  have Z0 := Lib.hid z0; have Z1 := Lib.hid z1
  rw [← hsnm, ← hstx]
  clear hR0 h1 h2 h3 h4 hM hN hC hA hw hZ hwz hbz hsz hw0 hb0 ec hbw heb hds hdA hF hZF hT hsnm hstx hnm htx hcl z0 z1
  go_enter Tryz.func8, Tryz.ntmps8
  go_upto_region 1 with fail
  rw [← WZ.out, ← W0.out]
  rw [← EB.out]
  go_cut [11] (fun s11 wx => ∃ ob vA1, s11 = .pointer (some ⟨ob, 0, none⟩) ∧ EvC wx ob { data := #[97] } { data := #[] } 66729179 60 false 0 0 0 0 (.slice none 0 0) (.slice none 0 0) (.slice none 0 0) (.slice none 0 0) (.slice none 0 0) (.slice none 0 0) (.slice none 0 0) vA1 ∧ AlmsR wx vA1 [(-10, false, 1, 3), (0, true, 0, 0)] ∧ Below w0.heap.size w0 wx)
  case first =>
    go_wp2
    go_meet
    exact aholds_lit w0
  case rest =>
  obtain ⟨ob, vA1, rfl, ec1, hA1, hb1⟩ := hcut
  obtain ⟨w1, rfl⟩ : ∃ x, x = wc := ⟨_, rfl⟩
  have B1 := Lib.hid hb1; have LC := Lib.hid (aholds_call vA1 w1 (HW.out.below hb1) hA1)
  obtain ⟨p1, q1, rfl, -, -, -⟩ := almsR_open hA1
  have EC1 := Lib.hid ec1
  clear hb1 hA1 ec1
  go_upto_region 2 with fail
  have k0 := EC1.out.k0; have k1 := EC1.out.k1; have k2 := EC1.out.k2; have k3 := EC1.out.k3; have k4 := EC1.out.k4; have k5 := EC1.out.k5; have k6 := EC1.out.k6; have k7 := EC1.out.k7; have k8 := EC1.out.k8; have k9 := EC1.out.k9; have k10 := EC1.out.k10; have k11 := EC1.out.k11; have k12 := EC1.out.k12; have k13 := EC1.out.k13; have k14 := EC1.out.k14; have k15 := EC1.out.k15; have k16 := EC1.out.k16
  go_cut [12, 13] (fun s12 s13 wx => (∃ b2 c2, s12 = .slice (some ⟨b2, 0, none⟩) 3 c2 ∧ wx.cell? ⟨b2, 0, none⟩ = some (.int .i64 66729169) ∧ wx.cell? ⟨b2, 9, none⟩ = some (.int .i64 1) ∧ wx.cell? ⟨b2, 10, none⟩ = some (.int .i64 66729239)) ∧ s13 = .nilIface ∧ Below w1.heap.size w1 wx)
  case first => as_aux_lemma =>
    go_wp2_with fail
    refine LC.out.mono ?_; rintro e w2 ⟨v2, rfl, hv2, hb2⟩
    rw [if_pos rfl] at hv2
    obtain ⟨va, vc, rfl, -, -, hcs⟩ := owns_cells hv2
    obtain ⟨g, rfl, -, hc⟩ := hcs (by decide)
    have C0 := Lib.hid (show w2.cell? ⟨g, 0, none⟩ = some (.int .i64 66729169) from hc 0 _ rfl)
    have C1 := Lib.hid (show w2.cell? ⟨g, 9, none⟩ = some (.int .i64 1) from hc 9 _ rfl)
    have C2 := Lib.hid (show w2.cell? ⟨g, 10, none⟩ = some (.int .i64 66729239) from hc 10 _ rfl)
    have B2 := Lib.hid hb2
    rw [errV_0]
    clear hcs hc hv2 hb2 k0 k1 k2 k3 k4 k5 k6 k7 k8 k9 k10 k11 k12 k13 k14 k15 k16
    go_wp2
    go_meet
    exact ⟨⟨_, _, rfl, C0.out, C1.out, C2.out⟩, rfl, B2.out⟩
  case rest =>
  obtain ⟨⟨b2, c2, rfl, hc0, hc1, hc2⟩, rfl, hb2⟩ := hcut
  obtain ⟨w2, rfl⟩ : ∃ x, x = wc := ⟨_, rfl⟩
  have B2 := Lib.hid (B1.out.trans (hb2.mono B1.out.size))
  clear hb2 k0 k1 k2 k3 k4 k5 k6 k7 k8 k9 k10 k11 k12 k13 k14 k15 k16 EC1 LC
  obtain ⟨R, hR⟩ : ∃ R, R = ringsL ah Z T M N C A ln a (b - 1) := ⟨_, rfl⟩
  obtain ⟨X, hX⟩ : ∃ X, X = ringE (betE F ZF a b) R.length := ⟨_, rfl⟩
  have LA := Lib.hid (show Calls Tryz.prog 33 _ w2 (RingsP snm X R w2) by have h := NF.out a b w2 B2.out; rw [← hR, ← hX] at h; exact h)
  have RE := Lib.hid hR; have XE := Lib.hid hX
  have E2 := Lib.hid (EC.out.below B2.out)
  have z0 := cell_below B2.out Z0.out; have z1 := cell_below B2.out Z1.out
  clear hR hX
  go_upto_region 5 with fail
  clear hc0 hc1 hc2
  have k0 := E2.out.k0; have k1 := E2.out.k1; have k2 := E2.out.k2; have k3 := E2.out.k3; have k4 := E2.out.k4; have k5 := E2.out.k5; have k6 := E2.out.k6; have k7 := E2.out.k7; have k8 := E2.out.k8; have k9 := E2.out.k9; have k10 := E2.out.k10; have k11 := E2.out.k11; have k12 := E2.out.k12; have k13 := E2.out.k13; have k14 := E2.out.k14; have k15 := E2.out.k15; have k16 := E2.out.k16
  go_cut [14, 15] (fun s14 s15 wx => ∃ v, s14 = v ∧ s15 = errV X ∧ OwnR snm w2.heap.size wx v (if X = 0 then R else []) ∧ Below w2.heap.size w2 wx)
  case first => as_aux_lemma =>
    go_wp2_with fail
    refine LA.out.mono ?_; rintro e w3 ⟨v, rfl, hv, hb⟩
    have HV := Lib.hid hv; have HB := Lib.hid hb
    clear hv hb z0 z1 k0 k1 k2 k3 k4 k5 k6 k7 k8 k9 k10 k11 k12 k13 k14 k15 k16
    go_wp2
    go_meet
    exact ⟨_, rfl, rfl, HV.out, HB.out⟩
  case rest =>
  obtain ⟨v, rfl, rfl, hv, hb3⟩ := hcut
  obtain ⟨w3, rfl⟩ : ∃ x, x = wc := ⟨_, rfl⟩
  have B3 := Lib.hid (B2.out.trans (hb3.mono B2.out.size))
  clear hb3 z0 z1 k0 k1 k2 k3 k4 k5 k6 k7 k8 k9 k10 k11 k12 k13 k14 k15 k16 E2 LA
  by_cases h0 : X ≠ 0
  · have E := Lib.hid (show errV X = .iface 119 (.int .i64 X) by rw [errV, if_neg h0])
    rw [E.out]
    clear h0 hv
    go_wp2
    go_ret
    exact ⟨rfl, BW.out.trans (B3.out.mono BW.out.size)⟩
  obtain rfl : X = 0 := by omega
  rw [errV_0]
  rw [if_pos rfl] at hv
  obtain ⟨f0, f1, tf⟩ := rng_facts FF.out RE.out (by rw [← ZE.out]; exact XE.out)
  have F0 := Lib.hid f0; have ZF0 := Lib.hid (ZE.out.trans f1); have TF := Lib.hid tf
  have V3 := Lib.hid hv
  obtain ⟨va, vc, rfl, -, hm, hds⟩ := rngsR_open hv.rngs
  unfold maxLen at hm
  have HD := Lib.hid hds
  obtain ⟨n, hn⟩ : ∃ n, n = R.length := ⟨_, rfl⟩
  have n2 : n ≤ 400 := by rw [hn]; exact tf.len
  rw [← hn]
  have NE := Lib.hid hn
  have E3 := Lib.hid (EC.out.below B3.out)
  clear hv hds h0 f0 f1 tf XE hn
  go_upto_block 0 with fail
  go_cut [16] (fun s16 wx => Below w3.heap.size w3 wx)
  case first => as_aux_lemma =>
    go_wp2_with fail
    go_loopg [16] n (fun g iv wr => ∃ k : Nat, k ≤ n ∧ iv = .int .i64 k ∧ g = n - k ∧ Below w3.heap.size w3 wr)
    case atStart => exact ⟨0, Nat.zero_le _, rfl, rfl, Below.refl _ _⟩
    case round => as_aux_lemma =>
      obtain ⟨k, hk, rfl, hg, hb⟩ := hrel
      have G := Lib.hid hg
      have BR := Lib.hid hb
      clear hg
      by_cases hlt : k < n
      · have k1 : k < R.length := by rw [← NE.out]; exact hlt
        obtain ⟨g3, go3, rfl, hcs⟩ := HD.out (by omega)
        obtain ⟨q0, q1, q2, q3, q4⟩ := hcs k k1
        have q0 := cell_below hb q0; have q1 := cell_below hb q1; have q2 := cell_below hb q2; have q3 := cell_below hb q3; have q4 := cell_below hb q4
        obtain ⟨x, hx⟩ : ∃ x, x = R[k] := ⟨_, rfl⟩
        rw [← hx] at q0 q2 q3 q4
        have hxm : x ∈ R := by rw [hx]; exact List.getElem_mem _
        have XA := Lib.hid (show a ≤ x.1 ∧ x.1 < b from ⟨TF.out.lo x hxm, TF.out.hi x hxm⟩)
        obtain ⟨f, j, kk, hj, f1, f2, f3, f4, f5, f6⟩ := TF.out.of x hxm
        have XK := Lib.hid hx
        have LB := Lib.hid TF.out.lnb
        have aok := alm_ok (TF.out.alm A[j] (List.getElem_mem hj))
        have lA := TF.out.lenA
        obtain ⟨ab0, aof, rfl, has⟩ := HA.out (by omega)
        have hbz := B3.out.trans (hb.mono B3.out.size)
        have HS := Lib.hid (show _ ∧ _ ∧ _ ∧ _ from has j hj)
        obtain ⟨x1, wh, ix, tn⟩ := x
        simp only at q0 q1 q2 q3 q4 XA f3 f4 f5 f6
        obtain ⟨al, hal⟩ : ∃ x, x = A[j] := ⟨_, rfl⟩
        rw [← hal] at f2 f3 aok HS
        obtain ⟨af, ae, ar, ab⟩ := al
        simp only at f2 f3 aok HS
        subst f4
        subst f5
        obtain ⟨mb, hmb⟩ : ∃ z, z = (kk : Int) * ab := ⟨_, rfl⟩
        have mb0 : 0 ≤ mb := by rw [hmb]; exact Int.mul_nonneg (by omega) (by omega)
        have mb1 : mb ≤ 50000 := by
          rw [hmb]
          exact Int.le_trans (Int.mul_le_mul (show (kk : Int) ≤ 5 by omega) aok.2.2.2.2.2.1 (by omega) (by omega)) (by omega)
        have fb := timeB_yes f1
        rw [← hmb] at f3
        have lb := LB.out
        have AT := Lib.hid (show x1 = (if ae = true then f + ln + af else f + af) + mb by rw [f3, almAt])
        have xb : -1000000 ≤ x1 ∧ x1 ≤ 200000000 := by
          have := AT.out
          cases ae
          · rw [if_neg (by simp)] at this; omega
          · rw [if_pos rfl] at this; omega
        have MBE := Lib.hid hmb
        have K2 := Lib.hid f2
        have IN := Lib.hid f6
        have ER := Lib.hid (E3.out.below hb)
        obtain ⟨wt, hwt⟩ : ∃ z, z = wr.alloc (.cells #[.int .i64 x1, .string snm, .int .i64 wh, .int .i64 (j : Int), .int .i64 (kk : Int)] 73) := ⟨_, rfl⟩
        obtain ⟨rb, hrb⟩ : ∃ z, z = wr.heap.size := ⟨_, rfl⟩
        have CR := Lib.hid (show wt.cell? ⟨rb, 0, none⟩ = some (.int .i64 x1) ∧ wt.cell? ⟨rb, 1, none⟩ = some (.string snm) ∧ wt.cell? ⟨rb, 2, none⟩ = some (.int .i64 wh) ∧ wt.cell? ⟨rb, 3, none⟩ = some (.int .i64 (j : Int)) ∧ wt.cell? ⟨rb, 4, none⟩ = some (.int .i64 (kk : Int)) by rw [hwt, hrb]; exact ⟨by simp, by simp, by simp, by simp, by simp⟩)
        have hbt : Below wr.heap.size wr wt := by rw [hwt]; exact (Below.refl _ _).alloc (Nat.le_refl _) _
        have BT := Lib.hid (BR.out.trans (hbt.mono BR.out.size))
        have ET := Lib.hid (ER.out.below hbt)
        have WT := Lib.hid hwt; have RB := Lib.hid hrb
        have i0 : (0 : Int) ≤ (k : Int) := Int.natCast_nonneg _
        have i2 : (k : Int) < (n : Int) := by omega
        have j0 : (0 : Int) ≤ (j : Int) := Int.natCast_nonneg _
        have j2 : (j : Int) < (A.length : Int) := by omega
        clear hx hxm hal f1 f2 f3 f6 hmb hwt hrb hb hbz hbt has
        go_upto_region 12 with fail
        rw [← WT.out]
        rw [← RB.out]
        clear q0 q1 q2 q3 q4
        obtain ⟨r0, r1, r2, r3, r4⟩ := CR.out
        have k0 := ET.out.k0
        have k16 := ET.out.k16
        go_cut [130] (fun s130 wx => s130 = .bool false ∧ Below wt.heap.size wt wx)
        case first => as_aux_lemma =>
          have d1 : decide ((j : Int) < 0) = false := decide_eq_false (by omega)
          have d1b : decide ((A.length : Int) ≤ (j : Int)) = false := decide_eq_false (by omega)
          have d1c : decide (A.length ≤ j) = false := decide_eq_false (by omega)
          have d2 : decide (x1 < a) = false := decide_eq_false (by have := XA.out; omega)
          have d3 : decide (b ≤ x1) = false := decide_eq_false (by have := XA.out; omega)
          by_cases kp : 0 < k
          · obtain ⟨g5, go5, e5, hcs5⟩ := HD.out (by omega)
            cases e5
            have p0 := cell_below BT.out (hcs5 (k - 1) (by omega)).1
            have p1 := cell_below BT.out (hcs5 (k - 1) (by omega)).2.1
            have p2 := cell_below BT.out (hcs5 (k - 1) (by omega)).2.2.1
            have p3 := cell_below BT.out (hcs5 (k - 1) (by omega)).2.2.2.1
            have p4 := cell_below BT.out (hcs5 (k - 1) (by omega)).2.2.2.2
            obtain ⟨p, hp⟩ : ∃ p, p = R[k - 1] := ⟨_, rfl⟩
            rw [← hp] at p0 p2 p3 p4
            have hup := TF.out.up (k - 1) (by omega)
            rw [← hp] at hup
            have h5 : R[k - 1 + 1] = (x1, wh, (j : Int), (kk : Int)) := by rw [XK.out]; congr 1; omega
            rw [h5] at hup
            obtain ⟨y1, y2, y3, y4⟩ := p
            simp only at p0 p2 p3 p4
            obtain ⟨oc, hoc⟩ : ∃ z, z = ringC (y1, y2, y3, y4) (x1, wh, (j : Int), (kk : Int)) := ⟨_, rfl⟩
            have OC := Lib.hid (show ∀ wx, Calls Tryz.prog 34 #[.agg #[.int .i64 y1, .string snm, .int .i64 y2, .int .i64 y3, .int .i64 y4], .agg #[.int .i64 x1, .string snm, .int .i64 wh, .int .i64 (j : Int), .int .i64 (kk : Int)]] wx fun e w' => e = .returned (.int .i64 oc) ∧ ∃ q os, w' = grow (wx.drewN q) os from fun wx => by rw [hoc]; exact ringC_any snm (y1, y2, y3, y4) (x1, wh, (j : Int), (kk : Int)) wx)
            have d6 : decide (0 ≤ oc) = false := decide_eq_false (by have := (ringC_lt _ _).2 hup; omega)
            have d4 : decide (0 < k) = true := decide_eq_true kp
            have d5 : decide ((0 : Int) < (k : Int)) = true := decide_eq_true (by omega)
            have s1 : IntKind.i64.wrap ((k : Int) - 1) = (k : Int) - 1 := IntWalk.i64_in _ (by omega)
            have s2 : (0 : Int) ≤ (k : Int) - 1 := by omega
            have s3 : (1 : Int) ≤ (k : Int) := by omega
            have s4 : ((k : Int) - 1).toNat = k - 1 := by omega
            have s5 : (k : Int) - 1 < (n : Int) := by omega
            clear hp hup hcs5 h5 kp hoc
            refine wp_region_still_tail 40 (by kernel_rfl) (by kernel_rfl) ?_
            simp only [List.append_eq, List.cons_append, List.nil_append, List.take_succ_cons, List.take_zero, List.drop_succ_cons, List.drop_zero]
            repeat still_step
            refine wpStill_nil ?_
            change wpList _ _ _ _ _ wt.drew
            go_wp2_with fail
            refine (OC.out _).mono ?_; rintro e w5 ⟨rfl, q, os, rfl⟩
            go_wp2
            go_meet
            exact ⟨by first | rfl | simp, below_grow (below_drewN (Below.refl _ _) _) (by exact Nat.le_refl _) _⟩
          · have d4 : decide (0 < k) = false := decide_eq_false kp
            have d5 : decide ((0 : Int) < (k : Int)) = false := decide_eq_false (by omega)
            clear kp
            go_quiet (fail)
            go_wp2
            go_meet
            exact ⟨by first | rfl | simp, below_drewN (Below.refl _ _) _⟩
        case rest =>
        obtain ⟨rfl, hbx⟩ := hcut
        obtain ⟨w5, rfl⟩ : ∃ z, z = wc := ⟨_, rfl⟩
        have B5 := Lib.hid (BT.out.trans (hbx.mono BT.out.size))
        have E5 := Lib.hid (ET.out.below hbx)
        have r0 := cell_below hbx r0; have r2 := cell_below hbx r2; have r3 := cell_below hbx r3; have r4 := cell_below hbx r4
        have C5 := Lib.hid (⟨r0, r2, r4⟩ : _ ∧ _ ∧ _)
        obtain ⟨g0, g1, g2, g3c⟩ := HS.out
        have hb35 := B3.out.trans (B5.out.mono B3.out.size)
        have g0 := cell_below hb35 g0; have g1 := cell_below hb35 g1; have g2 := cell_below hb35 g2; have g3c := cell_below hb35 g3c
        have k16 := E5.out.k16
        obtain ⟨wa, hwa⟩ : ∃ z, z = w5.alloc (.cells #[.int .i64 af, .bool ae, .int .i64 ar, .int .i64 ab] 31) := ⟨_, rfl⟩
        obtain ⟨ag, hag⟩ : ∃ z, z = w5.heap.size := ⟨_, rfl⟩
        have hba : Below w5.heap.size w5 wa := by rw [hwa]; exact (Below.refl _ _).alloc (Nat.le_refl _) _
        have CA := Lib.hid (show wa.cell? ⟨ag, 0, none⟩ = some (.int .i64 af) ∧ wa.cell? ⟨ag, 1, none⟩ = some (.bool ae) ∧ wa.cell? ⟨ag, 2, none⟩ = some (.int .i64 ar) ∧ wa.cell? ⟨ag, 3, none⟩ = some (.int .i64 ab) by rw [hwa, hag]; exact ⟨by simp, by simp, by simp, by simp⟩)
        have WA := Lib.hid hwa; have AG := Lib.hid hag
        have BA := Lib.hid (B5.out.trans (hba.mono B5.out.size))
        have EA := Lib.hid (E5.out.below hba)
        have R0 := Lib.hid (cell_below hba C5.out.1); have R2 := Lib.hid (cell_below hba C5.out.2.1); have R4 := Lib.hid (cell_below hba C5.out.2.2)
        clear hbx hb35 hwa hag hba r1 k0
        go_upto_region 15 with fail
        rw [← WA.out]
        rw [← AG.out]
        clear g0 g1 g2 g3c k16 r0 r2 r3 r4
        obtain ⟨a0, a1, a2, a3⟩ := CA.out
        have r0 := R0.out; have r4 := R4.out
        have d1 : decide ((kk : Int) < 0) = false := decide_eq_false (by omega)
        have d2 : decide (ar < (kk : Int)) = false := decide_eq_false (by have := K2.out; omega)
        have s1 : IntKind.i64.wrap ((kk : Int) * ab) = mb := by rw [← MBE.out]; exact IntWalk.i64_in _ (by omega)
        have s2 : IntKind.i64.wrap (x1 - af) = x1 - af := IntWalk.i64_in _ (by omega)
        obtain ⟨g0, hg0⟩ : ∃ z, z = x1 - af - mb := ⟨_, rfl⟩
        have s3 : IntKind.i64.wrap (x1 - af - mb) = g0 := by rw [hg0]; exact IntWalk.i64_in _ (by omega)
        have at1 := AT.out
        have G0 : (ae = false → g0 = f) ∧ (ae = true → IntKind.i64.wrap (g0 - ln) = f) := by
          refine ⟨fun h => ?_, fun h => ?_⟩
          · rw [if_neg (by rw [h]; simp)] at at1; omega
          · rw [if_pos h] at at1
            rw [show g0 - ln = f by omega]; exact IntWalk.i64_in _ (by omega)
        obtain ⟨G1, G2⟩ := G0
        have GG1 := Lib.hid G1; have GG2 := Lib.hid G2
        have k3 := EA.out.k3
        clear hg0 at1 G1 G2
        have d3 : decide (f < 1) = false := decide_eq_false (by omega)
        cases ae
        all_goals
          as_aux_lemma =>
            first
              | (have e0 := (GG1.out rfl).symm; subst e0)
              | have s4 := GG2.out rfl
            go_upto_region 20 with fail
            clear a0 a1 a2 a3 r0 r4 k3 d1 d2 s1
            by_cases h5 : 5 < k
            · have d4 : decide ((5 : Int) < (k : Int)) = true := decide_eq_true (by omega)
              have d4b : decide (5 < k) = true := decide_eq_true h5
              go_wp2
              go_roundg (n - (k + 1))
              case measure => rw [G.out]; omega
              case rel => exact ⟨k + 1, by omega, by go_num, rfl, BA.out⟩
            have d4 : decide ((5 : Int) < (k : Int)) = false := decide_eq_false (by omega)
            have d4b : decide (5 < k) = false := decide_eq_false h5
            have s5 : IntKind.i64.wrap (f + 1) = f + 1 := IntWalk.i64_in _ (by omega)
            obtain ⟨L, hL⟩ : ∃ L, L = tmsOf ah Z T M N C ln f (f + 1) := ⟨_, rfl⟩
            obtain ⟨X2, hX2⟩ : ∃ X, X = fullN (betE F ZF f (f + 1)) L.length := ⟨_, rfl⟩
            have BA0 := Lib.hid (B3.out.trans (BA.out.mono B3.out.size))
            have LC2 := Lib.hid (show Calls Tryz.prog 28 _ wa (BetP ln X2 L wa) by have h := BF.out f (f + 1) wa BA0.out; rw [← hL, ← hX2] at h; exact h)
            have INL := Lib.hid (show (wh, f) ∈ L by rw [hL]; exact IN.out)
            have EB2 := Lib.hid (EC.out.below BA0.out)
            have z0 := cell_below BA0.out Z0.out; have z1 := cell_below BA0.out Z1.out
            clear hL hX2
            go_upto_region 21 with fail
            clear d3 d4 d4b
            have k0 := EB2.out.k0; have k1 := EB2.out.k1; have k2 := EB2.out.k2; have k3 := EB2.out.k3; have k4 := EB2.out.k4; have k5 := EB2.out.k5; have k6 := EB2.out.k6; have k7 := EB2.out.k7; have k8 := EB2.out.k8; have k9 := EB2.out.k9; have k10 := EB2.out.k10; have k11 := EB2.out.k11; have k12 := EB2.out.k12; have k13 := EB2.out.k13; have k14 := EB2.out.k14; have k15 := EB2.out.k15; have k16 := EB2.out.k16
            go_cut [20, 21] (fun s20 s21 wx => ∃ v, s20 = v ∧ s21 = errV X2 ∧ OwnT ln wa.heap.size wx v (if X2 = 0 then L else []) ∧ Below wa.heap.size wa wx)
            case first => as_aux_lemma =>
              go_wp2_with fail
              refine LC2.out.mono ?_; rintro e w6 ⟨v, rfl, hv, hb⟩
              have HV := Lib.hid hv; have HB := Lib.hid hb
              clear hv hb z0 z1 k0 k1 k2 k3 k4 k5 k6 k7 k8 k9 k10 k11 k12 k13 k14 k15 k16
              go_wp2
              go_meet
              exact ⟨_, rfl, rfl, HV.out, HB.out⟩
            case rest =>
            obtain ⟨v6, rfl, rfl, hv6, hb6⟩ := hcut
            obtain ⟨w6, rfl⟩ : ∃ z, z = wc := ⟨_, rfl⟩
            clear s5 z0 z1 k0 k1 k2 k3 k4 k5 k6 k7 k8 k9 k10 k11 k12 k13 k14 k15 k16 LC2
            obtain ⟨Q, hQ⟩ : ∃ Q, Q = if X2 = 0 then L else [] := ⟨_, rfl⟩
            rw [← hQ] at hv6
            obtain ⟨qa, qc, rfl, hq1, hqm, hqs⟩ := tmsR_open hv6.tms
            unfold maxLen at hqm
            have HQ := Lib.hid hqs
            have QE := Lib.hid (show X2 = 0 → (Q.any fun t => t.1 == wh) = true from fun h => by
              rw [hQ, if_pos h]
              exact List.any_eq_true.2 ⟨_, INL.out, by simp⟩)
            have B6 := Lib.hid (BA.out.trans (hb6.mono BA.out.size))
            have R26 := Lib.hid (cell_below hb6 R2.out)
            clear hv6 hb6 hQ hqs
            obtain ⟨m0, hm0⟩ : ∃ z, z = Q.length := ⟨_, rfl⟩
            rw [← hm0]
            have M0 := Lib.hid hm0
            have m0b : m0 ≤ 9223372036854775807 := by omega
            clear hm0 hq1
            go_wp2_with fail
            go_loopg [22, 23] m0 (fun g fv iv wy => ∃ m : Nat, m ≤ m0 ∧ iv = .int .i64 m ∧ fv = .bool ((Q.take m).any fun t => t.1 == wh) ∧ g = m0 - m ∧ Below w6.heap.size w6 wy)
            case atStart => exact ⟨0, Nat.zero_le _, rfl, by simp, rfl, Below.refl _ _⟩
            case round =>
              obtain ⟨m, hm, rfl, rfl, hg2, hb⟩ := hrel
              obtain ⟨wy, rfl⟩ : ∃ z, z = wr := ⟨_, rfl⟩
              have G2 := Lib.hid hg2
              have BY := Lib.hid hb
              clear hg2
              by_cases hlt2 : m < m0
              · have m1 : m < Q.length := by rw [← M0.out]; exact hlt2
                obtain ⟨gq, goq, rfl, hcq⟩ := HQ.out (by omega)
                have c0 := cell_below hb (hcq m m1).1
                obtain ⟨t1, ht1⟩ : ∃ z, z = Q[m].1 := ⟨_, rfl⟩
                rw [← ht1] at c0
                have AY := Lib.hid (show ((Q.take (m + 1)).any fun t => t.1 == wh) = (((Q.take m).any fun t => t.1 == wh) || (t1 == wh)) by rw [any_take m1, ← ht1])
                obtain ⟨fd, hfd⟩ : ∃ z, z = ((Q.take m).any fun t => t.1 == wh) := ⟨_, rfl⟩
                rw [← hfd]
                rw [← hfd] at AY
                have r2 := cell_below hb R26.out
                have i4 : (0 : Int) ≤ (m : Int) := Int.natCast_nonneg _
                have i5 : (m : Int) < (m0 : Int) := by omega
                clear ht1 hfd hcq hb
                go_upto_region 26 with fail
                cases fd
                · go_quiet (fail)
                  go_wp2
                  go_roundg (m0 - (m + 1))
                  case measure => rw [G2.out]; omega
                  case rel => exact ⟨m + 1, by omega, by go_num, by rw [AY.out]; first | rfl | simp, rfl, below_drewN BY.out _⟩
                · go_quiet (fail)
                  go_wp2
                  go_roundg (m0 - (m + 1))
                  case measure => rw [G2.out]; omega
                  case rel => exact ⟨m + 1, by omega, by go_num, by rw [AY.out]; first | rfl | simp, rfl, below_drewN BY.out _⟩
              · obtain rfl : m = m0 := by omega
                have i5 : ¬ (m : Int) < (m : Int) := by omega
                have TK := Lib.hid (show ((Q.take m).any fun t => t.1 == wh) = Q.any fun t => t.1 == wh by rw [M0.out, List.take_length])
                clear hb
                obtain ⟨fd, hfd⟩ : ∃ z, z = ((Q.take m).any fun t => t.1 == wh) := ⟨_, rfl⟩
                rw [← hfd]
                by_cases h2 : X2 = 0
                · have hfd2 : fd = true := by rw [hfd, TK.out]; exact QE.out h2
                  subst hfd2
                  subst h2
                  rw [errV_0]
                  clear hfd
                  go_wp2
                  go_roundg (n - (k + 1))
                  case measure => rw [G.out]; omega
                  case rel => exact ⟨k + 1, by omega, by go_num, rfl, B6.out.trans (BY.out.mono B6.out.size)⟩
                · have E := Lib.hid (show errV X2 = .iface 119 (.int .i64 X2) by rw [errV, if_neg h2])
                  rw [E.out]
                  clear hfd h2
                  go_wp2
                  go_roundg (n - (k + 1))
                  case measure => rw [G.out]; omega
                  case rel => exact ⟨k + 1, by omega, by go_num, rfl, B6.out.trans (BY.out.mono B6.out.size)⟩
      · obtain rfl : k = n := by omega
        have i2 : ¬ (k : Int) < (k : Int) := by omega
        clear hb
        go_wp2
        go_meet
        exact BR.out
  case rest =>
  obtain ⟨w5, rfl⟩ : ∃ z, z = wc := ⟨_, rfl⟩
  have B35 := Lib.hid hcut
  have B5 := Lib.hid (B3.out.trans (hcut.mono B3.out.size))
  have E5 := Lib.hid (EC.out.below B5.out)
  have V5 := Lib.hid (V3.out.rngs.below B35.out)
  have z0 := cell_below B5.out Z0.out; have z1 := cell_below B5.out Z1.out
  clear hcut E3 HD V3
  by_cases g1 : c < a
  · have d1 : decide (c < a) = true := decide_eq_true g1
    clear g1
    go_wp2
    go_ret
    exact ⟨rfl, BW.out.trans (B5.out.mono BW.out.size)⟩
  have d1 : decide (c < a) = false := decide_eq_false g1
  by_cases g2 : b < c
  · have d2 : decide (b < c) = true := decide_eq_true g2
    clear g1 g2
    go_wp2
    go_ret
    exact ⟨rfl, BW.out.trans (B5.out.mono BW.out.size)⟩
  have d2 : decide (b < c) = false := decide_eq_false g2
  by_cases g3 : c < 1
  · have d3 : decide (c < 1) = true := decide_eq_true g3
    clear g1 g2 g3
    go_wp2
    go_ret
    exact ⟨rfl, BW.out.trans (B5.out.mono BW.out.size)⟩
  have d3 : decide (c < 1) = false := decide_eq_false g3
  have hsp := TF.out.split c (by omega) (by omega)
  have tc := timeB_mid TF.out.ta TF.out.tb (show a ≤ c by omega) (show c ≤ b by omega)
  have hsn := TF.out.span
  have hln := TF.out.len
  obtain ⟨R1, hR1⟩ : ∃ z, z = ringsL ah Z T M N C A ln a (c - 1) := ⟨_, rfl⟩
  obtain ⟨R2, hR2⟩ : ∃ z, z = ringsL ah Z T M N C A ln c (b - 1) := ⟨_, rfl⟩
  rw [← hR1, ← hR2] at hsp
  have hl2 := congrArg List.length hsp
  rw [List.length_append] at hl2
  have L1 := Lib.hid (show Calls Tryz.prog 33 _ w5 (RingsP snm 0 R1 w5) by
    have h := NF.out a c w5 B5.out
    rw [← hR1, F0.out, ZF0.out, betE_mk TF.out.ta tc (by omega) (by omega), ringE_mk (by omega)] at h; exact h)
  have L2 := Lib.hid (show ∀ wx, Below w5.heap.size w5 wx → Calls Tryz.prog 33 _ wx (RingsP snm 0 R2 wx) from fun wx hbx => by
    have h := NF.out c b wx (B5.out.trans (hbx.mono B5.out.size))
    rw [← hR2, F0.out, ZF0.out, betE_mk tc TF.out.tb (by omega) (by omega), ringE_mk (by omega)] at h; exact h)
  have SP := Lib.hid hsp
  have rl1 : R1.length ≤ 400 := by omega
  have rl2 : R2.length ≤ 400 := by omega
  clear g1 g2 g3 hsp hR1 hR2 hsn hln hl2 tc
  go_upto_region 31 with fail
  clear d1 d2 d3
  have k0 := E5.out.k0; have k1 := E5.out.k1; have k2 := E5.out.k2; have k3 := E5.out.k3; have k4 := E5.out.k4; have k5 := E5.out.k5; have k6 := E5.out.k6; have k7 := E5.out.k7; have k8 := E5.out.k8; have k9 := E5.out.k9; have k10 := E5.out.k10; have k11 := E5.out.k11; have k12 := E5.out.k12; have k13 := E5.out.k13; have k14 := E5.out.k14; have k15 := E5.out.k15; have k16 := E5.out.k16
  go_cut [24, 25] (fun s24 s25 wx => s25 = .nilIface ∧ OwnR snm w5.heap.size wx s24 R1 ∧ Below w5.heap.size w5 wx)
  case first => as_aux_lemma =>
    go_wp2_with fail
    refine L1.out.mono ?_; rintro e w6 ⟨v, rfl, hv, hb⟩
    rw [if_pos rfl] at hv
    rw [errV_0]
    have HV6 := Lib.hid hv; have HB := Lib.hid hb
    clear hv hb z0 z1 k0 k1 k2 k3 k4 k5 k6 k7 k8 k9 k10 k11 k12 k13 k14 k15 k16
    go_wp2
    go_meet
    exact ⟨rfl, HV6.out, HB.out⟩
  case rest =>
  clear k0 k1 k2 k3 k4 k5 k6 k7 k8 k9 k10 k11 k12 k13 k14 k15 k16
  obtain ⟨rfl, hv1, hb6⟩ := hcut
  obtain ⟨w6, rfl⟩ : ∃ z, z = wc := ⟨_, rfl⟩
  have E6 := Lib.hid (E5.out.below hb6)
  have z0 := cell_below hb6 z0; have z1 := cell_below hb6 z1
  have B6 := Lib.hid hb6; have O1 := Lib.hid hv1
  have LL2 := Lib.hid (L2.out w6 hb6)
  clear hb6 hv1
  have k0 := E6.out.k0; have k1 := E6.out.k1; have k2 := E6.out.k2; have k3 := E6.out.k3; have k4 := E6.out.k4; have k5 := E6.out.k5; have k6 := E6.out.k6; have k7 := E6.out.k7; have k8 := E6.out.k8; have k9 := E6.out.k9; have k10 := E6.out.k10; have k11 := E6.out.k11; have k12 := E6.out.k12; have k13 := E6.out.k13; have k14 := E6.out.k14; have k15 := E6.out.k15; have k16 := E6.out.k16
  go_upto_region 32 with fail
  go_cut [26, 27] (fun s26 s27 wx => s27 = .nilIface ∧ OwnR snm w6.heap.size wx s26 R2 ∧ Below w6.heap.size w6 wx)
  case first => as_aux_lemma =>
    go_wp2_with fail
    refine LL2.out.mono ?_; rintro e w7 ⟨v, rfl, hv, hb⟩
    rw [if_pos rfl] at hv
    rw [errV_0]
    have HV7 := Lib.hid hv; have HB := Lib.hid hb
    clear hv hb z0 z1 k0 k1 k2 k3 k4 k5 k6 k7 k8 k9 k10 k11 k12 k13 k14 k15 k16
    go_wp2
    go_meet
    exact ⟨rfl, HV7.out, HB.out⟩
  case rest =>
  clear z0 z1 k0 k1 k2 k3 k4 k5 k6 k7 k8 k9 k10 k11 k12 k13 k14 k15 k16
  obtain ⟨rfl, hv2, hb7⟩ := hcut
  obtain ⟨w7, rfl⟩ : ∃ z, z = wc := ⟨_, rfl⟩
  have O7 := Lib.hid (own_kept O1.out hb7)
  have B7 := Lib.hid (B6.out.trans (hb7.mono B6.out.size))
  have V7 := Lib.hid hv2.rngs
  clear hb7 hv2
  obtain ⟨it, hit, ht0, ht1, ht2⟩ := info_parts ringInfo
  go_wp2_with (at_builtin; refine wpList_append_row rfl _ _ 69 rfl 73 it _ 5 48 Tryz.underlying69 hit ht0 ht1 ht2 rfl (by decide) w5.heap.size _ _ R1.length R2.length (R1.flatMap (encR snm)) (R2.flatMap (encR snm)) rfl rfl O7.out V7.out (fun u hu => by obtain ⟨x, -, hx⟩ := List.mem_flatMap.1 hu; simp [encR] at hx; rcases hx with rfl | rfl | rfl | rfl | rfl <;> rfl) B7.out.size (by omega) (by unfold maxLen; omega) ?_)
  intro v8 w8 hown8 hb8
  have O8 := Lib.hid (show RngsR snm w8 v8 R by rw [← SP.out]; have := ownsRow_reads hown8; unfold RngsR; rw [List.length_append, List.flatMap_append]; exact this)
  have B8 := Lib.hid (B7.out.trans hb8)
  have VV := Lib.hid (show RngsR snm w8 (.slice va n vc) R by rw [NE.out]; exact V5.out.below B8.out)
  clear hown8 hb8
  go_wp2_with fail
  refine (rings_same snm _ _ R _ O8.out VV.out).mono ?_; rintro e w9 ⟨rfl, hb9⟩
  have B9 := Lib.hid (B8.out.trans (hb9.mono B8.out.size))
  clear hb9
  go_wp2
  go_ret
  exact ⟨rfl, BW.out.trans ((B5.out.trans (B9.out.mono B5.out.size)).mono BW.out.size)⟩

end Go.Proofs.YtkpmddlinlcobaaGreatDoor
