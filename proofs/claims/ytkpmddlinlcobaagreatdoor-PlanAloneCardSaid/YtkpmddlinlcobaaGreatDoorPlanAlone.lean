/- The law PlanAlone: one alone does not clash; two that are the same do, if they take any time: the walk. -/
import Derived.Test.YtkpmddlinlcobaaGreatDoorPlanC
import Derived.Test.YtkpmddlinlcobaaGreatDoorQ14
import Derived.Test.YtkpmddlinlcobaaGreatDoorPlanE
namespace Go.Proofs.YtkpmddlinlcobaaGreatDoor
open Go.RowKit Go.Shelf
set_option linter.unusedSimpArgs false
set_option linter.unusedVariables false

def oneEv : Ev := ⟨[97], [], 700, 10, false, 0, 0, 0, 0, .slice none 0 0, .slice none 0 0, .slice none 0 0, .slice none 0 0, .slice none 0 0, .slice none 0 0, .slice none 0 0, .slice none 0 0, [], [], [], [], [], [], [], []⟩

theorem oneEv_rd (w : World) : oneEv.Rd w := ⟨⟨intsR_nil _, intsR_nil _, reads_nil _ _, intsR_nil _, intsR_nil _, intsR_nil _, reads_nil _ _, reads_nil _ _⟩, by decide, by decide, by decide⟩

theorem palone_fact : oneEv.F = 0 := by decide +kernel

theorem palone_times : oneEv.times 0 [] 1 2000 = [(700, 700)] :=
  show tmsOf 0 [] [700] [] [] [] 10 1 2000 = [(700, 700)] from tmsOf_one (mayZ_nil (by decide)) (by simp) (oneT_nil.2 ⟨rfl, rfl, by decide, by decide, by decide⟩) (by decide) (by decide)

theorem palone_err : oneEv.err 0 [] 1 2000 = 0 := by
  rw [Ev.err, palone_times, palone_fact]
  decide

theorem palone_call (w : World) (cs : Array Value) (hcs : cs.toList = oneEv.cells ++ oneEv.cells) (hw : Months w) : Calls Tryz.prog 38 #[.agg #[.int .i64 0, .slice none 0 0], .slice (some ⟨w.heap.size, 0, none⟩) 2 2, .int .i64 1, .int .i64 2000] (w.alloc (.cells cs 29))
      (ClaP 0 [(0, 1)] (w.alloc (.cells cs 29))) := by
  have h := clashes_any 0 (.slice none 0 0) [] _ [oneEv, oneEv] 1 2000 (w.alloc (.cells cs 29)) (hw.below ((Below.refl _ _).alloc (Nat.le_refl _) _)) (evs_new2 (w := w) (t := 29) [oneEv, oneEv] cs (by rw [hcs]; simp) (fun e he => by simp at he; subst he; exact oneEv_rd w) (by decide)) (reads_nil _ _)
  have e1 : oneEv.ln = 10 := rfl
  simp only [List.map_cons, List.map_nil, palone_err, palone_times, e1, List.length_cons, List.length_nil] at h
  rw [show clU [((10 : Int), [((700 : Int), (700 : Int))]), (10, [(700, 700)])] (0 + 1 + 1) = [(0, 1)] from by rw [clU_two]; decide] at h
  exact h

theorem allE_one {E : Int} {n : Nat} (h : E = 0 → n ≤ 200) (ln : Int) (R : List (Int × Int)) (hR : R.length = n) : allE 1 [E] (sumN [(ln, R)]) = E := by
  have h1 : fstE [E] = E := fstE_one E
  have h2 : sumN [(ln, R)] = n := by simp [sumN, hR]
  rw [allE, if_neg (by omega), h1, h2]
  by_cases h0 : E = 0
  · rw [if_neg (by simp [h0]), if_neg (by have := h h0; omega), h0]
  · rw [if_pos h0]

theorem allE_two (ln : Int) (R : List (Int × Int)) : allE 2 [0, 0] (sumN [(ln, R), (ln, R)]) = if 100 < R.length then 4 else 0 := by
  have h1 : fstE [0, 0] = 0 := by simp [fstE]
  have h2 : sumN [(ln, R), (ln, R)] = R.length + R.length := by simp [sumN]
  rw [allE, if_neg (by omega), h1, h2, if_neg (by simp)]
  by_cases h0 : 100 < R.length
  · rw [if_pos (by omega), if_pos h0]
  · rw [if_neg (by omega), if_neg h0]

theorem evcells_len2 (a b : Ev) : (a.cells ++ b.cells).toArray.size = 34 := rfl

set_option maxRecDepth 100000 in
set_option maxHeartbeats 16000000 in
theorem planAlone_any (ah : Int) (vZ : Value) (Z : List (Int × Int)) (nm tx : List UInt8) (st ln : Int) (rp : Bool) (fr ev ct ti : Int) (vm vd vw vp vM vN vC vA : Value) (mo da : List Int) (we : List (Int × Int)) (pk M N : List Int) (C : List (Int × Int)) (A : List Alm) (a b : Int) (w : World) (hw : Months w) (hZ : PairsR w vZ Z)
    (hR : EvR w vm vd vw vp vM vN vC vA mo da we pk M N C A) (hnm : nm.length ≤ 140737488351232) (htx : tx.length ≤ 140737488351232) (hcl : C.length ≤ 8796093022208) :
    Calls Tryz.prog 10 #[.agg #[.int .i64 ah, vZ], .agg #[.string (bs nm), .string (bs tx), .int .i64 st, .int .i64 ln, .bool rp, .int .i64 fr, .int .i64 ev, .int .i64 ct, .int .i64 ti, vm, vd, vw, vp, vM, vN, vC, vA], .int .i64 a, .int .i64 b] w fun e w' => e = .returned (.bool true) ∧ Below w.heap.size w w' := by
  have hR0 := hR
  have hZ0 := hZ
  obtain ⟨h1, h2, h3, h4, hM, hN, hC, hA⟩ := hR
  obtain ⟨am, km, rfl, -, -, -⟩ := intsR_open h1
  obtain ⟨ad, kd, rfl, -, -, -⟩ := intsR_open h2
  obtain ⟨aw, kw, rfl, -, -, -⟩ := pairsR_open h3
  obtain ⟨ap, kp, rfl, -, -, -⟩ := intsR_open h4
  obtain ⟨aM, kM, rfl, -, -, -⟩ := intsR_open hM
  obtain ⟨aN, kN, rfl, -, -, -⟩ := intsR_open hN
  obtain ⟨aC, kC, rfl, -, kC2, hds⟩ := pairsR_open hC
  obtain ⟨aA, kA, rfl, -, -, -⟩ := almsR_open hA
  unfold maxLen at kC2
  obtain ⟨aZ, kZ, rfl, -, -, -⟩ := pairsR_open hZ
  obtain ⟨snm, hsnm⟩ : ∃ s, s = bs nm := ⟨_, rfl⟩
  obtain ⟨stx, hstx⟩ : ∃ s, s = bs tx := ⟨_, rfl⟩
  obtain ⟨eb, heb⟩ : ∃ x, x = w.heap.size := ⟨_, rfl⟩
  obtain ⟨wz, hwz⟩ : ∃ x, x = w.alloc (.cells #[.int .i64 ah, .slice aZ Z.length kZ] 56) := ⟨_, rfl⟩
  have hbz : Below w.heap.size w wz := by rw [hwz]; exact (Below.refl _ _).alloc (Nat.le_refl _) _
  have hsz : wz.heap.size = eb + 1 := by rw [hwz, heb]; simp
  have z0 : wz.cell? ⟨eb, 0, none⟩ = some (.int .i64 ah) := by rw [hwz, heb]; simp
  have z1 : wz.cell? ⟨eb, 1, none⟩ = some (.slice aZ Z.length kZ) := by rw [hwz, heb]; simp
  obtain ⟨w0, hw0⟩ : ∃ x, x = wz.alloc (.cells #[.string snm, .string stx, .int .i64 st, .int .i64 ln, .bool rp, .int .i64 fr, .int .i64 ev, .int .i64 ct, .int .i64 ti, .slice am mo.length km, .slice ad da.length kd, .slice aw we.length kw, .slice ap pk.length kp, .slice aM M.length kM, .slice aN N.length kN, .slice aC C.length kC, .slice aA A.length kA] 29) := ⟨_, rfl⟩
  have hb0 : Below wz.heap.size wz w0 := by rw [hw0]; exact (Below.refl _ _).alloc (Nat.le_refl _) _
  have ec := hw0 ▸ evC_new wz 29 snm stx st ln rp fr ev ct ti (.slice am mo.length km) (.slice ad da.length kd) (.slice aw we.length kw) (.slice ap pk.length kp) (.slice aM M.length kM) (.slice aN N.length kN) (.slice aC C.length kC) (.slice aA A.length kA)
  rw [hsz] at ec
  have z0 := cell_below hb0 z0; have z1 := cell_below hb0 z1
  have hbw : Below w.heap.size w w0 := hbz.trans (hb0.mono hbz.size)
  obtain ⟨e0, he0⟩ : ∃ e : Ev, e = ⟨nm, tx, st, ln, rp, fr, ev, ct, ti, .slice am mo.length km, .slice ad da.length kd, .slice aw we.length kw, .slice ap pk.length kp, .slice aM M.length kM, .slice aN N.length kN, .slice aC C.length kC, .slice aA A.length kA, mo, da, we, pk, M, N, C, A⟩ := ⟨_, rfl⟩
  have ecl : e0.cells = [.string snm, .string stx, .int .i64 st, .int .i64 ln, .bool rp, .int .i64 fr, .int .i64 ev, .int .i64 ct, .int .i64 ti, .slice am mo.length km, .slice ad da.length kd, .slice aw we.length kw, .slice ap pk.length kp, .slice aM M.length kM, .slice aN N.length kN, .slice aC C.length kC, .slice aA A.length kA] := by rw [he0, hsnm, hstx]; rfl
  have eln : e0.ln = ln := by rw [he0]
  have erd : e0.Rd w0 := by rw [he0]; exact (show Ev.Rd w _ from ⟨hR0, hnm, htx, hcl⟩).below hbw
  obtain ⟨E, hE⟩ : ∃ E, E = e0.err ah Z a b := ⟨_, rfl⟩
  obtain ⟨R, hRR⟩ : ∃ R, R = e0.times ah Z a b := ⟨_, rfl⟩
  have E200 := Lib.hid (show E = 0 → R.length ≤ 200 from fun h => by rw [hRR]; rw [hE] at h; exact (fullN_0 h.symm).2)
  have BT := Lib.hid (show ∀ wx, Below w0.heap.size w0 wx → Calls Tryz.prog 28 #[.agg #[.int .i64 ah, .slice aZ Z.length kZ], .agg #[.string snm, .string stx, .int .i64 st, .int .i64 ln, .bool rp, .int .i64 fr, .int .i64 ev, .int .i64 ct, .int .i64 ti, .slice am mo.length km, .slice ad da.length kd, .slice aw we.length kw, .slice ap pk.length kp, .slice aM M.length kM, .slice aN N.length kN, .slice aC C.length kC, .slice aA A.length kA], .int .i64 a, .int .i64 b] wx (BetP ln E R wx) from fun wx hbx => by
    have h := ev_between e0 ah _ Z a b wx (hw.below (hbw.trans (hbx.mono hbw.size))) (erd.below hbx) (hZ0.below (hbw.trans (hbx.mono hbw.size)))
    rw [eln, ← hE, ← hRR, ecl] at h; exact h)
  have C1 := Lib.hid (show ∀ (cs : Array Value) (hcs : cs.toList = e0.cells) (wx : World), Below w0.heap.size w0 wx → Calls Tryz.prog 38 #[.agg #[.int .i64 ah, .slice aZ Z.length kZ], .slice (some ⟨wx.heap.size, 0, none⟩) 1 1, .int .i64 a, .int .i64 b] (wx.alloc (.cells cs 29)) (ClaP E [] (wx.alloc (.cells cs 29))) from fun cs hcs wx hbx => by
    have hbx0 := hbw.trans (hbx.mono hbw.size)
    have hbx2 : Below w.heap.size w (wx.alloc (.cells cs 29)) := hbx0.alloc hbx0.size _
    have h := clashes_any ah _ Z _ [e0] a b _ (hw.below hbx2) (evs_new2 (w := wx) (t := 29) [e0] cs (by rw [hcs]; simp) (fun e he => by simp at he; subst he; exact erd.below hbx) (by show _ ≤ maxLen; simp [maxLen])) (hZ0.below hbx2)
    simp only [List.map_cons, List.map_nil, List.length_cons, List.length_nil, Nat.zero_add] at h
    rw [← hE, ← hRR, allE_one E200.out e0.ln R rfl, clU_one] at h
    exact h)
  have C2 := Lib.hid (show E = 0 → ∀ (cs : Array Value) (hcs : cs.toList = e0.cells ++ e0.cells) (wx : World), Below w0.heap.size w0 wx → Calls Tryz.prog 38 #[.agg #[.int .i64 ah, .slice aZ Z.length kZ], .slice (some ⟨wx.heap.size, 0, none⟩) 2 2, .int .i64 a, .int .i64 b] (wx.alloc (.cells cs 29)) (ClaP (if 100 < R.length then 4 else 0) (if 0 < R.length ∧ 0 < ln then [(0, 1)] else []) (wx.alloc (.cells cs 29))) from fun h0 cs hcs wx hbx => by
    have hbx0 := hbw.trans (hbx.mono hbw.size)
    have hbx2 : Below w.heap.size w (wx.alloc (.cells cs 29)) := hbx0.alloc hbx0.size _
    have h := clashes_any ah _ Z _ [e0, e0] a b _ (hw.below hbx2) (evs_new2 (w := wx) (t := 29) [e0, e0] cs (by rw [hcs]; simp) (fun e he => by simp at he; subst he; exact erd.below hbx) (by show _ ≤ maxLen; simp [maxLen])) (hZ0.below hbx2)
    simp only [List.map_cons, List.map_nil, List.length_cons, List.length_nil, Nat.zero_add] at h
    rw [← hE, ← hRR, h0, allE_two, clU_two, eln] at h
    exact h)
  have ECL := Lib.hid ecl
  have ONE := Lib.hid (show ∀ (cs : Array Value) (hcs : cs.toList = oneEv.cells ++ oneEv.cells) (wx : World), Below w0.heap.size w0 wx → Calls Tryz.prog 38 #[.agg #[.int .i64 0, .slice none 0 0], .slice (some ⟨wx.heap.size, 0, none⟩) 2 2, .int .i64 1, .int .i64 2000] (wx.alloc (.cells cs 29)) (ClaP 0 [(0, 1)] (wx.alloc (.cells cs 29))) from fun cs hcs wx hbx => palone_call wx cs hcs (hw.below (hbw.trans (hbx.mono hbw.size))))
  have EC := Lib.hid ec; have BW := Lib.hid hbw; have WZ := Lib.hid hwz; have W0 := Lib.hid hw0; have EB := Lib.hid heb
  have Z0 := Lib.hid z0; have Z1 := Lib.hid z1
  obtain ⟨w1, hw1⟩ : ∃ x, x = w0.alloc (.cells #[.string { data := #[97] }, .string { data := #[] }, .int .i64 700, .int .i64 10, .bool false, .int .i64 0, .int .i64 0, .int .i64 0, .int .i64 0, .slice none 0 0, .slice none 0 0, .slice none 0 0, .slice none 0 0, .slice none 0 0, .slice none 0 0, .slice none 0 0, .slice none 0 0] 29) := ⟨_, rfl⟩
  obtain ⟨ob, hob⟩ : ∃ x, x = w0.heap.size := ⟨_, rfl⟩
  have ec1 := hw1 ▸ evC_new w0 29 { data := #[97] } { data := #[] } 700 10 false 0 0 0 0 (.slice none 0 0) (.slice none 0 0) (.slice none 0 0) (.slice none 0 0) (.slice none 0 0) (.slice none 0 0) (.slice none 0 0) (.slice none 0 0)
  rw [← hob] at ec1
  have hb1 : Below w0.heap.size w0 w1 := by rw [hw1]; exact (Below.refl _ _).alloc (Nat.le_refl _) _
  have EC1 := Lib.hid ec1; have B1 := Lib.hid hb1; have W1 := Lib.hid hw1; have OB := Lib.hid hob
  rw [← hsnm, ← hstx]
  clear hR0 hZ0 h1 h2 h3 h4 hM hN hC hA hw hZ hwz hbz hsz hw0 hb0 ec hbw heb hds hsnm hstx hnm htx hcl z0 z1 he0 ecl eln erd hE hRR ec1 hb1 hw1 hob
  obtain ⟨iE, zE, hiE, hzE, hkE, hnE⟩ := ev_info
  go_enter Tryz.func10, Tryz.ntmps10
  go_upto_region 1 with fail
  rw [← WZ.out, ← W0.out]
  rw [← EB.out]
  go_upto_region 2 with fail
  rw [← W1.out]
  rw [← OB.out]
  have k0 := EC1.out.k0; have k1 := EC1.out.k1; have k2 := EC1.out.k2; have k3 := EC1.out.k3; have k4 := EC1.out.k4; have k5 := EC1.out.k5; have k6 := EC1.out.k6; have k7 := EC1.out.k7; have k8 := EC1.out.k8; have k9 := EC1.out.k9; have k10 := EC1.out.k10; have k11 := EC1.out.k11; have k12 := EC1.out.k12; have k13 := EC1.out.k13; have k14 := EC1.out.k14; have k15 := EC1.out.k15; have k16 := EC1.out.k16
  go_cut [10, 11] (fun s10 s11 wx => (∃ g c, s10 = .slice (some ⟨g, 0, none⟩) 1 c ∧ wx.cell? ⟨g, 1, none⟩ = some (.int .i64 1)) ∧ s11 = .nilIface ∧ Below w0.heap.size w0 wx)
  case first => as_aux_lemma =>
    go_wp2_with (refine wpList_build2 rfl 83 _ _ rfl 29 iE zE 17 Tryz.underlying83 hiE hzE hkE hnE (by decide) (by decide) _ _ rfl rfl rfl rfl ?_)
    refine (ONE.out _ (by simp [Value.cells, oneEv, Ev.cells, bs]) _ B1.out).mono ?_; rintro e w3 ⟨v, rfl, hv, hb⟩
    rw [if_pos rfl] at hv
    rw [errV_0]
    obtain ⟨va, vc, rfl, -, -, hcs⟩ := owns_cells hv
    obtain ⟨g, rfl, -, hc⟩ := hcs (by decide)
    have C1 := Lib.hid (show w3.cell? ⟨g, 1, none⟩ = some (.int .i64 1) from hc 1 _ rfl)
    have HB := Lib.hid (below_next (B1.out.alloc B1.out.size _) (hb.mono (by rw [World.size_alloc]; omega)))
    clear hv hb hcs hc k0 k1 k2 k3 k4 k5 k6 k7 k8 k9 k10 k11 k12 k13 k14 k15 k16
    go_wp2
    go_meet
    exact ⟨⟨_, _, rfl, C1.out⟩, rfl, HB.out⟩
  case rest =>
  obtain ⟨⟨g, c, rfl, hc1⟩, rfl, hb2⟩ := hcut
  obtain ⟨w2, rfl⟩ : ∃ x, x = wc := ⟨_, rfl⟩
  have B2 := Lib.hid hb2
  have E2 := Lib.hid (EC.out.below hb2)
  have z0 := cell_below hb2 Z0.out; have z1 := cell_below hb2 Z1.out
  clear hb2 k0 k1 k2 k3 k4 k5 k6 k7 k8 k9 k10 k11 k12 k13 k14 k15 k16 EC1 ONE B1 W1 OB
  go_upto_region 5 with fail
  clear hc1
  have k0 := E2.out.k0; have k1 := E2.out.k1; have k2 := E2.out.k2; have k3 := E2.out.k3; have k4 := E2.out.k4; have k5 := E2.out.k5; have k6 := E2.out.k6; have k7 := E2.out.k7; have k8 := E2.out.k8; have k9 := E2.out.k9; have k10 := E2.out.k10; have k11 := E2.out.k11; have k12 := E2.out.k12; have k13 := E2.out.k13; have k14 := E2.out.k14; have k15 := E2.out.k15; have k16 := E2.out.k16
  go_cut [12, 13] (fun s12 s13 wx => (∃ p c, s12 = .slice p 0 c) ∧ s13 = errV E ∧ Below w2.heap.size w2 wx)
  case first => as_aux_lemma =>
    go_wp2_with (refine wpList_build1 rfl 83 _ rfl 29 iE zE 17 Tryz.underlying83 hiE hzE hkE hnE (by decide) (by decide) _ rfl rfl ?_)
    refine (C1.out _ (by rw [ECL.out]) _ B2.out).mono ?_; rintro e w3 ⟨v, rfl, hv, hb⟩
    rw [ite_self] at hv
    obtain ⟨va, vc, rfl, -, -, -⟩ := owns_cells hv
    have HB := Lib.hid (below_next ((Below.refl _ _).alloc (Nat.le_refl _) _) hb)
    clear hv hb z0 z1 k0 k1 k2 k3 k4 k5 k6 k7 k8 k9 k10 k11 k12 k13 k14 k15 k16
    go_wp2
    go_meet
    exact ⟨⟨_, _, rfl⟩, rfl, HB.out⟩
  case rest =>
  obtain ⟨⟨p1, c1, rfl⟩, rfl, hb3⟩ := hcut
  obtain ⟨w3, rfl⟩ : ∃ x, x = wc := ⟨_, rfl⟩
  have B3 := Lib.hid (B2.out.trans (hb3.mono B2.out.size))
  clear hb3 z0 z1 k0 k1 k2 k3 k4 k5 k6 k7 k8 k9 k10 k11 k12 k13 k14 k15 k16 E2 C1
  by_cases h0 : E ≠ 0
  · have EV := Lib.hid (show errV E = .iface 119 (.int .i64 E) by rw [errV, if_neg h0])
    rw [EV.out]
    clear h0
    go_wp2
    go_ret
    exact ⟨rfl, BW.out.trans (B3.out.mono BW.out.size)⟩
  obtain rfl : E = 0 := by omega
  rw [errV_0]
  have l200 := E200.out rfl
  have E3 := Lib.hid (EC.out.below B3.out)
  have z0 := cell_below B3.out Z0.out; have z1 := cell_below B3.out Z1.out
  obtain ⟨F, hF⟩ : ∃ F : Int, F = if 100 < R.length then 4 else 0 := ⟨_, rfl⟩
  obtain ⟨K, hK⟩ : ∃ K : List (Int × Int), K = if 0 < R.length ∧ 0 < ln then [(0, 1)] else [] := ⟨_, rfl⟩
  have CC := Lib.hid (fun cs hcs => C2.out rfl cs hcs _ B3.out)
  have BB := Lib.hid (BT.out)
  rw [← hF, ← hK] at CC
  obtain ⟨m, hm⟩ : ∃ m : Nat, m = (if F = 0 then K else []).length := ⟨_, rfl⟩
  have HF := Lib.hid hF; have HK := Lib.hid hK; have HM := Lib.hid hm
  clear hF hK hm h0 C2 BT E200
  go_upto_region 8 with fail
  have k0 := E3.out.k0; have k1 := E3.out.k1; have k2 := E3.out.k2; have k3 := E3.out.k3; have k4 := E3.out.k4; have k5 := E3.out.k5; have k6 := E3.out.k6; have k7 := E3.out.k7; have k8 := E3.out.k8; have k9 := E3.out.k9; have k10 := E3.out.k10; have k11 := E3.out.k11; have k12 := E3.out.k12; have k13 := E3.out.k13; have k14 := E3.out.k14; have k15 := E3.out.k15; have k16 := E3.out.k16
  go_cut [14, 15] (fun s14 s15 wx => (∃ p c, s14 = .slice p m c) ∧ s15 = errV F ∧ Below w3.heap.size w3 wx)
  case first => as_aux_lemma =>
    go_wp2_with (refine wpList_build2 rfl 83 _ _ rfl 29 iE zE 17 Tryz.underlying83 hiE hzE hkE hnE (by decide) (by decide) _ _ rfl rfl rfl rfl ?_)
    refine (CC.out _ (by rw [ECL.out]; simp [Value.cells])).mono ?_; rintro e w4 ⟨v, rfl, hv, hb⟩
    obtain ⟨va, vc, rfl, -, -, -⟩ := owns_cells hv
    have HB := Lib.hid (below_next ((Below.refl _ _).alloc (Nat.le_refl _) _) hb)
    rw [← HM.out]
    clear hv hb z0 z1 k0 k1 k2 k3 k4 k5 k6 k7 k8 k9 k10 k11 k12 k13 k14 k15 k16
    go_wp2
    go_meet
    exact ⟨⟨_, _, rfl⟩, rfl, HB.out⟩
  case rest =>
  obtain ⟨⟨p2, c2, rfl⟩, rfl, hb4⟩ := hcut
  obtain ⟨w4, rfl⟩ : ∃ x, x = wc := ⟨_, rfl⟩
  have B4 := Lib.hid (B3.out.trans (hb4.mono B3.out.size))
  have E4 := Lib.hid (EC.out.below B4.out)
  clear hb4 z0 z1 k0 k1 k2 k3 k4 k5 k6 k7 k8 k9 k10 k11 k12 k13 k14 k15 k16 E3 CC
  have z0 := cell_below B4.out Z0.out; have z1 := cell_below B4.out Z1.out
  go_upto_region 9 with fail
  have k0 := E4.out.k0; have k1 := E4.out.k1; have k2 := E4.out.k2; have k3 := E4.out.k3; have k4 := E4.out.k4; have k5 := E4.out.k5; have k6 := E4.out.k6; have k7 := E4.out.k7; have k8 := E4.out.k8; have k9 := E4.out.k9; have k10 := E4.out.k10; have k11 := E4.out.k11; have k12 := E4.out.k12; have k13 := E4.out.k13; have k14 := E4.out.k14; have k15 := E4.out.k15; have k16 := E4.out.k16
  go_cut [16, 17] (fun s16 s17 wx => (∃ p c, s16 = .slice p R.length c) ∧ s17 = .nilIface ∧ Below w4.heap.size w4 wx)
  case first => as_aux_lemma =>
    go_wp2_with fail
    refine (BB.out _ B4.out).mono ?_; rintro e w5 ⟨v, rfl, hv, hb⟩
    rw [if_pos rfl] at hv
    rw [errV_0]
    obtain ⟨va, vc, rfl, -, -, -⟩ := owns_cells hv
    have HB := Lib.hid hb
    clear hv hb z0 z1 k0 k1 k2 k3 k4 k5 k6 k7 k8 k9 k10 k11 k12 k13 k14 k15 k16
    go_wp2
    go_meet
    exact ⟨⟨_, _, rfl⟩, rfl, HB.out⟩
  case rest =>
  obtain ⟨⟨p3, c3, rfl⟩, rfl, hb5⟩ := hcut
  obtain ⟨w5, rfl⟩ : ∃ x, x = wc := ⟨_, rfl⟩
  have B5 := Lib.hid (B4.out.trans (hb5.mono B4.out.size))
  have k3 := (EC.out.below B5.out).k3
  clear hb5 z0 z1 k0 k1 k2 k4 k5 k6 k7 k8 k9 k10 k11 k12 k13 k14 k15 k16 E4 BB
  obtain ⟨r, hr⟩ : ∃ r, r = R.length := ⟨_, rfl⟩
  have HR := Lib.hid hr
  rw [← hr] at l200 ⊢
  clear hr
  by_cases h1 : 100 < r
  · have F4 := Lib.hid (show F = 4 by rw [HF.out, if_pos (by rw [← HR.out]; exact h1)])
    have EV := Lib.hid (show errV F = .iface 119 (.int .i64 4) by rw [F4.out]; rfl)
    have t1 : decide ((100 : Int) < (r : Int)) = true := decide_eq_true (by omega)
    have t1b : decide (100 < r) = true := decide_eq_true h1
    rw [EV.out]
    clear h1
    go_wp2
    go_ret
    exact ⟨by first | rfl | simp [t1], BW.out.trans (B5.out.mono BW.out.size)⟩
  have F0 : F = 0 := by rw [HF.out, if_neg (by rw [← HR.out]; exact h1)]
  subst F0
  rw [errV_0]
  by_cases h2 : 0 < r
  · by_cases h3 : 0 < ln
    · obtain rfl : m = 1 := by rw [HM.out, if_pos rfl, HK.out, if_pos ⟨by rw [← HR.out]; exact h2, h3⟩]; rfl
      have t1 : decide ((0 : Int) < (r : Int)) = true := decide_eq_true (by omega)
      have t1b : decide (0 < r) = true := decide_eq_true h2
      have t2 : decide (0 < ln) = true := decide_eq_true h3
      clear h1 h2 h3 HF
      go_wp2
      go_ret
      exact ⟨by first | rfl | simp, BW.out.trans (B5.out.mono BW.out.size)⟩
    · obtain rfl : m = 0 := by rw [HM.out, if_pos rfl, HK.out, if_neg (fun h => h3 h.2)]; rfl
      have t1 : decide ((0 : Int) < (r : Int)) = true := decide_eq_true (by omega)
      have t1b : decide (0 < r) = true := decide_eq_true h2
      have t2 : decide (0 < ln) = false := decide_eq_false h3
      clear h1 h2 h3 HF
      go_wp2
      go_ret
      exact ⟨by first | rfl | simp, BW.out.trans (B5.out.mono BW.out.size)⟩
  · obtain rfl : m = 0 := by rw [HM.out, if_pos rfl, HK.out, if_neg (fun h => h2 (by rw [HR.out]; exact h.1))]; rfl
    obtain rfl : r = 0 := by omega
    clear h1 h2 HF
    go_wp2
    go_ret
    exact ⟨by first | rfl | simp, BW.out.trans (B5.out.mono BW.out.size)⟩

end Go.Proofs.YtkpmddlinlcobaaGreatDoor
