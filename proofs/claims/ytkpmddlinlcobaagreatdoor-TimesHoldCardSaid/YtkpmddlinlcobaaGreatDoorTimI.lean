/- times.Next: its contract. Conditions: texts and lists of a size that any machine's are. -/
import Derived.Test.YtkpmddlinlcobaaGreatDoorTimH
namespace Go.Proofs.YtkpmddlinlcobaaGreatDoor
open Go.RowKit Go.Shelf
set_option linter.unusedSimpArgs false
set_option linter.unusedVariables false

/-- the fault of a next time. -/
def nextE (F ZF a : Int) (L : List (Int × Int)) : Int := if readyE F ZF ≠ 0 then readyE F ZF else if timeB a = false then 1 else if L = [] then 5 else 0

/-- .. the time that is told. -/
def nextT (ln E : Int) (L : List (Int × Int)) : Value := if E = 0 then (match L with
  | [] => .agg #[.int .i64 0, .int .i64 0, .int .i64 0]
  | x :: _ => .agg #[.int .i64 x.1, .int .i64 x.2, .int .i64 (x.2 + ln)]) else .agg #[.int .i64 0, .int .i64 0, .int .i64 0]

theorem nextT_no {ln E : Int} {L : List (Int × Int)} (h : E ≠ 0) : nextT ln E L = .agg #[.int .i64 0, .int .i64 0, .int .i64 0] := by
  unfold nextT; rw [if_neg h]

theorem results_nx {tmps : Array Value} {W : World} {p : Nat} {b v1 v2 v3 : Value} (h6 : tmps[6]?.getD undef = .pointer (some ⟨p, 0, none⟩)) (h7 : tmps[7]?.getD undef = b)
    (c0 : W.cell? ⟨p, 0, none⟩ = some v1) (c1 : W.cell? ⟨p, 1, none⟩ = some v2) (c2 : W.cell? ⟨p, 2, none⟩ = some v3) : (results Tryz.f27 tmps).run Tryz.prog W = .ok (.tuple #[.agg #[v1, v2, v3], b]) W := by
  simp only [results, show Tryz.f27.results = #[.cell 6 51, .tmp 7] from rfl]
  simp [Sem.run_bind, Result.andThen, h6, h7, asAddr, loadVar, isAgg, underlying, Tryz.isAgg51, c0, c1, c2, loadCells, loadCellsFrom, load, Addr.add, Sem.run, go_sem]

set_option maxRecDepth 100000 in
set_option maxHeartbeats 8000000 in
theorem next_any (nm tx : List UInt8) (st ln : Int) (rp : Bool) (fr ev ct ti : Int) (vm vd vw vp vM vN vC vA : Value) (mo da : List Int) (we : List (Int × Int)) (pk M N : List Int) (C : List (Int × Int)) (A : List Alm) (ah : Int) (vZ : Value) (Z : List (Int × Int)) (a : Int) (w : World) (hw : Months w)
    (hR : EvR w vm vd vw vp vM vN vC vA mo da we pk M N C A) (hZ : PairsR w vZ Z) (hnm : nm.length ≤ 140737488351232) (htx : tx.length ≤ 140737488351232) (hcl : C.length ≤ 8796093022208) :
    Calls Tryz.prog 27 #[.agg #[.int .i64 ah, vZ], .agg #[.string (bs nm), .string (bs tx), .int .i64 st, .int .i64 ln, .bool rp, .int .i64 fr, .int .i64 ev, .int .i64 ct, .int .i64 ti, vm, vd, vw, vp, vM, vN, vC, vA], .int .i64 a] w
      fun e w' => e = .returned (.tuple #[nextT ln (nextE (evF nm tx st ln rp fr ev ct ti mo da we pk M N C A) (zfault ah Z) a (tmsOf ah Z (ruleT rp st fr ev ct ti mo da we pk) M N C ln (a + 1) (a + 500000 + 1))) (tmsOf ah Z (ruleT rp st fr ev ct ti mo da we pk) M N C ln (a + 1) (a + 500000 + 1)), errV (nextE (evF nm tx st ln rp fr ev ct ti mo da we pk M N C A) (zfault ah Z) a (tmsOf ah Z (ruleT rp st fr ev ct ti mo da we pk) M N C ln (a + 1) (a + 500000 + 1)))]) ∧ Below w.heap.size w w' := by
  have hR0 := hR
  obtain ⟨h1, h2, h3, h4, hM, hN, hC, hA⟩ := hR
  obtain ⟨am, km, rfl, -, -, -⟩ := intsR_open h1
  obtain ⟨ad, kd, rfl, -, -, -⟩ := intsR_open h2
  obtain ⟨aw, kw, rfl, -, -, -⟩ := pairsR_open h3
  obtain ⟨ap, kp, rfl, -, -, -⟩ := intsR_open h4
  obtain ⟨aM, kM, rfl, -, -, -⟩ := intsR_open hM
  obtain ⟨aN, kN, rfl, -, -, -⟩ := intsR_open hN
  obtain ⟨aC, kC, rfl, -, kC2, hds⟩ := pairsR_open hC
  obtain ⟨aA, kA, rfl, -, -, -⟩ := almsR_open hA
  unfold maxLen at kC2
  obtain ⟨aZ, kZ, rfl, -, -, -⟩ := pairsR_open hZ
  obtain ⟨snm, hsnm⟩ : ∃ s, s = bs nm := ⟨_, rfl⟩
  obtain ⟨stx, hstx⟩ : ∃ s, s = bs tx := ⟨_, rfl⟩
  obtain ⟨eb, heb⟩ : ∃ x, x = w.heap.size := ⟨_, rfl⟩
  obtain ⟨wz, hwz⟩ : ∃ x, x = w.alloc (.cells #[.int .i64 ah, .slice aZ Z.length kZ] 56) := ⟨_, rfl⟩
  have hbz : Below w.heap.size w wz := by rw [hwz]; exact (Below.refl _ _).alloc (Nat.le_refl _) _
  have hsz : wz.heap.size = eb + 1 := by rw [hwz, heb]; simp
  have z0 : wz.cell? ⟨eb, 0, none⟩ = some (.int .i64 ah) := by rw [hwz, heb]; simp
  have z1 : wz.cell? ⟨eb, 1, none⟩ = some (.slice aZ Z.length kZ) := by rw [hwz, heb]; simp
  obtain ⟨w0, hw0⟩ : ∃ x, x = wz.alloc (.cells #[.string snm, .string stx, .int .i64 st, .int .i64 ln, .bool rp, .int .i64 fr, .int .i64 ev, .int .i64 ct, .int .i64 ti, .slice am mo.length km, .slice ad da.length kd, .slice aw we.length kw, .slice ap pk.length kp, .slice aM M.length kM, .slice aN N.length kN, .slice aC C.length kC, .slice aA A.length kA] 29) := ⟨_, rfl⟩
  have hb0 : Below wz.heap.size wz w0 := by rw [hw0]; exact (Below.refl _ _).alloc (Nat.le_refl _) _
  have ec := hw0 ▸ evC_new wz 29 snm stx st ln rp fr ev ct ti (.slice am mo.length km) (.slice ad da.length kd) (.slice aw we.length kw) (.slice ap pk.length kp) (.slice aM M.length kM) (.slice aN N.length kN) (.slice aC C.length kC) (.slice aA A.length kA)
  rw [hsz] at ec
  have z0 := cell_below hb0 z0; have z1 := cell_below hb0 z1
  have hbw : Below w.heap.size w w0 := hbz.trans (hb0.mono hbz.size)
  have hs0 : w0.heap.size = eb + 1 + 1 := by rw [hw0]; simp [hsz]
  obtain ⟨w1, hw1⟩ : ∃ x, x = w0.alloc (.cells #[.int .i64 0, .int .i64 0, .int .i64 0] 51) := ⟨_, rfl⟩
  have hb1 : Below w0.heap.size w0 w1 := by rw [hw1]; exact (Below.refl _ _).alloc (Nat.le_refl _) _
  have hs1 : w1.heap.size = eb + 1 + 1 + 1 := by rw [hw1]; simp [hs0]
  have hh1 : w1.heap[eb + 1 + 1]? = some (.cells #[.int .i64 0, .int .i64 0, .int .i64 0] 51 (0, 0)) := by rw [hw1, ← hs0]; exact heap_alloc_new _ _
  have z0 := cell_below hb1 z0; have z1 := cell_below hb1 z1
  have ec := ec.below hb1
  have hbw1 : Below w.heap.size w w1 := hbw.trans (hb1.mono hbw.size)
  obtain ⟨F, hF⟩ : ∃ F, F = (evF nm tx st ln rp fr ev ct ti mo da we pk M N C A) := ⟨_, rfl⟩
  obtain ⟨ZF, hZF⟩ : ∃ F, F = zfault ah Z := ⟨_, rfl⟩
  obtain ⟨R, hRR⟩ : ∃ R, R = tmsOf ah Z (ruleT rp st fr ev ct ti mo da we pk) M N C ln (a + 1) (a + 500000 + 1) := ⟨_, rfl⟩
  have RK := Lib.hid (show Calls Tryz.prog 80 #[.agg #[.int .i64 ah, .slice aZ Z.length kZ], .agg #[.string snm, .string stx, .int .i64 st, .int .i64 ln, .bool rp, .int .i64 fr, .int .i64 ev, .int .i64 ct, .int .i64 ti, .slice am mo.length km, .slice ad da.length kd, .slice aw we.length kw, .slice ap pk.length kp, .slice aM M.length kM, .slice aN N.length kN, .slice aC C.length kC, .slice aA A.length kA]] w1 (fun e w' => e = .returned (errV (readyE F ZF)) ∧ Below w1.heap.size w1 w') by
    rw [hF, hZF, hsnm, hstx]
    exact ready_any nm tx st ln rp fr ev ct ti _ _ _ _ _ _ _ _ mo da we pk M N C A ah _ Z w1 (hR0.below hbw1) (hZ.below hbw1) hnm htx hcl)
  have TK := Lib.hid (show readyE F ZF = 0 → timeB a = true → ∀ wx, Below w1.heap.size w1 wx → Calls Tryz.prog 81 #[.agg #[.int .i64 ah, .slice aZ Z.length kZ], .agg #[.string snm, .string stx, .int .i64 st, .int .i64 ln, .bool rp, .int .i64 fr, .int .i64 ev, .int .i64 ct, .int .i64 ti, .slice am mo.length km, .slice ad da.length kd, .slice aw we.length kw, .slice ap pk.length kp, .slice aM M.length kM, .slice aN N.length kN, .slice aC C.length kC, .slice aA A.length kA], .int .i64 (a + 1), .int .i64 (a + 500000 + 1)] wx (fun e w' => ∃ v, e = .returned v ∧ OwnT ln wx.heap.size w' v R ∧ Below wx.heap.size wx w') from fun hr hs wx hbx => by
    obtain ⟨f0, z0⟩ := ready_ok hr
    obtain ⟨t1, t2⟩ := timeB_yes hs
    have hbw : Below w.heap.size w wx := hbw1.trans (hbx.mono hbw1.size)
    rw [hRR]
    exact tof_any snm stx st ln rp fr ev ct ti _ _ _ _ _ _ _ _ mo da we pk M N C A ah _ Z (a + 1) (a + 500000 + 1) wx (hw.below hbw) (hR0.below hbw) (evF_facts (hF.symm.trans f0)) (hZ.below hbw) (hZF.symm.trans z0) (by omega) (by omega))
  rw [← hsnm, ← hstx, ← hF, ← hZF, ← hRR]
  have RES := Lib.hid (show ∀ wx, Below w1.heap.size w1 wx → wx.there (eb + 1 + 1) 0 3 ∧ (∀ a b c, (wx.setCells (eb + 1 + 1) 0 [a, b, c]).cell? ⟨eb + 1 + 1, 0, none⟩ = some a ∧ (wx.setCells (eb + 1 + 1) 0 [a, b, c]).cell? ⟨eb + 1 + 1, 1, none⟩ = some b ∧ (wx.setCells (eb + 1 + 1) 0 [a, b, c]).cell? ⟨eb + 1 + 1, 2, none⟩ = some c) ∧ (∀ a b c, Below w.heap.size w (wx.setCells (eb + 1 + 1) 0 [a, b, c])) from fun wx hbx => by
    have hh := (hbx.block (eb + 1 + 1) (by omega)).trans hh1
    exact ⟨one_there hh, fun a b c => one_cells hh, fun a b c => one_below (hbw1.trans (hbx.mono hbw1.size)) (by omega)⟩)
  obtain ⟨RE, hRE⟩ : ∃ E, E = readyE F ZF := ⟨_, rfl⟩
  obtain ⟨NE, hNE⟩ : ∃ E, E = nextE F ZF a R := ⟨_, rfl⟩
  have NX := Lib.hid (show NE = if RE ≠ 0 then RE else if timeB a = false then 1 else if R = [] then 5 else 0 by rw [hNE, hRE]; rfl)
  obtain ⟨q, hq⟩ : ∃ q, q = timeB a := ⟨_, rfl⟩
  rw [← hNE]
  rw [← hRE] at RK TK
  rw [← hq] at TK NX
  have Q := Lib.hid hq
  have EC := Lib.hid ec; have BW := Lib.hid hbw1; have WZ := Lib.hid hwz; have W0 := Lib.hid hw0; have W1 := Lib.hid hw1; have EB := Lib.hid heb
  have Z0 := Lib.hid z0; have Z1 := Lib.hid z1
  clear hR0 h1 h2 h3 h4 hM hN hC hA hw hZ hwz hbz hsz hw0 hb0 ec hbw heb hds hF hZF hsnm hstx hnm htx hcl hRR hRE hNE hq hw1 hb1 hs1 hh1 hs0 hbw1
  go_enter Tryz.func27, Tryz.ntmps27
  go_upto_region 1 with fail
  rw [← WZ.out, ← W0.out, ← W1.out]
  rw [← EB.out]
  have k0 := EC.out.k0; have k1 := EC.out.k1; have k2 := EC.out.k2; have k3 := EC.out.k3; have k4 := EC.out.k4; have k5 := EC.out.k5; have k6 := EC.out.k6; have k7 := EC.out.k7; have k8 := EC.out.k8; have k9 := EC.out.k9; have k10 := EC.out.k10; have k11 := EC.out.k11; have k12 := EC.out.k12; have k13 := EC.out.k13; have k14 := EC.out.k14; have k15 := EC.out.k15; have k16 := EC.out.k16
  go_wp2_with fail
  refine RK.out.mono ?_; rintro e w2 ⟨rfl, hb2⟩
  have B2 := Lib.hid hb2
  clear hb2 z0 z1 k0 k1 k2 k3 k4 k5 k6 k7 k8 k9 k10 k11 k12 k13 k14 k15 k16
  by_cases h0 : RE ≠ 0
  · have E := Lib.hid (show errV RE = .iface 119 (.int .i64 RE) by rw [errV, if_neg h0])
    have LE := Lib.hid (show NE = RE by rw [NX.out, if_pos h0])
    have H0 := Lib.hid h0
    obtain ⟨T4, RS, SB⟩ := RES.out _ B2.out
    rw [E.out]
    clear h0
    go_wp2_with (refine wpList_store_mid rfl 51 _ _ rfl (eb + 1 + 1) 0 #[.int .i64 0, .int .i64 0, .int .i64 0] rfl rfl T4 (by kernel_rfl) (by simp [Value.oneCell']) ?_)
    refine bodyPost_ret (results_nx rfl rfl (RS _ _ _).1 (RS _ _ _).2.1 (RS _ _ _).2.2) rfl ?_
    exact ⟨by rw [LE.out, nextT_no H0.out, E.out]; rfl, SB _ _ _⟩
  obtain rfl : RE = 0 := by omega
  rw [errV_0]
  have NX2 := Lib.hid (show NE = if q = false then 1 else if R = [] then 5 else 0 by rw [NX.out, if_neg (by simp)])
  clear h0 NX
  go_wp2_with fail
  refine (valid_q a q _ Q.out).mono ?_; rintro e w3 ⟨rfl, rfl⟩
  cases q
  · have LE := Lib.hid (show NE = 1 by rw [NX2.out, if_pos rfl])
    obtain ⟨T4, RS, SB⟩ := RES.out _ B2.out
    go_wp2_with (refine wpList_store_mid rfl 51 _ _ rfl (eb + 1 + 1) 0 #[.int .i64 0, .int .i64 0, .int .i64 0] rfl rfl T4 (by kernel_rfl) (by simp [Value.oneCell']) ?_)
    refine bodyPost_ret (results_nx rfl rfl (RS _ _ _).1 (RS _ _ _).2.1 (RS _ _ _).2.2) rfl ?_
    exact ⟨by rw [LE.out, nextT_no (by decide)]; rfl, SB _ _ _⟩
  have NX3 := Lib.hid (show NE = if R = [] then 5 else 0 by rw [NX2.out, if_neg (by simp)])
  obtain ⟨t1, t2⟩ := timeB_yes Q.out.symm
  have x1 : IntKind.i64.wrap (a + 1) = a + 1 := IntWalk.i64_in _ (by omega)
  have x2 : IntKind.i64.wrap (a + 500000) = a + 500000 := IntWalk.i64_in _ (by omega)
  have x3 : IntKind.i64.wrap (a + 500000 + 1) = a + 500000 + 1 := IntWalk.i64_in _ (by omega)
  have E2 := Lib.hid (EC.out.below B2.out)
  have z0 := cell_below B2.out Z0.out
  have z1 := cell_below B2.out Z1.out
  have k0 := E2.out.k0; have k1 := E2.out.k1; have k2 := E2.out.k2; have k3 := E2.out.k3; have k4 := E2.out.k4; have k5 := E2.out.k5; have k6 := E2.out.k6; have k7 := E2.out.k7; have k8 := E2.out.k8; have k9 := E2.out.k9; have k10 := E2.out.k10; have k11 := E2.out.k11; have k12 := E2.out.k12; have k13 := E2.out.k13; have k14 := E2.out.k14; have k15 := E2.out.k15; have k16 := E2.out.k16
  go_wp2_with fail
  refine (TK.out (by simp) (by simp) _ B2.out).mono ?_; rintro e w4 ⟨v, rfl, hv, hb4⟩
  obtain ⟨va, vc, rfl, hv2, -, hcs⟩ := owns_cells hv
  unfold maxLen at hv2
  have B4 := Lib.hid (B2.out.trans (hb4.mono B2.out.size))
  clear hb4 z0 z1 k0 k1 k2 k3 k4 k5 k6 k7 k8 k9 k10 k11 k12 k13 k14 k15 k16
  obtain ⟨T4, RS, SB⟩ := RES.out _ B4.out
  obtain ⟨n, hn⟩ : ∃ n, n = R.length := ⟨_, rfl⟩
  rw [← hn] at hcs ⊢
  cases R with
  | nil =>
    have LE := Lib.hid (show NE = 5 by rw [NX3.out, if_pos rfl])
    have d1 : ((n : Int) == 0) = true := by rw [hn]; rfl
    clear hv hcs hn
    go_wp2_with (refine wpList_store_mid rfl 51 _ _ rfl (eb + 1 + 1) 0 #[.int .i64 0, .int .i64 0, .int .i64 0] rfl rfl T4 (by kernel_rfl) (by simp [Value.oneCell']) ?_)
    refine bodyPost_ret (results_nx rfl rfl (RS _ _ _).1 (RS _ _ _).2.1 (RS _ _ _).2.2) rfl ?_
    exact ⟨by rw [LE.out, nextT_no (by decide)]; rfl, SB _ _ _⟩
  | cons x r =>
    have LE := Lib.hid (show NE = 0 by rw [NX3.out, if_neg (by simp)])
    have d1 : ((n : Int) == 0) = false := by rw [beq_eq_false_iff_ne, hn]; simp; omega
    have d2 : 0 < n := by rw [hn]; simp
    have d3 : (0 : Int) < (n : Int) := by omega
    obtain ⟨g, rfl, -, hc⟩ := hcs d2
    have c0 : w4.cell? ⟨g, 0, none⟩ = some (.int .i64 x.1) := hc 0 _ (by simp [encT])
    have c1 : w4.cell? ⟨g, 1, none⟩ = some (.int .i64 x.2) := hc 1 _ (by simp [encT])
    have c2 : w4.cell? ⟨g, 2, none⟩ = some (.int .i64 (x.2 + ln)) := hc 2 _ (by simp [encT])
    obtain ⟨x1', x2'⟩ := x
    simp only at c0 c1 c2
    obtain ⟨y, hy⟩ : ∃ y, y = x2' + ln := ⟨_, rfl⟩
    rw [← hy] at c2
    have Y := Lib.hid hy
    clear hv hcs hc hn hy
    go_wp2_with (refine wpList_store_mid rfl 51 _ _ rfl (eb + 1 + 1) 0 #[.int .i64 x1', .int .i64 x2', .int .i64 y] rfl rfl T4 (by kernel_rfl) (by simp [Value.oneCell']) ?_)
    refine bodyPost_ret (results_nx rfl rfl (RS _ _ _).1 (RS _ _ _).2.1 (RS _ _ _).2.2) rfl ?_
    exact ⟨by rw [LE.out, Y.out]; rfl, SB _ _ _⟩

end Go.Proofs.YtkpmddlinlcobaaGreatDoor
