/- Texts joined into one (a claim has at most 60 files): The contract of the reference chimeref2.Ready, and its Between at any later world; The contract of the reference chimeref2.All; The contract of the reference chimeref2.Taken. -/
import Derived.Test.YtgelojhpanbnaaaGreatDoorRefEv
import Derived.Test.YtgelojhpanbnaaaGreatDoorTimHa
import Derived.Test.YtgelojhpanbnaaaGreatDoorRefBt
import Derived.Test.YtgelojhpanbnaaaGreatDoorQ35
import Derived.Test.YtgelojhpanbnaaaGreatDoorQ40
import Derived.Test.YtgelojhpanbnaaaGreatDoorQ32
import Derived.StillTailTactics
import Derived.Test.YtgelojhpanbnaaaGreatDoorQ20
import Derived.Test.YtgelojhpanbnaaaGreatDoorQ18
import Derived.Test.YtgelojhpanbnaaaGreatDoorQ33
import Derived.Deep.RegionHeld3
namespace Go.Proofs.YtgelojhpanbnaaaGreatDoor
open Go.RowKit Go.Shelf
set_option linter.unusedSimpArgs false
set_option linter.unusedVariables false

set_option maxRecDepth 100000 in
set_option maxHeartbeats 4000000 in
theorem rready_any (nm tx : List UInt8) (st ln : Int) (rp : Bool) (fr ev ct ti : Int) (vm vd vw vp vM vN vC vA : Value) (mo da : List Int) (we : List (Int × Int)) (pk M N : List Int) (C : List (Int × Int)) (A : List Alm) (ah : Int) (vZ : Value) (Z : List (Int × Int)) (w : World)
    (hR : EvR w vm vd vw vp vM vN vC vA mo da we pk M N C A) (hZ : PairsR w vZ Z) (hnm : nm.length ≤ 140737488351232) (htx : tx.length ≤ 140737488351232) (hcl : C.length ≤ 8796093022208) (hsm : mo.length ≤ 70368744177664 ∧ da.length ≤ 70368744177664 ∧ we.length ≤ 70368744177664 ∧ pk.length ≤ 70368744177664) :
    Calls Tryz.prog 30 #[.agg #[.int .i64 ah, vZ], .agg #[.string (bs nm), .string (bs tx), .int .i64 st, .int .i64 ln, .bool rp, .int .i64 fr, .int .i64 ev, .int .i64 ct, .int .i64 ti, vm, vd, vw, vp, vM, vN, vC, vA]] w fun e w' => e = .returned (.int .i64 (readyE (evF nm tx st ln rp fr ev ct ti mo da we pk M N C A) (zfault ah Z))) ∧ Below w.heap.size w w' := by
  obtain ⟨h1, h2, h3, h4, hM, hN, hC, hA⟩ := hR
  obtain ⟨am, km, rfl, -, -, -⟩ := intsR_open h1
  obtain ⟨ad, kd, rfl, -, -, -⟩ := intsR_open h2
  obtain ⟨aw, kw, rfl, -, -, -⟩ := pairsR_open h3
  obtain ⟨ap, kp, rfl, -, -, -⟩ := intsR_open h4
  obtain ⟨aM, kM, rfl, -, -, -⟩ := intsR_open hM
  obtain ⟨aN, kN, rfl, -, -, -⟩ := intsR_open hN
  obtain ⟨aC, kC, rfl, -, kC2, hds⟩ := pairsR_open hC
  obtain ⟨aA, kA, rfl, -, -, -⟩ := almsR_open hA
  unfold maxLen at kC2
  obtain ⟨aZ, kZ, rfl, -, -, -⟩ := pairsR_open hZ
  obtain ⟨snm, hsnm⟩ : ∃ s, s = bs nm := ⟨_, rfl⟩
  obtain ⟨stx, hstx⟩ : ∃ s, s = bs tx := ⟨_, rfl⟩
  obtain ⟨eb, heb⟩ : ∃ x, x = w.heap.size := ⟨_, rfl⟩
  obtain ⟨wz, hwz⟩ : ∃ x, x = w.alloc (.cells #[.int .i64 ah, .slice aZ Z.length kZ] 33) := ⟨_, rfl⟩
  have hbz : Below w.heap.size w wz := by rw [hwz]; exact (Below.refl _ _).alloc (Nat.le_refl _) _
  have hsz : wz.heap.size = eb + 1 := by rw [hwz, heb]; simp
  have z0 : wz.cell? ⟨eb, 0, none⟩ = some (.int .i64 ah) := by rw [hwz, heb]; simp
  have z1 : wz.cell? ⟨eb, 1, none⟩ = some (.slice aZ Z.length kZ) := by rw [hwz, heb]; simp
  obtain ⟨w0, hw0⟩ : ∃ x, x = wz.alloc (.cells #[.string snm, .string stx, .int .i64 st, .int .i64 ln, .bool rp, .int .i64 fr, .int .i64 ev, .int .i64 ct, .int .i64 ti, .slice am mo.length km, .slice ad da.length kd, .slice aw we.length kw, .slice ap pk.length kp, .slice aM M.length kM, .slice aN N.length kN, .slice aC C.length kC, .slice aA A.length kA] 29) := ⟨_, rfl⟩
  have hb0 : Below wz.heap.size wz w0 := by rw [hw0]; exact (Below.refl _ _).alloc (Nat.le_refl _) _
  have ec := hw0 ▸ evC_new wz 29 snm stx st ln rp fr ev ct ti (.slice am mo.length km) (.slice ad da.length kd) (.slice aw we.length kw) (.slice ap pk.length kp) (.slice aM M.length kM) (.slice aN N.length kN) (.slice aC C.length kC) (.slice aA A.length kA)
  rw [hsz] at ec
  have z0 := cell_below hb0 z0; have z1 := cell_below hb0 z1
  have hbw : Below w.heap.size w w0 := hbz.trans (hb0.mono hbz.size)
  obtain ⟨F, hF⟩ : ∃ F, F = (evF nm tx st ln rp fr ev ct ti mo da we pk M N C A) := ⟨_, rfl⟩
  obtain ⟨ZF, hZF⟩ : ∃ F, F = zfault ah Z := ⟨_, rfl⟩
  have CK := Lib.hid (show Calls Tryz.prog 49 #[.agg #[.string snm, .string stx, .int .i64 st, .int .i64 ln, .bool rp, .int .i64 fr, .int .i64 ev, .int .i64 ct, .int .i64 ti, .slice am mo.length km, .slice ad da.length kd, .slice aw we.length kw, .slice ap pk.length kp, .slice aM M.length kM, .slice aN N.length kN, .slice aC C.length kC, .slice aA A.length kA]] w0 (fun e w' => e = .returned (.int .i64 F) ∧ Below w0.heap.size w0 w') by
    rw [hF, hsnm, hstx]
    exact revent_any nm tx st ln rp fr ev ct ti _ _ _ _ _ _ _ _ mo da we pk M N C A w0 (h1.below hbw) (h2.below hbw) (h3.below hbw) (h4.below hbw) (hM.below hbw) (hN.below hbw) (hC.below hbw) (hA.below hbw) hnm htx hcl hsm)
  have ZK := Lib.hid (show ∀ wx, Below w0.heap.size w0 wx → Calls Tryz.prog 36 #[.agg #[.int .i64 ah, .slice aZ Z.length kZ]] wx (fun e w' => e = .returned (.int .i64 ZF) ∧ Below wx.heap.size wx w') from fun wx hbx => by
    rw [hZF]; exact rzone_any _ Z ah wx (hZ.below (hbw.trans (hbx.mono hbw.size))))
  rw [← hsnm, ← hstx, ← hF, ← hZF]
  obtain ⟨YE, hYE⟩ : ∃ z, z = readyE F ZF := ⟨_, rfl⟩
  rw [← hYE]
  have YH := Lib.hid hYE
  have EC := Lib.hid ec; have BW := Lib.hid hbw; have WZ := Lib.hid hwz; have W0 := Lib.hid hw0; have EB := Lib.hid heb
  have Z0 := Lib.hid z0; have Z1 := Lib.hid z1
  clear h1 h2 h3 h4 hM hN hC hA hZ hwz hbz hsz hw0 hb0 ec hbw heb hds z0 z1 hF hZF hsnm hstx hnm htx hcl hsm hYE
  go_enter Tryz.func30, Tryz.ntmps30
  go_upto_region 1 with fail
  rw [← WZ.out, ← W0.out]
  rw [← EB.out]
  have k0 := EC.out.k0; have k1 := EC.out.k1; have k2 := EC.out.k2; have k3 := EC.out.k3; have k4 := EC.out.k4; have k5 := EC.out.k5; have k6 := EC.out.k6; have k7 := EC.out.k7; have k8 := EC.out.k8; have k9 := EC.out.k9; have k10 := EC.out.k10; have k11 := EC.out.k11; have k12 := EC.out.k12; have k13 := EC.out.k13; have k14 := EC.out.k14; have k15 := EC.out.k15; have k16 := EC.out.k16
  go_wp2_with fail
  refine CK.out.mono ?_; rintro e w1 ⟨rfl, hb1⟩
  have z0 := cell_below hb1 Z0.out
  have z1 := cell_below hb1 Z1.out
  have B1 := Lib.hid hb1
  clear hb1 k0 k1 k2 k3 k4 k5 k6 k7 k8 k9 k10 k11 k12 k13 k14 k15 k16
  by_cases h0 : F = 0
  · have RE := Lib.hid (show YE = ZF by rw [YH.out, readyE, if_neg (by omega)])
    have d0 : (F == 0) = true := by simpa using h0
    clear h0
    go_wp2_with fail
    refine (ZK.out _ B1.out).mono ?_; rintro e w2 ⟨rfl, hb2⟩
    have B2 := Lib.hid (B1.out.trans (hb2.mono B1.out.size))
    clear hb2 z0 z1
    go_wp2
    go_ret
    exact ⟨by first | (rw [RE.out]; done) | (rw [RE.out]; rfl), BW.out.trans (B2.out.mono BW.out.size)⟩
  · have RE := Lib.hid (show YE = F by rw [YH.out, readyE, if_pos h0])
    have d0 : (F == 0) = false := by simpa using h0
    clear h0 z0 z1
    go_wp2
    go_ret
    exact ⟨by first | (rw [RE.out]; done) | (rw [RE.out]; rfl), BW.out.trans (B1.out.mono BW.out.size)⟩

end Go.Proofs.YtgelojhpanbnaaaGreatDoor

namespace Go.Proofs.YtgelojhpanbnaaaGreatDoor
open Go.RowKit Go.Shelf
set_option linter.unusedSimpArgs false
set_option linter.unusedVariables false
attribute [local go_sem] Oper.semAt_some

theorem ev_ready (e : Ev) (ah : Int) (vZ : Value) (Z : List (Int × Int)) (w : World) (h : e.Rd w) (hs : e.Sm) (hZ : PairsR w vZ Z) :
    Calls Tryz.prog 30 #[.agg #[.int .i64 ah, vZ], .agg e.cells.toArray] w fun r w' => r = .returned (.int .i64 (readyE e.F (zfault ah Z))) ∧ Below w.heap.size w w' :=
  rready_any e.nm e.tx e.st e.ln e.rp e.fr e.ev e.ct e.ti _ _ _ _ _ _ _ _ e.mo e.da e.we e.pk e.M e.N e.C e.A ah vZ Z w h.r hZ h.nm h.tx h.cl hs

theorem ev_rbet (e : Ev) (ah : Int) (vZ : Value) (Z : List (Int × Int)) (a b : Int) (w : World) (h : e.Rd w) (hZ : PairsR w vZ Z) (h0 : betE e.F (zfault ah Z) a b = 0) :
    Calls Tryz.prog 97 #[.agg #[.int .i64 ah, vZ], .agg e.cells.toArray, .int .i64 a, .int .i64 b] w fun r w' => ∃ u, r = .returned u ∧ OwnT e.ln w.heap.size w' u (e.times ah Z a b) ∧ Below w.heap.size w w' := by
  obtain ⟨f0, z0, t1, t2, t3, t4⟩ := betE_0 h0
  have := timeB_yes t1; have := timeB_yes t2
  exact rbet_own (bs e.nm) (bs e.tx) e.st e.ln e.rp e.fr e.ev e.ct e.ti _ _ _ _ _ _ _ _ e.mo e.da e.we e.pk e.M e.N e.C e.A ah vZ Z a b w h.r (evF_facts f0) hZ z0 (by omega) (by omega)

def RallP (E : Int) (T : List TL) (w : World) (e : Ending) (w' : World) : Prop := ∃ v, e = .returned (.tuple #[v, .int .i64 E]) ∧ TssR w.heap.size w' v (if E = 0 then T else []) ∧ Below w.heap.size w w'

set_option maxRecDepth 100000 in
set_option maxHeartbeats 16000000 in
theorem rall_any (ah : Int) (vZ : Value) (Z : List (Int × Int)) (v : Value) (L : List Ev) (a b : Int) (w : World) (hL : EvsR w v L) (hS : ∀ e ∈ L, e.Sm) (hZ : PairsR w vZ Z) :
    Calls Tryz.prog 41 #[.agg #[.int .i64 ah, vZ], v, .int .i64 a, .int .i64 b] w
      (RallP (allE L.length (L.map (Ev.err ah Z a b)) (sumN (L.map fun e => (e.ln, e.times ah Z a b)))) (L.map fun e => (e.ln, e.times ah Z a b)) w) := by
  obtain ⟨p, cap, rfl, hc1, hc2, hcell⟩ := evsR_open hL
  unfold maxLen at hc2
  have hZ0 := hZ
  obtain ⟨aZ, kZ, rfl, -, -, -⟩ := pairsR_open hZ
  obtain ⟨eb, heb⟩ : ∃ x, x = w.heap.size := ⟨_, rfl⟩
  obtain ⟨wz, hwz⟩ : ∃ x, x = w.alloc (.cells #[.int .i64 ah, .slice aZ Z.length kZ] 33) := ⟨_, rfl⟩
  have hbz : Below w.heap.size w wz := by rw [hwz]; exact (Below.refl _ _).alloc (Nat.le_refl _) _
  have z0 : wz.cell? ⟨eb, 0, none⟩ = some (.int .i64 ah) := by rw [hwz, heb]; simp
  have z1 : wz.cell? ⟨eb, 1, none⟩ = some (.slice aZ Z.length kZ) := by rw [hwz, heb]; simp
  obtain ⟨T, hT⟩ : ∃ T, T = L.map fun e => (e.ln, e.times ah Z a b) := ⟨_, rfl⟩
  obtain ⟨es, hes⟩ : ∃ es, es = L.map (Ev.err ah Z a b) := ⟨_, rfl⟩
  obtain ⟨ys, hys⟩ : ∃ ys : List Int, ys = L.map fun e => readyE e.F (zfault ah Z) := ⟨_, rfl⟩
  obtain ⟨S, hSS⟩ : ∃ S, S = spanE a b := ⟨_, rfl⟩
  have lT : T.length = L.length := by rw [hT, List.length_map]
  have lE : es.length = L.length := by rw [hes, List.length_map]
  have lY : ys.length = L.length := by rw [hys, List.length_map]
  have YF := Lib.hid (show ∀ (k : Nat) (hk : k < L.length) (hY : k < ys.length) (wx : World), Below wz.heap.size wz wx → Calls Tryz.prog 30 #[.agg #[.int .i64 ah, .slice aZ Z.length kZ], .agg L[k].cells.toArray] wx (fun e w' => e = .returned (.int .i64 ys[k]) ∧ Below wx.heap.size wx w') from fun k hk hY wx hbx => by
    have hbw : Below w.heap.size w wx := hbz.trans (hbx.mono hbz.size)
    have h := ev_ready L[k] ah _ Z wx ((hL.2 _ (List.getElem_mem _)).below hbw) (hS _ (List.getElem_mem _)) (hZ0.below hbw)
    have e1 : ys[k] = readyE L[k].F (zfault ah Z) := by simp [hys]
    rw [e1]; exact h)
  have BF := Lib.hid (show ∀ (k : Nat) (hk : k < L.length) (hY : k < ys.length) (hT2 : k < T.length), (if ys[k] ≠ 0 then ys[k] else S) = 0 → ∀ (wx : World), Below wz.heap.size wz wx → Calls Tryz.prog 97 #[.agg #[.int .i64 ah, .slice aZ Z.length kZ], .agg L[k].cells.toArray, .int .i64 a, .int .i64 b] wx (fun e w' => ∃ u, e = .returned u ∧ OwnT L[k].ln wx.heap.size w' u T[k].2 ∧ Below wx.heap.size wx w') from fun k hk hY hT2 h0 wx hbx => by
    have hbw : Below w.heap.size w wx := hbz.trans (hbx.mono hbz.size)
    have e1 : T[k] = (L[k].ln, L[k].times ah Z a b) := by simp [hT]
    have e2 : ys[k] = readyE L[k].F (zfault ah Z) := by simp [hys]
    rw [e1]
    exact ev_rbet L[k] ah _ Z a b wx ((hL.2 _ (List.getElem_mem _)).below hbw) (hZ0.below hbw) (by rw [e2, hSS] at h0; exact h0))
  have EE := Lib.hid (show ∀ (k : Nat) (hk : k < L.length) (hY : k < ys.length) (hT2 : k < T.length) (hE2 : k < es.length), es[k] = fullN (if ys[k] ≠ 0 then ys[k] else S) T[k].2.length from fun k hk hY hT2 hE2 => by
    simp [hes, hys, hT, Ev.err, betE, hSS])
  have RD := Lib.hid (show ∀ (k : Nat) (hk : k < L.length) (wx : World), Below wz.heap.size wz wx → L[k].Rd wx from fun k hk wx hbx => (hL.2 _ (List.getElem_mem _)).below (hbz.trans (hbx.mono hbz.size)))
  have TL1 := Lib.hid (show ∀ (k : Nat) (hk : k < L.length) (hT2 : k < T.length), T[k].1 = L[k].ln from fun k hk hT2 => by simp [hT])
  have RS := Lib.hid (show ∀ wx, Calls Tryz.prog 31 #[.int .i64 a, .int .i64 b] wx (fun e w' => e = .returned (.int .i64 S) ∧ wx = w') from fun wx => by rw [hSS]; exact rstretch_any a b wx)
  rw [← hT, ← hes]
  have HC := Lib.hid (show 0 < L.length → ∃ b off, p = some ⟨b, off, none⟩ ∧ ∀ (k : Nat) (hk : k < L.length), EvO wz b (off + k * 17) L[k] from fun hp => by
    obtain ⟨b, off, e1, e2⟩ := hcell hp
    exact ⟨b, off, e1, fun k hk => (e2 k hk).below hbz⟩)
  have BW := Lib.hid hbz; have WZ := Lib.hid hwz; have EB := Lib.hid heb
  have Z0 := Lib.hid z0; have Z1 := Lib.hid z1
  have LT := Lib.hid lT; have LE := Lib.hid lE; have LY := Lib.hid lY
  obtain ⟨len, hlen⟩ : ∃ n, n = L.length := ⟨_, rfl⟩
  have NL := Lib.hid hlen
  rw [← hlen] at hc1 ⊢
  clear hL hS hZ hZ0 hwz hbz heb hcell hT hes hys hSS lT lE lY z0 z1 hlen
  go_enter Tryz.func41, Tryz.ntmps41
  go_upto_region 1 with fail
  rw [← WZ.out]
  rw [← EB.out]
  by_cases h20 : 20 < len
  · have t1 : decide ((20 : Int) < (len : Int)) = true := decide_eq_true (by omega)
    have t1b : decide (20 < len) = true := decide_eq_true h20
    have FE := Lib.hid (show allE len es (sumN T) = 4 by rw [allE, if_pos h20])
    clear h20
    go_wp2
    go_ret2
    exact ⟨_, by rw [FE.out]; rfl, by rw [FE.out]; exact TssR.nil _ _, BW.out⟩
  have H20 := Lib.hid h20
  have t1 : decide ((20 : Int) < (len : Int)) = false := decide_eq_false (by omega)
  have t1b : decide (20 < len) = false := decide_eq_false h20
  have l20 : len ≤ 20 := by omega
  clear h20
  obtain ⟨it, hit, ht0, ht1, ht2⟩ := info_parts tssInfo
  go_upto_region 3 with fail
  go_wp2_with fail
  clear t1 t1b
  go_loopg [10, 11, 12] len (fun g ov nv iv wr => ∃ k n : Nat, k ≤ len ∧ iv = .int .i64 k ∧ g = len - k ∧ nv = .int .i64 n ∧ n = sumN (T.take k) ∧ n ≤ 200 * k ∧ TssR wz.heap.size wr ov (T.take k) ∧ fstE (es.take k) = 0 ∧ Below wz.heap.size wz wr)
  case atStart => exact ⟨0, 0, Nat.zero_le _, rfl, rfl, rfl, rfl, by omega, TssR.nil _ _, rfl, Below.refl _ _⟩
  case round => as_aux_lemma =>
    obtain ⟨k, n, hk, rfl, hg, rfl, hn, hnk, ho, hf, hb⟩ := hrel
    obtain ⟨w1, rfl⟩ : ∃ x, x = wr := ⟨_, rfl⟩
    have G := Lib.hid hg; have OW := Lib.hid ho; have HF := Lib.hid hf; have B1 := Lib.hid hb; have HN := Lib.hid hn
    clear hg ho hf hb hn
    by_cases hlt : k < len
    · have hk1 : k < L.length := by rw [← NL.out]; exact hlt
      have hk2 : k < T.length := by rw [LT.out]; exact hk1
      have hk3 : k < es.length := by rw [LE.out]; exact hk1
      have hk4 : k < ys.length := by rw [LY.out]; exact hk1
      obtain ⟨lb, lo, rfl, hcs⟩ := HC.out (by omega)
      have eo := hcs k hk1
      have YT := Lib.hid (YF.out k hk1 hk4)
      have BT := Lib.hid (BF.out k hk1 hk4 hk2)
      have rd := RD.out k hk1 _ B1.out
      have T1 := Lib.hid (TL1.out k hk1 hk2)
      have E2 := Lib.hid (EE.out k hk1 hk4 hk2 hk3)
      have SN := Lib.hid (sumN_next hk2)
      have TN := Lib.hid (show T.take (k + 1) = T.take k ++ [T[k]] from List.take_succ_eq_append_getElem hk2)
      have EN := Lib.hid (show fstE (es.take (k + 1)) = es[k] by rw [List.take_succ_eq_append_getElem hk3, fstE_app, if_neg (by rw [HF.out]; simp), fstE_one])
      have ED := Lib.hid (show es[k] ≠ 0 → allE len es (sumN T) = es[k] from fun h => by
        have h1 : fstE es = es[k] := by
          have h2 : fstE es = fstE (es.take (k + 1) ++ es.drop (k + 1)) := by rw [List.take_append_drop]
          rw [h2, fstE_app, EN.out, if_pos h]
        rw [allE, if_neg H20.out, if_pos (by rw [h1]; exact h), h1])
      obtain ⟨e, he⟩ : ∃ e, e = L[k] := ⟨_, rfl⟩
      rw [← he] at eo BT YT rd T1
      obtain ⟨E, hE⟩ : ∃ E, E = es[k] := ⟨_, rfl⟩
      rw [← hE] at E2 EN ED
      obtain ⟨y, hy⟩ : ∃ y, y = ys[k] := ⟨_, rfl⟩
      rw [← hy] at YT BT E2
      obtain ⟨R, hR⟩ : ∃ R, R = T[k] := ⟨_, rfl⟩
      rw [← hR] at BT E2 TN SN T1
      obtain ⟨nm, tx, st, ln, rp, fr, ev, ct, ti, vm, vd, vw, vp, vM, vN, vC, vA, mo, da, we, pk, M, N, C, A⟩ := e
      have EO := Lib.hid eo
      simp only [Ev.cells] at BT YT T1
      obtain ⟨hR0, -, -, -⟩ := rd
      simp only at hR0
      obtain ⟨h1, h2, h3, h4, hM, hN, hC, hA⟩ := hR0
      obtain ⟨am, km, rfl, -, -, -⟩ := intsR_open h1
      obtain ⟨ad, kd, rfl, -, -, -⟩ := intsR_open h2
      obtain ⟨aw, kw, rfl, -, -, -⟩ := pairsR_open h3
      obtain ⟨ap, kp, rfl, -, -, -⟩ := intsR_open h4
      obtain ⟨aM, kM, rfl, -, -, -⟩ := intsR_open hM
      obtain ⟨aN, kN, rfl, -, -, -⟩ := intsR_open hN
      obtain ⟨aC, kC, rfl, -, -, -⟩ := pairsR_open hC
      obtain ⟨aA, kA, rfl, -, -, -⟩ := almsR_open hA
      obtain ⟨X, hX⟩ : ∃ X, X = if y ≠ 0 then y else S := ⟨_, rfl⟩
      rw [← hX] at BT E2
      have XE := Lib.hid hX
      have i0 : (0 : Int) ≤ (k : Int) := Int.natCast_nonneg _
      have i2 : (k : Int) < (len : Int) := by omega
      clear he hE hR hy hX h1 h2 h3 h4 hM hN hC hA hcs eo
      obtain ⟨q0, q1, q2, q3, q4, q5, q6, q7, q8, q9, q10, q11, q12, q13, q14, q15, q16⟩ := EO.out.below B1.out
      simp only at q0 q1 q2 q3 q4 q5 q6 q7 q8 q9 q10 q11 q12 q13 q14 q15 q16
      have z0 := cell_below B1.out Z0.out; have z1 := cell_below B1.out Z1.out
      have YD := Lib.hid (YT.out w1.drew B1.out.drew)
      go_upto_region 8 with fail
      go_cut [13] (fun s13 wx => s13 = .int .i64 y ∧ Below w1.heap.size w1 wx)
      case first => as_aux_lemma =>
        go_still_tail 5, (by kernel_rfl)
        change wpList _ _ _ _ _ w1.drew
        go_wp2_with fail
        refine YD.out.mono ?_; rintro e w3 ⟨rfl, hb⟩
        have HB := Lib.hid ((Below.refl w1.heap.size w1).drew.trans hb)
        clear hb z0 z1 q0 q1 q2 q3 q4 q5 q6 q7 q8 q9 q10 q11 q12 q13 q14 q15 q16
        go_wp2
        go_meet
        exact ⟨rfl, HB.out⟩
      case rest => as_aux_lemma =>
      obtain ⟨rfl, hb2⟩ := hcut
      obtain ⟨w2, rfl⟩ : ∃ x, x = wc := ⟨_, rfl⟩
      have B12 := Lib.hid hb2
      have B2 := Lib.hid (B1.out.trans (hb2.mono B1.out.size))
      clear hb2 z0 z1 YD YT q0 q1 q2 q3 q4 q5 q6 q7 q8 q9 q10 q11 q12 q13 q14 q15 q16
      go_upto_if 31 with fail
      go_cut [13] (fun s13 wx => s13 = .int .i64 X ∧ w2 = wx)
      case first => as_aux_lemma =>
        by_cases h0 : y = 0
        · have d0 : (y == 0) = true := by simpa using h0
          have e : X = S := by rw [XE.out, if_neg (by omega)]
          subst e
          clear h0 BT E2
          go_wp2_with (go_at_call 31; refine (RS.out _).mono ?_; rintro e w' ⟨rfl, rfl⟩)
          go_meet
          exact ⟨rfl, rfl⟩
        · have d0 : (y == 0) = false := by simpa using h0
          have e : X = y := by rw [XE.out, if_pos h0]
          subst e
          clear h0 BT E2
          go_wp2
          go_meet
          exact ⟨rfl, rfl⟩
      case rest =>
      obtain ⟨rfl, rfl⟩ := hcut
      by_cases h0 : X = 0
      case neg =>
        have d0 : (X != 0) = true := by simpa using h0
        have EX : E = X := by rw [E2.out, fullN, if_neg (by omega)]
        have FE := Lib.hid ((ED.out (by rw [EX]; exact h0)).trans EX)
        have H0 := Lib.hid h0
        clear h0 EX
        go_wp2
        go_ret2
        exact ⟨_, by first | (rw [FE.out]; done) | (rw [FE.out]; rfl), by rw [FE.out, if_neg H0.out]; exact TssR.nil _ _, BW.out.trans (B2.out.mono BW.out.size)⟩
      subst h0
      have d0 : ((0 : Int) != 0) = false := by decide
      obtain ⟨q0, q1, q2, q3, q4, q5, q6, q7, q8, q9, q10, q11, q12, q13, q14, q15, q16⟩ := EO.out.below B2.out
      simp only at q0 q1 q2 q3 q4 q5 q6 q7 q8 q9 q10 q11 q12 q13 q14 q15 q16
      have z0 := cell_below B2.out Z0.out; have z1 := cell_below B2.out Z1.out
      have NX := Lib.hid (BT.out rfl w2.drew B2.out.drew)
      go_upto_region 13 with fail
      go_cut [14] (fun s14 wx => ∃ v, s14 = v ∧ OwnT ln w2.heap.size wx v R.2 ∧ Below w2.heap.size w2 wx)
      case first => as_aux_lemma =>
        go_still_tail 7, (by kernel_rfl)
        change wpList _ _ _ _ _ w2.drew
        go_wp2_with fail
        refine NX.out.mono ?_; rintro e w3 ⟨v, rfl, hv, hb⟩
        have HV := Lib.hid hv; have HB := Lib.hid ((Below.refl w2.heap.size w2).drew.trans hb)
        clear hv hb z0 z1 q0 q1 q2 q3 q4 q5 q6 q7 q8 q9 q10 q11 q12 q13 q14 q15 q16
        go_wp2
        go_meet
        exact ⟨_, rfl, HV.out, HB.out⟩
      case rest => as_aux_lemma =>
      obtain ⟨v, rfl, hv, hb3⟩ := hcut
      obtain ⟨w3, rfl⟩ : ∃ x, x = wc := ⟨_, rfl⟩
      have B23 := Lib.hid hb3
      have B3 := Lib.hid (B2.out.trans (hb3.mono B2.out.size))
      clear hb3 z0 z1 NX q0 q1 q2 q3 q4 q5 q6 q7 q8 q9 q10 q11 q12 q13 q14 q15 q16
      obtain ⟨va, vc, rfl, hvc, -, -⟩ := owns_cells hv
      unfold maxLen at hvc
      have TV := Lib.hid (show TmsR R.1 w3 (.slice va R.2.length vc) R.2 by rw [T1.out]; exact hv.tms)
      have VL := Lib.hid (World.ownsRow.lt hv)
      obtain ⟨r, hr⟩ : ∃ r, r = R.2.length := ⟨_, rfl⟩
      rw [← hr] at TV VL SN E2
      rw [← hr]
      clear hv hr
      by_cases h200 : 200 < r
      · have t2 : decide ((200 : Int) < (r : Int)) = true := decide_eq_true (by omega)
        have t2b : decide (200 < r) = true := decide_eq_true h200
        have EX : E = 4 := by rw [E2.out, fullN, if_pos ⟨rfl, h200⟩]
        have FE := Lib.hid ((ED.out (by omega)).trans EX)
        clear h200 EX
        go_wp2
        go_ret2
        exact ⟨_, by first | (rw [FE.out]; done) | (rw [FE.out]; rfl), by rw [FE.out]; exact TssR.nil _ _, BW.out.trans (B3.out.mono BW.out.size)⟩
      have t2 : decide ((200 : Int) < (r : Int)) = false := decide_eq_false (by omega)
      have t2b : decide (200 < r) = false := decide_eq_false h200
      have l200 : r ≤ 200 := by omega
      have E0 : E = 0 := by rw [E2.out, fullN, if_neg (by omega)]
      subst E0
      clear h200 ED E2
      obtain ⟨S1, hS⟩ := OW.out
      have lt1 : (T.take k).length = k := by rw [List.length_take]; omega
      have OB1 := Lib.hid (World.ownsRow.lt hS.own)
      have hb13 : Below w1.heap.size w1 w3 := B12.out.trans (B23.out.mono B12.out.size)
      have hS3 := hS.below hb13
      have s2 := hS3.own
      rw [lt1] at s2
      obtain ⟨oa, oc, rfl, -, -, -⟩ := owns_cells s2
      have S2 := Lib.hid s2; have S3 := Lib.hid hS3
      have SEP := Lib.hid (show ∀ b, (Value.slice va r vc).ownBlock = some b → (Value.slice oa k oc).ownBlock ≠ some b ∧ b < w3.heap.size from fun b hb => by
        have h1 := VL.out b hb
        refine ⟨fun he => ?_, h1.2⟩
        have h2 := OB1.out b he
        have h3 := B12.out.size
        omega)
      have LT1 := Lib.hid lt1
      clear hS hS3 s2 hb13 lt1 OB1 VL
      have sw : IntKind.i64.wrap ((n : Int) + (r : Int)) = ((n + r : Nat) : Int) := by rw [Int.natCast_add]; exact IntWalk.i64_in _ (by omega)
      have sw1 : IntKind.i64.wrap ((k : Int) + 1) = ((k + 1 : Nat) : Int) := by rw [Int.natCast_add]; exact IntWalk.i64_in _ (by omega)
      have hsz3 := B3.out.size
      go_wp2_with (at_builtin; refine wpList_append_own_at _ rfl _ _ 95 rfl wz.heap.size 47 it _ 1 24 Tryz.underlying95 hit ht0 ht1 ht2 rfl (by decide) (.slice oa k oc) k S1 rfl (S2.out.alloc _) ⟨w3.heap.size, 0, none⟩ 1 1 [.slice va r vc] rfl rfl (cell_one_new _ _ _) (by simp [Value.oneCell']) (by unfold maxLen; omega) (by omega) (by rw [World.size_alloc]; omega) ?_; intro v8 w8 hown8 hg8 _ hat8)
      have TS := Lib.hid (show TssR wz.heap.size w8 v8 (T.take (k + 1)) by
        rw [TN.out]
        exact ⟨S1 ++ [.slice va r vc], S3.out.push TV.out rfl SEP.out hg8 (by rw [LT1.out]; exact hown8) hat8⟩)
      have hb38 : Below wz.heap.size wz w8 := (B3.out.alloc hsz3 _).grown hg8 (by rw [World.size_alloc]; omega) (ownBlock_ge S2.out)
      have B8 := Lib.hid hb38
      clear hown8 hg8 hat8 hb38
      go_wp2
      go_roundg (len - (k + 1))
      case measure => rw [G.out]; omega
      case rel => exact ⟨k + 1, n + r, by omega, by go_num, rfl, rfl, by rw [HN.out, SN.out], by omega, TS.out, EN.out, B8.out⟩
    · obtain rfl : k = len := by omega
      have i2 : ¬ (k : Int) < (k : Int) := by omega
      have e1 : T.take k = T := List.take_of_length_le (by rw [LT.out, ← NL.out]; exact Nat.le_refl _)
      have e2 : es.take k = es := List.take_of_length_le (by rw [LE.out, ← NL.out]; exact Nat.le_refl _)
      rw [e1] at OW HN; rw [e2] at HF
      have FE := Lib.hid (show allE k es (sumN T) = if 200 < n then 4 else 0 by rw [allE, if_neg H20.out, if_neg (by rw [HF.out]; simp), ← HN.out])
      clear e1 e2
      by_cases h2 : 200 < n
      · have t2 : decide ((200 : Int) < (n : Int)) = true := decide_eq_true (by omega)
        have t2b : decide (200 < n) = true := decide_eq_true h2
        have FE2 := Lib.hid (show allE k es (sumN T) = 4 by rw [FE.out, if_pos h2])
        clear h2
        go_wp2
        go_ret2
        exact ⟨_, by first | (rw [FE2.out]; done) | (rw [FE2.out]; rfl), by rw [FE2.out]; exact TssR.nil _ _, BW.out.trans (B1.out.mono BW.out.size)⟩
      · have t2 : decide ((200 : Int) < (n : Int)) = false := decide_eq_false (by omega)
        have t2b : decide (200 < n) = false := decide_eq_false h2
        have FE2 := Lib.hid (show allE k es (sumN T) = 0 by rw [FE.out, if_neg h2])
        clear h2
        go_wp2
        go_ret2
        exact ⟨_, by first | (rw [FE2.out]; done) | (rw [FE2.out]; rfl), by rw [FE2.out, if_pos rfl]; exact OW.out.mono BW.out.size, BW.out.trans (B1.out.mono BW.out.size)⟩

end Go.Proofs.YtgelojhpanbnaaaGreatDoor

namespace Go.Proofs.YtgelojhpanbnaaaGreatDoor
open Go.RowKit Go.Shelf
set_option linter.unusedSimpArgs false
set_option linter.unusedVariables false

theorem pairsV_snoc (L : List (Int × Int)) (x y : Int) : pairsV (L ++ [(x, y)]) = pairsV L ++ [.int .i64 x, .int .i64 y] := by simp [pairsV]

def strT (t : TL) : List (Int × Int) := t.2.map fun x => (x.2, x.2 + t.1)

theorem takenL_snoc (T : List TL) (k : Nat) (h : k < T.length) : takenL (T.take (k + 1)) = takenL (T.take k) ++ strT T[k] := by
  unfold takenL catT strT
  rw [List.take_succ_eq_append_getElem h, List.flatMap_append, List.map_append]
  congr 1
  simp

theorem takenL_le (T : List TL) (k : Nat) : (takenL (T.take k)).length ≤ sumN T := by rw [takenL_len]; exact sumN_le

set_option maxRecDepth 100000 in
set_option maxHeartbeats 16000000 in
theorem rtaken_any (ah : Int) (vZ : Value) (Z : List (Int × Int)) (v : Value) (L : List Ev) (a b : Int) (w : World) (hL : EvsR w v L) (hS : ∀ e ∈ L, e.Sm) (hZ : PairsR w vZ Z) (E : Int) (T : List TL)
    (hT : T = L.map fun e => (e.ln, e.times ah Z a b)) (hE : E = allE L.length (L.map (Ev.err ah Z a b)) (sumN T)) (hln : E = 0 → ∀ t ∈ T, 0 ≤ t.1) :
    Calls Tryz.prog 38 #[.agg #[.int .i64 ah, vZ], v, .int .i64 a, .int .i64 b] w
      (fun e w' => ∃ u, e = .returned (.tuple #[u, .int .i64 E]) ∧ w'.ownsRow w.heap.size 177 2 u (normL (takenL (if E = 0 then T else []))).length (pairsV (normL (takenL (if E = 0 then T else [])))) ∧ Below w.heap.size w w') := by
  have hZ0 := hZ
  obtain ⟨aZ, kZ, rfl, -, -, -⟩ := pairsR_open hZ
  obtain ⟨eb, heb⟩ : ∃ x, x = w.heap.size := ⟨_, rfl⟩
  obtain ⟨wz, hwz⟩ : ∃ x, x = w.alloc (.cells #[.int .i64 ah, .slice aZ Z.length kZ] 33) := ⟨_, rfl⟩
  have hbz : Below w.heap.size w wz := by rw [hwz]; exact (Below.refl _ _).alloc (Nat.le_refl _) _
  have z0 : wz.cell? ⟨eb, 0, none⟩ = some (.int .i64 ah) := by rw [hwz, heb]; simp
  have z1 : wz.cell? ⟨eb, 1, none⟩ = some (.slice aZ Z.length kZ) := by rw [hwz, heb]; simp
  have RA := Lib.hid (show Calls Tryz.prog 41 #[.agg #[.int .i64 ah, .slice aZ Z.length kZ], v, .int .i64 a, .int .i64 b] wz (RallP E T wz) by
    have h := rall_any ah _ Z v L a b wz (hL.below hbz) hS (hZ0.below hbz)
    rw [← hT, ← hE] at h; exact h)
  obtain ⟨TT, hTT⟩ : ∃ TT, TT = if E = 0 then T else [] := ⟨_, rfl⟩
  have S2 := Lib.hid (show sumN TT ≤ 200 by
    rw [hTT]
    by_cases h : E = 0
    · rw [if_pos h]; exact (allE_0 (hE.symm.trans h)).2.2
    · rw [if_neg h]; simp [sumN])
  have S3 := Lib.hid (show TT.length ≤ 20 by
    rw [hTT]
    by_cases h : E = 0
    · rw [if_pos h, hT, List.length_map]; exact (allE_0 (hE.symm.trans h)).1
    · rw [if_neg h]; simp)
  have LN := Lib.hid (show ∀ x ∈ takenL TT, x.1 ≤ x.2 from fun x hx => by
    obtain ⟨t, ht, y, hy, rfl⟩ := takenL_mem.1 hx
    rw [hTT] at ht
    by_cases h : E = 0
    · rw [if_pos h] at ht; have := hln h t ht; simp only; omega
    · rw [if_neg h] at ht; cases ht)
  have BW := Lib.hid hbz; have WZ := Lib.hid hwz; have EB := Lib.hid heb
  have TE := Lib.hid hTT
  rw [← hTT]
  clear hL hS hZ hZ0 hT hE hln hbz hwz heb hTT
  go_enter Tryz.func38, Tryz.ntmps38
  go_upto_region 1 with fail
  rw [← WZ.out]
  rw [← EB.out]
  go_cut [10, 11] (fun s10 s11 wx => ∃ v, s10 = v ∧ s11 = .int .i64 E ∧ TssR wz.heap.size wx v TT ∧ Below wz.heap.size wz wx)
  case first => as_aux_lemma =>
    go_wp2_with fail
    refine RA.out.mono ?_; rintro e w1 ⟨v, rfl, hv, hb⟩
    rw [← TE.out] at hv
    have HV := Lib.hid hv; have HB := Lib.hid hb
    clear hv hb z0 z1
    go_wp2
    go_meet
    exact ⟨_, rfl, rfl, HV.out, HB.out⟩
  case rest =>
  clear z0 z1 RA
  obtain ⟨v1, rfl, rfl, ⟨S, hS⟩, hb1⟩ := hcut
  obtain ⟨w1, rfl⟩ : ∃ x, x = wc := ⟨_, rfl⟩
  have B1 := Lib.hid (BW.out.trans (hb1.mono BW.out.size))
  have hb1s := Lib.hid hb1.size
  obtain ⟨ta, tc, rfl, -, -, hcs⟩ := tss_at hS
  have HD := Lib.hid hcs
  obtain ⟨n, hn⟩ : ∃ n, n = TT.length := ⟨_, rfl⟩
  have NE := Lib.hid hn
  have n20 : n ≤ 20 := by rw [hn]; exact S3.out
  rw [← hn]
  clear hS hcs hb1 hn
  obtain ⟨it, hit, ht0, ht1, ht2⟩ := info_parts busyInfo
  go_upto_region 2 with fail
  go_wp2_with fail
  go_loopg [12, 13] n (fun g ov iv wr => ∃ k : Nat, k ≤ n ∧ iv = .int .i64 k ∧ g = n - k ∧ wr.ownsRow w1.heap.size 177 2 ov (takenL (TT.take k)).length (pairsV (takenL (TT.take k))) ∧ Below w1.heap.size w1 wr)
  case atStart => exact ⟨0, Nat.zero_le _, rfl, rfl, World.ownsRow_nil _ _ _ _, Below.refl _ _⟩
  case round => as_aux_lemma =>
    obtain ⟨k, hk, rfl, hg, ho, hb⟩ := hrel
    obtain ⟨w2, rfl⟩ : ∃ x, x = wr := ⟨_, rfl⟩
    have G := Lib.hid hg; have OW := Lib.hid ho; have B2 := Lib.hid hb
    clear hg ho hb
    by_cases hlt : k < n
    · have hk2 : k < TT.length := by rw [← NE.out]; exact hlt
      obtain ⟨gb, rfl, hcs⟩ := HD.out (by omega)
      obtain ⟨p, c, c0, tr⟩ := hcs k hk2
      have TN := Lib.hid (takenL_snoc TT k hk2)
      have ol : (takenL (TT.take (k + 1))).length ≤ 200 := Nat.le_trans (takenL_le TT (k + 1)) S2.out
      obtain ⟨X, hX⟩ : ∃ X, X = TT[k] := ⟨_, rfl⟩
      rw [← hX] at c0 tr TN
      obtain ⟨x1, X2⟩ := X
      simp only at c0 tr TN
      obtain ⟨_, _, e1, -, -, tcs⟩ := tmsR_open tr
      cases e1
      obtain ⟨O, hO⟩ : ∃ O, O = takenL (TT.take k) := ⟨_, rfl⟩
      rw [← hO] at OW TN
      have SL := Lib.hid (show ∀ j, j ≤ X2.length → (O ++ (strT (x1, X2)).take j).length ≤ 200 from fun j hj => by
        rw [TN.out, List.length_append] at ol
        have := List.length_take_le j (strT (x1, X2))
        have h2 : ((strT (x1, X2)).take j).length ≤ (strT (x1, X2)).length := by rw [List.length_take]; omega
        rw [List.length_append]; omega)
      have C0 := Lib.hid c0; have XC := Lib.hid tcs
      have ml : X2.length ≤ 200 := by
        have h := ol
        rw [TN.out, List.length_append] at h
        simp [strT] at h; omega
      obtain ⟨m, hm⟩ : ∃ m, m = X2.length := ⟨_, rfl⟩
      rw [← hm] at ml
      have ME := Lib.hid hm
      rw [← hm] at C0 SL
      clear hX hcs tr tcs hO hm ol c0
      have i0 : (0 : Int) ≤ (k : Int) := Int.natCast_nonneg _
      have i1 : (k : Int) < (n : Int) := by omega
      go_upto_region 6 with fail
      go_upto_block 2 with fail
      go_wp2_with fail
      go_loopg [12, 14] m (fun g pv iv wx => ∃ j : Nat, j ≤ m ∧ iv = .int .i64 j ∧ g = m - j ∧ wx.ownsRow w1.heap.size 177 2 pv (O ++ (strT (x1, X2)).take j).length (pairsV (O ++ (strT (x1, X2)).take j)) ∧ Below w1.heap.size w1 wx)
      case atStart => exact ⟨0, Nat.zero_le _, rfl, rfl, by simpa using OW.out, B2.out⟩
      case round => as_aux_lemma =>
        obtain ⟨j, hj, rfl, hg2, ho2, hb2⟩ := hrel
        have G2 := Lib.hid hg2; have OW2 := Lib.hid ho2; have B3 := Lib.hid hb2
        have c0 := cell_below hb2 C0.out
        clear hg2 ho2 hb2
        by_cases hlt2 : j < m
        · have hj2 : j < X2.length := by rw [← ME.out]; exact hlt2
          obtain ⟨xb, xo, rfl, hx⟩ := XC.out (by omega)
          have Q1 := Lib.hid (hx j hj2).2.1
          have Q2 := Lib.hid (hx j hj2).2.2
          have QN := Lib.hid (show (strT (x1, X2)).take (j + 1) = (strT (x1, X2)).take j ++ [(X2[j].2, X2[j].2 + x1)] by
            rw [List.take_succ_eq_append_getElem (by simp [strT]; exact hj2)]; simp [strT])
          obtain ⟨x2, hx2⟩ : ∃ x, x = X2[j].2 := ⟨_, rfl⟩
          rw [← hx2] at Q1 Q2 QN
          obtain ⟨x3, hx3⟩ : ∃ x, x = x2 + x1 := ⟨_, rfl⟩
          rw [← hx3] at Q2 QN
          obtain ⟨Q, hQ⟩ : ∃ Q, Q = O ++ (strT (x1, X2)).take j := ⟨_, rfl⟩
          have QE := Lib.hid (show O ++ (strT (x1, X2)).take (j + 1) = Q ++ [(x2, x3)] by rw [QN.out, hQ, List.append_assoc])
          have ql : Q.length ≤ 200 := by rw [hQ]; exact SL.out j hj
          rw [← hQ] at OW2
          obtain ⟨qa, qc, rfl, -, -, -⟩ := owns_cells OW2.out
          have i2 : (0 : Int) ≤ (j : Int) := Int.natCast_nonneg _
          have i3 : (j : Int) < (m : Int) := by omega
          clear hx hx2 hx3 hQ QN
          go_upto_region 9 with fail
          clear c0
          refine wp_region_held_drew (S := (fun w' => Below w1.heap.size w1 w')) (by kernel_rfl) B3.out.drew (fun hHeld => ?_)
          refine wpAnyH_take (i := 0) (v := ?_) rfl (by kernel_rfl) (by kernel_rfl) (by kernel_rfl) (fun _ _ _ h => h) (Or.inl ⟨by rfl, ?_⟩) hHeld ?_
          rotate_left
          · (intro w hSw; (try dsimp only at hSw); go_simp <;> with_reducible rfl)
          change wpAnyH _ _ _ _ _ _ _ (Act.put _ (some 38) _) _
          try simp only [Act.put, List.setIfInBounds_toArray, List.set_cons_zero, List.set_cons_succ]
          refine wpAnyH_take (i := 1) (v := ?_) rfl (by kernel_rfl) (by kernel_rfl) (by kernel_rfl) (fun _ _ _ h => h) (Or.inl ⟨by rfl, ?_⟩) hHeld ?_
          rotate_left
          · (intro w hSw; (try dsimp only at hSw); go_simp <;> with_reducible rfl)
          change wpAnyH _ _ _ _ _ _ _ (Act.put _ (some 39) _) _
          try simp only [Act.put, List.setIfInBounds_toArray, List.set_cons_zero, List.set_cons_succ]
          refine wpAnyH_take (i := 2) (v := ?_) rfl (by kernel_rfl) (by kernel_rfl) (by kernel_rfl) (fun _ _ _ h => h) (Or.inl ⟨by rfl, ?_⟩) hHeld ?_
          rotate_left
          · (intro w hSw; (try dsimp only at hSw); go_simp <;> with_reducible rfl)
          change wpAnyH _ _ _ _ _ _ _ (Act.put _ (some 40) _) _
          try simp only [Act.put, List.setIfInBounds_toArray, List.set_cons_zero, List.set_cons_succ]
          refine wpAnyH_take (i := 3) (v := ?_) rfl (by kernel_rfl) (by kernel_rfl) (by kernel_rfl) (fun _ _ _ h => h) (Or.inl ⟨by rfl, ?_⟩) hHeld ?_
          rotate_left
          · (intro w hSw; (try dsimp only at hSw); go_simp <;> with_reducible rfl)
          change wpAnyH _ _ _ _ _ _ _ (Act.put _ (some 41) _) _
          try simp only [Act.put, List.setIfInBounds_toArray, List.set_cons_zero, List.set_cons_succ]
          refine wpAnyH_take (i := 4) (v := ?_) rfl (by kernel_rfl) (by kernel_rfl) (by kernel_rfl) (fun _ _ _ h => h) (Or.inl ⟨by rfl, ?_⟩) hHeld ?_
          rotate_left
          · (intro w hSw; (try dsimp only at hSw); have c0 := cell_below hSw C0.out; go_simp <;> with_reducible rfl)
          change wpAnyH _ _ _ _ _ _ _ (Act.put _ (some 42) _) _
          try simp only [Act.put, List.setIfInBounds_toArray, List.set_cons_zero, List.set_cons_succ]
          refine wpAnyH_take (i := 5) (v := ?_) rfl (by kernel_rfl) (by kernel_rfl) (by kernel_rfl) (fun _ _ _ h => h) (Or.inl ⟨by rfl, ?_⟩) hHeld ?_
          rotate_left
          · (intro w hSw; (try dsimp only at hSw); go_simp <;> with_reducible rfl)
          change wpAnyH _ _ _ _ _ _ _ (Act.put _ (some 43) _) _
          try simp only [Act.put, List.setIfInBounds_toArray, List.set_cons_zero, List.set_cons_succ]
          refine wpAnyH_take (i := 6) (v := ?_) rfl (by kernel_rfl) (by kernel_rfl) (by kernel_rfl) (fun _ _ _ h => h) (Or.inl ⟨by rfl, ?_⟩) hHeld ?_
          rotate_left
          · (intro w hSw; (try dsimp only at hSw); go_simp <;> with_reducible rfl)
          change wpAnyH _ _ _ _ _ _ _ (Act.put _ (some 44) _) _
          try simp only [Act.put, List.setIfInBounds_toArray, List.set_cons_zero, List.set_cons_succ]
          refine wpAnyH_take (i := 7) (v := ?_) rfl (by kernel_rfl) (by kernel_rfl) (by kernel_rfl) (fun _ _ _ h => h) (Or.inl ⟨by rfl, ?_⟩) hHeld ?_
          rotate_left
          · (intro w hSw; (try dsimp only at hSw); go_simp <;> with_reducible rfl)
          change wpAnyH _ _ _ _ _ _ _ (Act.put _ (some 45) _) _
          try simp only [Act.put, List.setIfInBounds_toArray, List.set_cons_zero, List.set_cons_succ]
          refine wpAnyH_take (i := 8) (v := ?_) rfl (by kernel_rfl) (by kernel_rfl) (by kernel_rfl) (fun _ _ _ h => h) (Or.inl ⟨by rfl, ?_⟩) hHeld ?_
          rotate_left
          · (intro w hSw; (try dsimp only at hSw); have q1 := cell_below hSw Q1.out; go_simp <;> with_reducible rfl)
          change wpAnyH _ _ _ _ _ _ _ (Act.put _ (some 46) _) _
          try simp only [Act.put, List.setIfInBounds_toArray, List.set_cons_zero, List.set_cons_succ]
          refine wpAnyH_take (i := 9) (v := ?_) rfl (by kernel_rfl) (by kernel_rfl) (by kernel_rfl) (fun _ _ _ h => h) (Or.inl ⟨by rfl, ?_⟩) hHeld ?_
          rotate_left
          · (intro w hSw; (try dsimp only at hSw); go_simp <;> with_reducible rfl)
          change wpAnyH _ _ _ _ _ _ _ (Act.put _ (some 47) _) _
          try simp only [Act.put, List.setIfInBounds_toArray, List.set_cons_zero, List.set_cons_succ]
          refine wpAnyH_take (i := 10) (v := ?_) rfl (by kernel_rfl) (by kernel_rfl) (by kernel_rfl) (fun _ _ _ h => h) (Or.inl ⟨by rfl, ?_⟩) hHeld ?_
          rotate_left
          · (intro w hSw; (try dsimp only at hSw); go_simp <;> with_reducible rfl)
          change wpAnyH _ _ _ _ _ _ _ (Act.put _ (some 48) _) _
          try simp only [Act.put, List.setIfInBounds_toArray, List.set_cons_zero, List.set_cons_succ]
          refine wpAnyH_take (i := 11) (v := ?_) rfl (by kernel_rfl) (by kernel_rfl) (by kernel_rfl) (fun _ _ _ h => h) (Or.inl ⟨by rfl, ?_⟩) hHeld ?_
          rotate_left
          · (intro w hSw; (try dsimp only at hSw); go_simp <;> with_reducible rfl)
          change wpAnyH _ _ _ _ _ _ _ (Act.put _ (some 49) _) _
          try simp only [Act.put, List.setIfInBounds_toArray, List.set_cons_zero, List.set_cons_succ]
          refine wpAnyH_take (i := 12) (v := ?_) rfl (by kernel_rfl) (by kernel_rfl) (by kernel_rfl) (fun _ _ _ h => h) (Or.inl ⟨by rfl, ?_⟩) hHeld ?_
          rotate_left
          · (intro w hSw; (try dsimp only at hSw); have c0 := cell_below hSw C0.out; go_simp <;> with_reducible rfl)
          change wpAnyH _ _ _ _ _ _ _ (Act.put _ (some 50) _) _
          try simp only [Act.put, List.setIfInBounds_toArray, List.set_cons_zero, List.set_cons_succ]
          refine wpAnyH_take (i := 13) (v := ?_) rfl (by kernel_rfl) (by kernel_rfl) (by kernel_rfl) (fun _ _ _ h => h) (Or.inl ⟨by rfl, ?_⟩) hHeld ?_
          rotate_left
          · (intro w hSw; (try dsimp only at hSw); go_simp <;> with_reducible rfl)
          change wpAnyH _ _ _ _ _ _ _ (Act.put _ (some 51) _) _
          try simp only [Act.put, List.setIfInBounds_toArray, List.set_cons_zero, List.set_cons_succ]
          refine wpAnyH_take (i := 14) (v := ?_) rfl (by kernel_rfl) (by kernel_rfl) (by kernel_rfl) (fun _ _ _ h => h) (Or.inl ⟨by rfl, ?_⟩) hHeld ?_
          rotate_left
          · (intro w hSw; (try dsimp only at hSw); go_simp <;> with_reducible rfl)
          change wpAnyH _ _ _ _ _ _ _ (Act.put _ (some 52) _) _
          try simp only [Act.put, List.setIfInBounds_toArray, List.set_cons_zero, List.set_cons_succ]
          refine wpAnyH_take (i := 15) (v := ?_) rfl (by kernel_rfl) (by kernel_rfl) (by kernel_rfl) (fun _ _ _ h => h) (Or.inl ⟨by rfl, ?_⟩) hHeld ?_
          rotate_left
          · (intro w hSw; (try dsimp only at hSw); go_simp <;> with_reducible rfl)
          change wpAnyH _ _ _ _ _ _ _ (Act.put _ (some 53) _) _
          try simp only [Act.put, List.setIfInBounds_toArray, List.set_cons_zero, List.set_cons_succ]
          refine wpAnyH_take (i := 16) (v := ?_) rfl (by kernel_rfl) (by kernel_rfl) (by kernel_rfl) (fun _ _ _ h => h) (Or.inl ⟨by rfl, ?_⟩) hHeld ?_
          rotate_left
          · (intro w hSw; (try dsimp only at hSw); have q2 := cell_below hSw Q2.out; go_simp <;> with_reducible rfl)
          change wpAnyH _ _ _ _ _ _ _ (Act.put _ (some 54) _) _
          try simp only [Act.put, List.setIfInBounds_toArray, List.set_cons_zero, List.set_cons_succ]
          refine wpAnyH_take (i := 17) (v := ?_) rfl (by kernel_rfl) (by kernel_rfl) (by kernel_rfl) (fun _ _ _ h => h) (Or.inl ⟨by rfl, ?_⟩) hHeld ?_
          rotate_left
          · (intro w hSw; (try dsimp only at hSw); go_simp <;> with_reducible rfl)
          change wpAnyH _ _ _ _ _ _ _ (Act.put _ (some 55) _) _
          try simp only [Act.put, List.setIfInBounds_toArray, List.set_cons_zero, List.set_cons_succ]
          refine wpAnyH_ready (rs := [18]) (by kernel_rfl) (by simp) ?_
          refine AllReadyH.cons rfl (fun K hK => ?_) ?_
          rotate_left
          · exact AllReadyH.nil
          go_simp
          refine hK.out _ _ (hHeld.alloc hHeld.size _) (fun hHeld => ?_)
          clear hK K
          try simp only [Act.put, List.setIfInBounds_toArray, List.set_cons_zero, List.set_cons_succ]
          refine wpAnyH_ready (rs := [19]) (by kernel_rfl) (by simp) ?_
          refine AllReadyH.cons rfl (fun K hK => ?_) ?_
          rotate_left
          · exact AllReadyH.nil
          refine step_append_lies _ (by rfl) _ _ _ (by rfl) w1.heap.size 177 it _ 2 16 Tryz.underlying89 hit ht0 ht1 ht2 rfl (by decide) (.slice qa Q.length qc) Q.length (pairsV Q) (by rfl) (World.ownsRow.alloc (show wr.drew.ownsRow w1.heap.size 177 2 (.slice qa Q.length qc) Q.length (pairsV Q) from OW2.out) (.cells #[.int .i64 x2, .int .i64 x3] 177)) ⟨wr.heap.size, 0, none⟩ 1 1 [.int .i64 x2, .int .i64 x3] (by rfl) (by rfl) (World.news_of_block (cs := #[.int .i64 x2, .int .i64 x3]) (t := 177) (fr := (0, 0)) (show (wr.drew.alloc (.cells #[.int .i64 x2, .int .i64 x3] 177)).heap[wr.heap.size]? = _ from heap_alloc_new wr.drew _)) (by simp [Value.oneCell']) (by omega) (by unfold maxLen; omega) (by omega) (Nat.le_trans B3.out.size (by show wr.heap.size ≤ (World.alloc _ _).heap.size; rw [World.size_alloc]; exact Nat.le_succ _)) (wr.heap.size + 1) (by simp) ?_
          intro g4 c4 w4 hown4 hg4 hat4 hlt4
          have OX := Lib.hid (show w4.ownsRow w1.heap.size 177 2 (.slice (some ⟨g4, 0, none⟩) (Q.length + 1) c4) (Q ++ [(x2, x3)]).length (pairsV (Q ++ [(x2, x3)])) by rw [List.length_append, pairsV_snoc]; exact hown4)
          have BX := Lib.hid (show Below w1.heap.size w1 w4 from (hHeld.grown hg4 hHeld.size (ownBlock_ge OW2.out)))
          clear hown4 hg4 hat4
          refine hK.out _ _ (BX.out) (fun hHeld => ?_)
          clear hK K
          try simp only [Act.put, List.setIfInBounds_toArray, List.set_cons_zero, List.set_cons_succ]
          refine wpAnyH_take (i := 20) (v := ?_) rfl (by kernel_rfl) (by kernel_rfl) (by kernel_rfl) (fun _ _ _ h => h) (Or.inl ⟨by rfl, ?_⟩) hHeld ?_
          rotate_left
          · (intro w hSw; (try dsimp only at hSw); go_simp <;> with_reducible rfl)
          change wpAnyH _ _ _ _ _ _ _ (Act.put _ (some 12) _) _
          try simp only [Act.put, List.setIfInBounds_toArray, List.set_cons_zero, List.set_cons_succ]
          refine wpAnyH_done (by kernel_rfl) ?_ _
          clear hHeld
          go_wp2
          go_roundg (m - (j + 1))
          case measure => rw [G2.out]; omega
          case rel => exact ⟨j + 1, by omega, by go_num, rfl, by rw [QE.out]; exact OX.out, BX.out⟩
        · obtain rfl : j = m := by omega
          have i3 : ¬ (j : Int) < (j : Int) := by omega
          have e1 : (strT (x1, X2)).take j = strT (x1, X2) := List.take_of_length_le (by simp [strT, ME.out])
          rw [e1] at OW2
          have OW3 := Lib.hid (by have h := OW2.out; rw [← TN.out] at h; exact h)
          clear e1
          go_wp2
          go_roundg (n - (k + 1))
          case measure => rw [G.out]; omega
          case rel => exact ⟨k + 1, by omega, by go_num, rfl, OW3.out, B3.out⟩
    · obtain rfl : k = n := by omega
      have i1 : ¬ (k : Int) < (k : Int) := by omega
      have e1 : TT.take k = TT := List.take_of_length_le (by rw [NE.out]; exact Nat.le_refl _)
      rw [e1] at OW
      have PR := Lib.hid (show PairsR w2 _ (takenL TT) from ownsRow_reads OW.out)
      have RN := Lib.hid (rnorm_own _ (takenL TT) w2 PR.out (by rw [takenL_len]; have := S2.out; omega) LN.out)
      clear e1
      go_wp2_with fail
      refine RN.out.mono ?_; rintro e w3 ⟨u, rfl, hu, hb3⟩
      have HU := Lib.hid hu; have HB := Lib.hid (B2.out.trans (hb3.mono B2.out.size))
      clear hu hb3
      go_wp2
      go_ret2
      exact ⟨_, rfl, World.ownsRow.mono HU.out (Nat.le_trans BW.out.size (Nat.le_trans hb1s.out B2.out.size)), B1.out.trans (HB.out.mono B1.out.size)⟩

end Go.Proofs.YtgelojhpanbnaaaGreatDoor
