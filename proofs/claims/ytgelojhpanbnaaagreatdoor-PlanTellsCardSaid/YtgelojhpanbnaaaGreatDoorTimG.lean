/- times.Of of an event and a zone that are right: its contract. -/
import Derived.Test.YtgelojhpanbnaaaGreatDoorQ16
namespace Go.Proofs.YtgelojhpanbnaaaGreatDoor
open Go.RowKit Go.Shelf
set_option linter.unusedSimpArgs false
set_option linter.unusedVariables false
attribute [local go_sem] Oper.semAt_some

theorem timeInfo : (Tryz.prog.info? 54).map (fun i => (i.zero, i.size, i.bytes)) = some (some (.agg #[.int .i64 0, .int .i64 0, .int .i64 0]), 3, 24) := by kernel_rfl

theorem intInfoT : (Tryz.prog.info? 3).map (fun i => (i.zero, i.size, i.bytes)) = some (some (.int .i64 0), 1, 8) := by kernel_rfl

theorem map_take {C : List (Int × Int)} {k : Nat} (h : k < C.length) : ((C.take (k + 1)).map (·.1)) = (C.take k).map (·.1) ++ [C[k].1] := by
  rw [List.take_succ_eq_append_getElem h, List.map_append]; rfl

theorem win_take {f : Int → Option (Int × Int)} {K : List Int} {k : Nat} (h : k < K.length) : (K.take (k + 1)).filterMap f = (K.take k).filterMap f ++ (match f K[k] with | none => [] | some x => [x]) := by
  rw [List.take_succ_eq_append_getElem h, List.filterMap_append]
  cases hq : f K[k] <;> simp [hq]

theorem OwnT.app {ln : Int} (O : List (Int × Int)) (x : Int × Int) : (O ++ [x]).flatMap (encT ln) = O.flatMap (encT ln) ++ [.int .i64 x.1, .int .i64 x.2, .int .i64 (x.2 + ln)] := by simp [encT]

theorem oneV_form (ln : Int) (o : Option (Int × Int)) : ∃ (y1 y2 y3 : Int) (q : Bool), oneV ln o = .tuple #[.agg #[.int .i64 y1, .int .i64 y2, .int .i64 y3], .bool q] ∧ (q = false → o = none) ∧ (q = true → o = some (y1, y2) ∧ y3 = y2 + ln) := by
  cases o with
  | none => exact ⟨0, 0, 0, false, rfl, (fun _ => rfl), fun h => by cases h⟩
  | some y => exact ⟨y.1, y.2, y.2 + ln, true, rfl, (fun h => by cases h), fun _ => ⟨rfl, rfl⟩⟩

def DKeep (ad : Option Addr) (D : List (Int × Int)) (w : World) (v : Value) : Prop :=
  0 < D.length → ∃ b off, ad = some ⟨b, off, none⟩ ∧ v.ownBlock ≠ some b ∧ b < w.heap.size ∧ ∀ i (hi : i < D.length), w.cell? ⟨b, off + i * 2, none⟩ = some (.int .i64 D[i].1) ∧ w.cell? ⟨b, off + i * 2 + 1, none⟩ = some (.int .i64 D[i].2)

theorem dkeep_start {ad : Option Addr} {n c : Nat} {B : Nat} {D : List (Int × Int)} {L : List Int} {w1 w2 : World} {v : Value} (ho : OwnI B w1 v L)
    (hds : 0 < D.length → ∃ b off, ad = some ⟨b, off, none⟩ ∧ ∀ i (hi : i < D.length), w2.cell? ⟨b, off + i * 2, none⟩ = some (.int .i64 D[i].1) ∧ w2.cell? ⟨b, off + i * 2 + 1, none⟩ = some (.int .i64 D[i].2)) (hfr : FreshV w1.heap.size (.slice ad n c)) : DKeep ad D w2 v := fun hp => by
  obtain ⟨bb, oo, e1, e2⟩ := hds hp
  subst e1
  refine ⟨bb, oo, rfl, fun h => ?_, ?_, e2⟩
  · have q1 := (World.ownsRow.lt ho bb h).2; have q2 := hfr bb rfl; omega
  · have q3 := e2 0 hp; exact World.block_lt_of_cell? w2 _ q3.1

theorem DKeep.alloc {ad : Option Addr} {D : List (Int × Int)} {w : World} {v : Value} (h : DKeep ad D w v) (o : Obj) : DKeep ad D (w.alloc o) v := fun hp => by
  obtain ⟨b, off, e1, e2, e3, e4⟩ := h hp
  have hb : Below w.heap.size w (w.alloc o) := (Below.refl _ _).alloc (Nat.le_refl _) _
  exact ⟨b, off, e1, e2, by rw [World.size_alloc]; omega, fun i hi => ⟨cell_below hb (e4 i hi).1, cell_below hb (e4 i hi).2⟩⟩

theorem DKeep.grown {ad : Option Addr} {D : List (Int × Int)} {w w' : World} {v : Value} {g n c : Nat} (h : DKeep ad D w v) (hg : w.grownBy w' v.ownBlock) (hv : v.ownBlock = some g ∨ g = w.heap.size) : DKeep ad D w' (.slice (some ⟨g, 0, none⟩) n c) := fun hp => by
  obtain ⟨b, off, e1, e2, e3, e4⟩ := h hp
  refine ⟨b, off, e1, fun hq => ?_, Nat.lt_of_lt_of_le e3 hg.size, fun i hi => ⟨hg.cell (e4 i hi).1 (Ne.symm e2), hg.cell (e4 i hi).2 (Ne.symm e2)⟩⟩
  obtain rfl : g = b := by simpa [Value.ownBlock] using hq
  rcases hv with hv | hv
  · exact e2 hv
  · omega

set_option maxRecDepth 100000 in
set_option maxHeartbeats 16000000 in
theorem tof_any (snm stx : ByteArray) (st ln : Int) (rp : Bool) (fr ev ct ti : Int) (vm vd vw vp vM vN vC vA : Value) (mo da : List Int) (we : List (Int × Int)) (pk M N : List Int) (C : List (Int × Int)) (A : List Alm) (ah : Int) (vZ : Value) (Z : List (Int × Int)) (a b : Int) (w : World) (hw : Months w)
    (hR : EvR w vm vd vw vp vM vN vC vA mo da we pk M N C A) (hF : EvFacts st ln rp fr ev ct ti mo da we pk M N C A) (hZ : PairsR w vZ Z) (hz : zfault ah Z = 0) (ha : -1000000000 ≤ a ∧ a ≤ 1000000000) (hb : -1000000000 ≤ b ∧ b ≤ 1000000000) :
    Calls Tryz.prog 78 #[.agg #[.int .i64 ah, vZ], .agg #[.string snm, .string stx, .int .i64 st, .int .i64 ln, .bool rp, .int .i64 fr, .int .i64 ev, .int .i64 ct, .int .i64 ti, vm, vd, vw, vp, vM, vN, vC, vA], .int .i64 a, .int .i64 b] w
      fun e w' => ∃ v, e = .returned v ∧ OwnT ln w.heap.size w' v (tmsOf ah Z (ruleT rp st fr ev ct ti mo da we pk) M N C ln a b) ∧ Below w.heap.size w w' := by
  have hR0 := hR
  obtain ⟨h1, h2, h3, h4, hM, hN, hC, hA⟩ := hR
  obtain ⟨am, km, rfl, -, -, -⟩ := intsR_open h1
  obtain ⟨ad, kd, rfl, -, -, -⟩ := intsR_open h2
  obtain ⟨aw, kw, rfl, -, -, -⟩ := pairsR_open h3
  obtain ⟨ap, kp, rfl, -, -, -⟩ := intsR_open h4
  obtain ⟨aM, kM, rfl, -, -, -⟩ := intsR_open hM
  obtain ⟨aN, kN, rfl, -, -, -⟩ := intsR_open hN
  obtain ⟨aC, kC, rfl, -, kC2, hds⟩ := pairsR_open hC
  obtain ⟨aA, kA, rfl, -, -, -⟩ := almsR_open hA
  unfold maxLen at kC2
  obtain ⟨aZ, kZ, rfl, -, -, -⟩ := pairsR_open hZ
  obtain ⟨eb, heb⟩ : ∃ x, x = w.heap.size := ⟨_, rfl⟩
  obtain ⟨wz, hwz⟩ : ∃ x, x = w.alloc (.cells #[.int .i64 ah, .slice aZ Z.length kZ] 33) := ⟨_, rfl⟩
  have hbz : Below w.heap.size w wz := by rw [hwz]; exact (Below.refl _ _).alloc (Nat.le_refl _) _
  have hsz : wz.heap.size = eb + 1 := by rw [hwz, heb]; simp
  have z0 : wz.cell? ⟨eb, 0, none⟩ = some (.int .i64 ah) := by rw [hwz, heb]; simp
  have z1 : wz.cell? ⟨eb, 1, none⟩ = some (.slice aZ Z.length kZ) := by rw [hwz, heb]; simp
  obtain ⟨w0, hw0⟩ : ∃ x, x = wz.alloc (.cells #[.string snm, .string stx, .int .i64 st, .int .i64 ln, .bool rp, .int .i64 fr, .int .i64 ev, .int .i64 ct, .int .i64 ti, .slice am mo.length km, .slice ad da.length kd, .slice aw we.length kw, .slice ap pk.length kp, .slice aM M.length kM, .slice aN N.length kN, .slice aC C.length kC, .slice aA A.length kA] 29) := ⟨_, rfl⟩
  have hb0 : Below wz.heap.size wz w0 := by rw [hw0]; exact (Below.refl _ _).alloc (Nat.le_refl _) _
  have ec := hw0 ▸ evC_new wz 29 snm stx st ln rp fr ev ct ti (.slice am mo.length km) (.slice ad da.length kd) (.slice aw we.length kw) (.slice ap pk.length kp) (.slice aM M.length kM) (.slice aN N.length kN) (.slice aC C.length kC) (.slice aA A.length kA)
  rw [hsz] at ec
  have z0 := cell_below hb0 z0; have z1 := cell_below hb0 z1
  have hbw : Below w.heap.size w w0 := hbz.trans (hb0.mono hbz.size)
  obtain ⟨T, hT⟩ : ∃ T, T = ruleT rp st fr ev ct ti mo da we pk := ⟨_, rfl⟩
  rw [← hT]
  have lnb : 0 ≤ ln ∧ ln ≤ 100000 := hF.ln
  have EO := Lib.hid (show ∀ (lo hi : Int) (wx : World), Below w0.heap.size w0 wx → Calls Tryz.prog 80 #[.agg #[.string snm, .string stx, .int .i64 st, .int .i64 ln, .bool rp, .int .i64 fr, .int .i64 ev, .int .i64 ct, .int .i64 ti, .slice am mo.length km, .slice ad da.length kd, .slice aw we.length kw, .slice ap pk.length kp, .slice aM M.length kM, .slice aN N.length kN, .slice aC C.length kC, .slice aA A.length kA], .int .i64 lo, .int .i64 hi] wx (fun e w' => ∃ v, e = .returned v ∧ OwnI wx.heap.size w' v (evL T M N lo hi) ∧ Below wx.heap.size wx w') from fun lo hi wx hbx => by
    have hbw : Below w.heap.size w wx := hbw.trans (hbx.mono hbw.size)
    rw [hT]
    exact evof_any snm stx st ln rp fr ev ct ti _ _ _ _ _ _ _ _ mo da we pk M N lo hi wx (hw.below hbw) (h1.below hbw) (h2.below hbw) (h3.below hbw) (h4.below hbw) rfl rfl (hM.below hbw) (hN.below hbw) hF.ok)
  have CO := Lib.hid (show ∀ (wx : World), Below w0.heap.size w0 wx → Calls Tryz.prog 82 #[.agg #[.string snm, .string stx, .int .i64 st, .int .i64 ln, .bool rp, .int .i64 fr, .int .i64 ev, .int .i64 ct, .int .i64 ti, .slice am mo.length km, .slice ad da.length kd, .slice aw we.length kw, .slice ap pk.length kp, .slice aM M.length kM, .slice aN N.length kN, .slice aC C.length kC, .slice aA A.length kA]] wx (fun e w' => ∃ v, e = .returned v ∧ (PairsR w' v (chgL T M N C) ∧ FreshV wx.heap.size v) ∧ Below wx.heap.size wx w') from fun wx hbx => by
    have hbw : Below w.heap.size w wx := hbw.trans (hbx.mono hbw.size)
    rw [hT]
    refine (changed_any snm stx st ln rp fr ev ct ti _ _ _ _ _ _ _ _ mo da we pk M N C A wx (hw.below hbw) (hR0.below hbw) hF).mono ?_
    rintro e w' ⟨v, e1, e2, e3⟩
    exact ⟨v, e1, ⟨e2.pairs, ownBlock_ge e2⟩, e3⟩)
  have OO := Lib.hid (show ∀ (t : Int) (wx : World), Below w0.heap.size w0 wx → (0 ≤ (reallyC C t).1 ∧ (reallyC C t).1 < 157785120) → Calls Tryz.prog 149 #[.agg #[.int .i64 ah, .slice aZ Z.length kZ], .agg #[.string snm, .string stx, .int .i64 st, .int .i64 ln, .bool rp, .int .i64 fr, .int .i64 ev, .int .i64 ct, .int .i64 ti, .slice am mo.length km, .slice ad da.length kd, .slice aw we.length kw, .slice ap pk.length kp, .slice aM M.length kM, .slice aN N.length kN, .slice aC C.length kC, .slice aA A.length kA], .int .i64 t] wx (fun e w' => e = .returned (oneV ln (oneT ah Z C ln t)) ∧ Below wx.heap.size wx w') from fun t wx hbx ht => by
    have hbw : Below w.heap.size w wx := hbw.trans (hbx.mono hbw.size)
    exact one_t snm stx st ln rp fr ev ct ti _ _ _ _ _ _ _ _ mo da we pk M N C A ah _ Z t wx (hR0.below hbw) hF (hZ.below hbw) hz ht)
  have TM := Lib.hid (show ∀ t, t ∈ T ∨ t ∈ M ∨ (∃ c ∈ C, c.1 = t) → 0 ≤ (reallyC C t).1 ∧ (reallyC C t).1 < 157785120 from fun t ht => by
    have h0 : 0 ≤ t ∧ t < 157785120 := by
      rcases ht with ht | ht | ⟨c, hc, rfl⟩
      · rw [hT] at ht; exact ruleT_time hF.ok ht
      · have := timeB_yes (hF.tM t ht); omega
      · have := timeB_yes (hF.tC c hc).1; omega
    unfold reallyC
    cases hf : C.find? (fun c => c.1 == t) with
    | none => simp only; exact h0
    | some c =>
      have h1 := List.mem_of_find?_eq_some hf
      rcases (hF.tC c h1).2 with h2 | h2
      · simp only; omega
      · have := timeB_yes h2; simp only; omega)
  have TL := Lib.hid (show T.length ≤ 109573 by rw [hT]; exact ruleT_len hF.ok)
  have lC : C.length ≤ 100 := hF.lenC
  have lM : M.length ≤ 100 := hF.lenM
  have EC := Lib.hid ec; have BW := Lib.hid hbw; have WZ := Lib.hid hwz; have W0 := Lib.hid hw0; have EB := Lib.hid heb
  have Z0 := Lib.hid z0; have Z1 := Lib.hid z1
  have wa : IntKind.i64.wrap (a - 2000) = a - 2000 := IntWalk.i64_in _ (by omega)
  have wb : IntKind.i64.wrap (b + 2000) = b + 2000 := IntWalk.i64_in _ (by omega)
  clear hR0 h1 h2 h3 h4 hM hN hC hA hw hF hZ hz hwz hbz hsz hw0 hb0 ec hbw hT heb hds
  go_enter Tryz.func78, Tryz.ntmps78
  go_upto_region 1 with fail
  rw [← WZ.out, ← W0.out]
  rw [← EB.out]
  have k0 := EC.out.k0; have k1 := EC.out.k1; have k2 := EC.out.k2; have k3 := EC.out.k3; have k4 := EC.out.k4; have k5 := EC.out.k5; have k6 := EC.out.k6; have k7 := EC.out.k7; have k8 := EC.out.k8; have k9 := EC.out.k9; have k10 := EC.out.k10; have k11 := EC.out.k11; have k12 := EC.out.k12; have k13 := EC.out.k13; have k14 := EC.out.k14; have k15 := EC.out.k15; have k16 := EC.out.k16
  go_cut [9] (fun s9 wx => ∃ v, s9 = v ∧ OwnI w0.heap.size wx v (evL T M N (a - 2000) (b + 2000)) ∧ Below w0.heap.size w0 wx)
  case first =>
    clear CO OO TM TL lC lM lnb
    go_wp2_with fail
    refine (EO.out (a - 2000) (b + 2000) _ (Below.refl _ _)).mono ?_; rintro e w1 ⟨v, rfl, hv, hbv⟩
    have HV := Lib.hid hv; have HB := Lib.hid hbv
    clear hv hbv z0 z1 k0 k1 k2 k3 k4 k5 k6 k7 k8 k9 k10 k11 k12 k13 k14 k15 k16
    go_wp2
    go_meet
    exact ⟨_, rfl, HV.out, HB.out⟩
  case rest =>
  clear z0 z1 wa wb k0 k1 k2 k3 k4 k5 k6 k7 k8 k9 k10 k11 k12 k13 k14 k15 k16
  obtain ⟨v1, rfl, hv1, hb1⟩ := hcut
  obtain ⟨w1, rfl⟩ : ∃ x, x = wc := ⟨_, rfl⟩
  obtain ⟨L0, hL0⟩ : ∃ L, L = evL T M N (a - 2000) (b + 2000) := ⟨_, rfl⟩
  rw [← hL0] at hv1
  have l0 : L0.length ≤ 109673 := by rw [hL0]; have := evL_len T M N (a - 2000) (b + 2000); have := TL.out; omega
  have L0E := Lib.hid hL0
  have B1 := Lib.hid hb1; have V1 := Lib.hid hv1
  have E1 := Lib.hid (EC.out.below hb1)
  clear hb1 hv1 hL0
  have k0 := E1.out.k0; have k1 := E1.out.k1; have k2 := E1.out.k2; have k3 := E1.out.k3; have k4 := E1.out.k4; have k5 := E1.out.k5; have k6 := E1.out.k6; have k7 := E1.out.k7; have k8 := E1.out.k8; have k9 := E1.out.k9; have k10 := E1.out.k10; have k11 := E1.out.k11; have k12 := E1.out.k12; have k13 := E1.out.k13; have k14 := E1.out.k14; have k15 := E1.out.k15; have k16 := E1.out.k16
  go_upto_region 2 with fail
  go_cut [24, 25, 26] (fun s24 s25 s26 wx => ∃ ad, ∃ cd : Nat, s24 = .slice ad (chgL T M N C).length cd ∧ s25 = .int .i64 (chgL T M N C).length ∧ s26 = .int .i64 0 ∧ (PairsR wx (.slice ad (chgL T M N C).length cd) (chgL T M N C) ∧ FreshV w1.heap.size (.slice ad (chgL T M N C).length cd)) ∧ Below w1.heap.size w1 wx)
  case first => as_aux_lemma =>
    go_wp2_with fail
    refine (CO.out w1 B1.out).mono ?_; rintro e w2 ⟨vc, rfl, ⟨hvc, hfr⟩, hb2⟩
    obtain ⟨ad2, cd2, rfl, -, -, -⟩ := pairsR_open hvc
    have H2 := Lib.hid hvc; have H3 := Lib.hid hfr; have H4 := Lib.hid hb2
    clear hvc hfr hb2 k0 k1 k2 k3 k4 k5 k6 k7 k8 k9 k10 k11 k12 k13 k14 k15 k16
    go_wp2
    go_meet
    exact ⟨_, _, rfl, rfl, rfl, ⟨H2.out, H3.out⟩, H4.out⟩
  case rest =>
  obtain ⟨ad2, cd2, rfl, rfl, rfl, ⟨hvc, hfr⟩, hb2⟩ := hcut
  obtain ⟨w2, rfl⟩ : ∃ x, x = wc := ⟨_, rfl⟩
  obtain ⟨D, hD⟩ : ∃ D, D = chgL T M N C := ⟨_, rfl⟩
  rw [← hD] at hvc hfr ⊢
  have dl : D.length ≤ 100 := by
    have h1 : (chgL T M N C).length ≤ C.length := List.length_filter_le ..
    rw [hD]; omega
  have DE := Lib.hid hD
  obtain ⟨ad3, cd3, e3, -, -, hds⟩ := pairsR_open hvc
  cases e3
  have DK := Lib.hid (dkeep_start V1.out hds hfr)
  have B2 := Lib.hid (B1.out.trans (hb2.mono B1.out.size))
  have V2 := Lib.hid (V1.out.below hb2)
  clear hvc hb2 hD hds hfr V1 k0 k1 k2 k3 k4 k5 k6 k7 k8 k9 k10 k11 k12 k13 k14 k15 k16
  obtain ⟨i1, hi1, hz0, hz1, hz2⟩ := info_parts intInfoT
  go_upto_block 0 with fail
  go_cut [9] (fun s9 wx => ∃ v, s9 = v ∧ OwnI w0.heap.size wx v (L0 ++ D.map (·.1)) ∧ Below w0.heap.size w0 wx)
  case first => as_aux_lemma =>
    go_wp2_with fail
    go_loopg [9, 26] D.length (fun g ov iv wr => ∃ k : Nat, k ≤ D.length ∧ iv = .int .i64 k ∧ g = D.length - k ∧ OwnI w0.heap.size wr ov (L0 ++ (D.take k).map (·.1)) ∧ DKeep ad2 D wr ov ∧ Below w0.heap.size w0 wr)
    case atStart => exact ⟨0, Nat.zero_le _, rfl, rfl, by simpa using V2.out, DK.out, B2.out⟩
    case round =>
      obtain ⟨k, hk, rfl, hg, ho, hd, hb⟩ := hrel
      have G := Lib.hid hg; have BR := Lib.hid hb; have OW := Lib.hid ho; have DW := Lib.hid hd
      clear hg
      by_cases hlt : k < D.length
      · obtain ⟨db, dof, rfl, -, -, hcs⟩ := DW.out (by omega)
        have q0 := (hcs k hlt).1
        have q1 := (hcs k hlt).2
        obtain ⟨x, hx⟩ : ∃ x, x = D[k].1 := ⟨_, rfl⟩
        obtain ⟨y, hy⟩ : ∃ y, y = D[k].2 := ⟨_, rfl⟩
        rw [← hx] at q0
        rw [← hy] at q1
        have HT := Lib.hid (show (D.take (k + 1)).map (·.1) = (D.take k).map (·.1) ++ [x] by rw [map_take hlt, hx])
        obtain ⟨O, hO⟩ : ∃ O, O = L0 ++ (D.take k).map (·.1) := ⟨_, rfl⟩
        have ol : O.length ≤ 200000 := by
          rw [hO, List.length_append, List.length_map]
          have h2 := List.length_take_le k D
          omega
        rw [← hO] at OW
        have OE := Lib.hid (show O ++ [x] = L0 ++ (D.take (k + 1)).map (·.1) by rw [hO, HT.out, List.append_assoc])
        obtain ⟨oa, oc, rfl, -, -, -⟩ := owns_cells OW.out
        have hbs := hb.size
        clear hx hy hb ho hd hO hcs HT
        have i0 : (0 : Int) ≤ (k : Int) := Int.natCast_nonneg _
        have i2 : (k : Int) < (D.length : Int) := by omega
        have RO : ∀ wq : World, ∀ j u, ([.int .i64 x] : List Value)[j]? = some u → (wq.alloc (.cells #[.int .i64 x] 3)).cell? ((⟨wq.heap.size, 0, none⟩ : Addr).add j) = some u := fun wq j u hj => by
          match j, hj with
          | 0, hj => (simp at hj; subst hj; simp [Addr.add])
        have RO1 := RO (wr.alloc (.cells #[.int .i64 x, .int .i64 y] 134))
        rw [World.size_alloc] at RO1
        have DP := Lib.hid ((DW.out.alloc (.cells #[.int .i64 x, .int .i64 y] 134)).alloc (.cells #[.int .i64 x] 3))
        have OP := Lib.hid (World.ownsRow.alloc (World.ownsRow.alloc OW.out (.cells #[.int .i64 x, .int .i64 y] 134)) (.cells #[.int .i64 x] 3))
        have BP := Lib.hid ((BR.out.alloc hbs (.cells #[.int .i64 x, .int .i64 y] 134)).alloc (by rw [World.size_alloc]; omega) (.cells #[.int .i64 x] 3))
        go_wp2_with (at_builtin; refine wpList_append_lies _ rfl _ _ 22 rfl w0.heap.size 3 i1 _ 1 8 Tryz.underlying22 hi1 hz0 hz1 hz2 rfl (by decide) (.slice oa O.length oc) O.length (O.map (Value.int .i64)) rfl OP.out ⟨wr.heap.size + 1, 0, none⟩ 1 1 [.int .i64 x] rfl rfl RO1 (by simp [Value.oneCell']) (by omega) (by unfold maxLen; omega) (by omega) (by rw [World.size_alloc, World.size_alloc]; omega) _ rfl ?_; intro g3 c3 w3 hown3 hg3 hat3 hlt3)
        have OX := Lib.hid (show OwnI w0.heap.size w3 (.slice (some ⟨g3, 0, none⟩) (O.length + 1) c3) (O ++ [x]) from by unfold OwnI; rw [List.length_append, List.map_append]; exact hown3)
        have DX := Lib.hid (DKeep.grown (n := O.length + 1) (c := c3) DP.out hg3 (by rcases hat3 with h | h; exact .inl h; exact .inr (by rw [h])))
        have BX := Lib.hid (BP.out.grown hg3 BP.out.size (ownBlock_ge OP.out))
        clear hown3 hg3 hat3 RO RO1 q0 q1
        go_wp2
        go_roundg (D.length - (k + 1))
        case measure => rw [G.out]; omega
        case rel => exact ⟨k + 1, by omega, by go_num, rfl, by rw [← OE.out]; exact OX.out, DX.out, BX.out⟩
      · obtain rfl : k = D.length := by omega
        have i2 : ¬ (D.length : Int) < (D.length : Int) := by omega
        rw [List.take_length] at OW
        clear hb ho hd
        go_wp2
        go_meet
        exact ⟨_, rfl, OW.out, BR.out⟩
  case rest => as_aux_lemma =>
    obtain ⟨v3, rfl, hv3, hb3⟩ := hcut
    obtain ⟨w3, rfl⟩ : ∃ x, x = wc := ⟨_, rfl⟩
    obtain ⟨XS, hXS⟩ : ∃ X, X = L0 ++ D.map (·.1) := ⟨_, rfl⟩
    rw [← hXS] at hv3
    have xl : XS.length ≤ 109773 := by rw [hXS, List.length_append, List.length_map]; omega
    have XE := Lib.hid hXS
    have B3 := Lib.hid hb3; have V3 := Lib.hid hv3
    clear hv3 hb3 hXS B1 B2 V2 DK E1
    go_wp2_with fail
    refine (sort_own _ XS _ V3.out (by omega)).mono ?_; rintro e w4 ⟨rfl, hrow4, hg4⟩
    have B4 := Lib.hid (B3.out.grown hg4 B3.out.size (ownBlock_ge V3.out))
    obtain ⟨ys, hys⟩ : ∃ ys, ys = srt XS := ⟨_, rfl⟩
    have yl : ys.length ≤ 109773 := by rw [hys, srt_len]; exact xl
    rw [← srt_len XS, ← hys] at hrow4
    have V4 := Lib.hid hrow4
    have YE := Lib.hid hys
    clear hrow4 hg4 hys V3
    go_wp2_with fail
    refine (compact_own _ ys _ V4.out (by omega)).mono ?_; rintro e w5 ⟨u, rfl, hrow5, hg5⟩
    have B5 := Lib.hid (B4.out.grown hg5 B4.out.size (ownBlock_ge V4.out))
    obtain ⟨K, hK⟩ : ∃ K, K = Lib.compact ys := ⟨_, rfl⟩
    rw [← hK] at hrow5
    have kl : K.length ≤ 109773 := by rw [hK]; exact Nat.le_trans (compact_le ys) yl
    have KE := Lib.hid (show K = whichL T M N C a b by rw [hK, YE.out, XE.out, whichL, L0E.out, DE.out])
    obtain ⟨uk, ck, rfl, -, -, hks⟩ := intsR_open (intsR_of_owns hrow5)
    have HK := Lib.hid hks
    have KM := Lib.hid (show ∀ x ∈ K, 0 ≤ (reallyC C x).1 ∧ (reallyC C x).1 < 157785120 from fun x hx => by
      apply TM.out
      rw [KE.out] at hx
      unfold whichL srt at hx
      rw [sortC_mem, List.mem_append] at hx
      rcases hx with hx | hx
      · rcases (evL_is.1 hx).1.1 with h | h
        · exact .inl h
        · exact .inr (.inl h)
      · obtain ⟨c, hc, rfl⟩ := List.mem_map.1 hx
        exact .inr (.inr ⟨c, (List.mem_filter.1 hc).1, rfl⟩))
    clear hrow5 hg5 hK hks V4 yl xl
    obtain ⟨it, hit, ht0, ht1, ht2⟩ := info_parts timeInfo
    go_wp2_with fail
    go_loopg [12, 41] K.length (fun g ov iv wr => ∃ k : Nat, k ≤ K.length ∧ iv = .int .i64 k ∧ g = K.length - k ∧ OwnT ln w5.heap.size wr ov ((K.take k).filterMap (winT ah Z C ln a b)) ∧ Below w5.heap.size w5 wr)
    case atStart => exact ⟨0, Nat.zero_le _, rfl, rfl, World.ownsRow_nil _ _ _ _, Below.refl _ _⟩
    case round => as_aux_lemma =>
      obtain ⟨k, hk, rfl, hg, ho, hb⟩ := hrel
      have G := Lib.hid hg; have BR := Lib.hid hb; have OW := Lib.hid ho
      have BR0 := Lib.hid (B5.out.trans (hb.mono B5.out.size))
      clear hg
      by_cases hlt : k < K.length
      · obtain ⟨kb, ko, rfl, hcs⟩ := HK.out (by omega)
        have q0 := cell_below hb (hcs k hlt)
        obtain ⟨x, hx⟩ : ∃ x, x = K[k] := ⟨_, rfl⟩
        rw [← hx] at q0
        have HT := Lib.hid (show (K.take (k + 1)).filterMap (winT ah Z C ln a b) = (K.take k).filterMap (winT ah Z C ln a b) ++ (match winT ah Z C ln a b x with | none => [] | some y => [y]) by rw [win_take hlt, hx])
        obtain ⟨O, hO⟩ : ∃ O, O = (K.take k).filterMap (winT ah Z C ln a b) := ⟨_, rfl⟩
        have ol : O.length ≤ 109773 := by
          have h1 : O.length ≤ (K.take k).length := by rw [hO]; exact List.length_filterMap_le ..
          have h2 := List.length_take_le k K
          omega
        rw [← hO] at OW HT
        obtain ⟨oa, oc, rfl, -, -, -⟩ := owns_cells OW.out
        have CX := Lib.hid (OO.out x wr BR0.out (KM.out x (by rw [hx]; exact List.getElem_mem _)))
        have ER := Lib.hid (EC.out.below BR0.out)
        have z0 := cell_below BR0.out Z0.out
        have z1 := cell_below BR0.out Z1.out
        have hbs := hb.size
        clear hx hb ho hO hcs
        have k0 := ER.out.k0; have k1 := ER.out.k1; have k2 := ER.out.k2; have k3 := ER.out.k3; have k4 := ER.out.k4; have k5 := ER.out.k5; have k6 := ER.out.k6; have k7 := ER.out.k7; have k8 := ER.out.k8; have k9 := ER.out.k9; have k10 := ER.out.k10; have k11 := ER.out.k11; have k12 := ER.out.k12; have k13 := ER.out.k13; have k14 := ER.out.k14; have k15 := ER.out.k15; have k16 := ER.out.k16
        have i0 : (0 : Int) ≤ (k : Int) := Int.natCast_nonneg _
        have i2 : (k : Int) < (K.length : Int) := by omega
        obtain ⟨o, ho⟩ : ∃ o, o = oneT ah Z C ln x := ⟨_, rfl⟩
        have WE := Lib.hid (show winT ah Z C ln a b x = o.filter fun x => decide (a ≤ x.2) && decide (x.2 < b) by rw [winT, ho])
        rw [← ho] at CX
        clear ho
        obtain ⟨y1, y2, y3, q, hV, hC2⟩ := oneV_form ln o
        rw [hV] at CX
        have OV := Lib.hid hC2
        clear hV hC2
        go_upto_region 12 with fail
        go_cut [15, 16] (fun s15 s16 wx => ∃ tb, s15 = .pointer (some ⟨tb, 0, none⟩) ∧ s16 = .bool q ∧ (wx.cell? ⟨tb, 0, none⟩ = some (.int .i64 y1) ∧ wx.cell? ⟨tb, 1, none⟩ = some (.int .i64 y2) ∧ wx.cell? ⟨tb, 2, none⟩ = some (.int .i64 y3)) ∧ Below wr.heap.size wr wx)
        case first => as_aux_lemma =>
          go_wp2_with fail
          refine CX.out.mono ?_; rintro e w6 ⟨rfl, hb6⟩
          have B6 := Lib.hid hb6
          clear hb6 q0 z0 z1 k0 k1 k2 k3 k4 k5 k6 k7 k8 k9 k10 k11 k12 k13 k14 k15 k16
          go_wp2
          go_meet
          exact ⟨_, rfl, rfl, ⟨by simp, by simp, by simp⟩, B6.out.alloc B6.out.size _⟩
        case rest =>
        clear q0 z0 z1 k0 k1 k2 k3 k4 k5 k6 k7 k8 k9 k10 k11 k12 k13 k14 k15 k16
        obtain ⟨tb, rfl, rfl, ⟨f0, f1, f2⟩, hb6⟩ := hcut
        obtain ⟨w6, rfl⟩ : ∃ z, z = wc := ⟨_, rfl⟩
        have OW6 := Lib.hid (own_kept OW.out hb6)
        have B6 := Lib.hid (BR.out.trans (hb6.mono BR.out.size))
        have hb6s := B6.out.size
        clear hb6
        cases q
        · obtain rfl := OV.out.1 rfl
          have HT2 := Lib.hid (show (K.take (k + 1)).filterMap (winT ah Z C ln a b) = O by rw [HT.out, WE.out]; simp)
          clear f0 f1 f2
          go_wp2
          go_roundg (K.length - (k + 1))
          case measure => rw [G.out]; omega
          case rel => exact ⟨k + 1, by omega, by go_num, rfl, by rw [HT2.out]; exact OW6.out, B6.out⟩
        obtain ⟨rfl, hy3⟩ := OV.out.2 rfl
        have Y3 := Lib.hid hy3
        clear hy3
        by_cases g1 : a ≤ y2
        · by_cases g2 : y2 < b
          · as_aux_lemma =>
              have HT2 := Lib.hid (show (K.take (k + 1)).filterMap (winT ah Z C ln a b) = O ++ [(y1, y2)] by rw [HT.out, WE.out]; simp [Option.filter, g1, g2])
              have d1 : decide (a ≤ y2) = true := decide_eq_true g1
              have d2 : decide (y2 < b) = true := decide_eq_true g2
              have RO : Reads (w6.alloc (.cells #[.int .i64 y1, .int .i64 y2, .int .i64 y3] 54)) (.slice (some ⟨w6.heap.size, 0, none⟩) 1 1) 3 1 [.int .i64 y1, .int .i64 y2, .int .i64 y3] := reads_one rfl (fun j u hj => by match j, hj with | 0, hj => (simp at hj; subst hj; simp) | 1, hj => (simp at hj; subst hj; simp) | 2, hj => (simp at hj; subst hj; simp))
              have OP := Lib.hid (World.ownsRow.alloc OW6.out (.cells #[.int .i64 y1, .int .i64 y2, .int .i64 y3] 54))
              have BP := Lib.hid (B6.out.alloc hb6s (.cells #[.int .i64 y1, .int .i64 y2, .int .i64 y3] 54))
              clear g1 g2
              go_wp2_with (at_builtin; refine wpList_append_row rfl _ _ 47 rfl 54 it _ 3 24 Tryz.underlying47 hit ht0 ht1 ht2 rfl (by decide) w5.heap.size _ _ _ _ _ _ rfl rfl OP.out RO (by simp [Value.oneCell']) (by rw [World.size_alloc]; omega) (by omega) (by unfold maxLen; omega) ?_; intro v7 w7 hown7 hb7)
              have OX := Lib.hid (show OwnT ln w5.heap.size w7 v7 (O ++ [(y1, y2)]) from by unfold OwnT; rw [List.length_append, OwnT.app, ← Y3.out]; exact hown7)
              have BX := Lib.hid (BP.out.trans hb7)
              clear hown7 hb7 RO f0 f1 f2
              go_wp2
              go_roundg (K.length - (k + 1))
              case measure => rw [G.out]; omega
              case rel => exact ⟨k + 1, by omega, by go_num, rfl, by rw [HT2.out]; exact OX.out, BX.out⟩
          · have HT2 := Lib.hid (show (K.take (k + 1)).filterMap (winT ah Z C ln a b) = O by rw [HT.out, WE.out]; simp [Option.filter, g2])
            have d1 : decide (a ≤ y2) = true := decide_eq_true g1
            have d2 : decide (y2 < b) = false := decide_eq_false g2
            clear g1 g2
            go_wp2
            go_roundg (K.length - (k + 1))
            case measure => rw [G.out]; omega
            case rel => exact ⟨k + 1, by omega, by go_num, rfl, by rw [HT2.out]; exact OW6.out, B6.out⟩
        · have HT2 := Lib.hid (show (K.take (k + 1)).filterMap (winT ah Z C ln a b) = O by rw [HT.out, WE.out]; simp [Option.filter, g1])
          have d1 : decide (a ≤ y2) = false := decide_eq_false g1
          clear g1
          go_wp2
          go_roundg (K.length - (k + 1))
          case measure => rw [G.out]; omega
          case rel => exact ⟨k + 1, by omega, by go_num, rfl, by rw [HT2.out]; exact OW6.out, B6.out⟩
      · as_aux_lemma =>
          obtain rfl : k = K.length := by omega
          have i2 : ¬ (K.length : Int) < (K.length : Int) := by omega
          rw [List.take_length] at OW
          have TE := Lib.hid (show tmsOf ah Z T M N C ln a b = srtT (K.filterMap (winT ah Z C ln a b)) by rw [tmsOf, KE.out])
          obtain ⟨O, hO⟩ : ∃ O, O = K.filterMap (winT ah Z C ln a b) := ⟨_, rfl⟩
          have ol : O.length ≤ 109773 := by
            have h1 : O.length ≤ K.length := by rw [hO]; exact List.length_filterMap_le ..
            omega
          rw [← hO] at OW TE
          clear hb ho hO
          go_wp2_with fail
          refine (sortT_any ln _ O _ OW.out (by omega)).mono ?_; rintro e w7 ⟨rfl, hs7, hg7⟩
          have B7 := Lib.hid (BR.out.grown hg7 BR.out.size (ownBlock_ge OW.out))
          have V7 := Lib.hid hs7
          clear hs7 hg7
          go_wp2
          go_ret
          exact ⟨_, rfl, by rw [TE.out]; exact World.ownsRow.mono V7.out (Nat.le_trans BW.out.size B5.out.size), BW.out.trans ((B5.out.trans (B7.out.mono B5.out.size)).mono BW.out.size)⟩

end Go.Proofs.YtgelojhpanbnaaaGreatDoor
