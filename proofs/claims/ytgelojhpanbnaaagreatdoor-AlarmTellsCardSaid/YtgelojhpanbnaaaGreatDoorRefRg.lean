/- The contract of the reference chimeref2.Rings. Conditions: the event and the zone are right; the numbers are not too far. -/
import Derived.Test.YtgelojhpanbnaaaGreatDoorRefAdd
import Derived.Test.YtgelojhpanbnaaaGreatDoorAlmB
import Derived.Test.YtgelojhpanbnaaaGreatDoorRefBt
namespace Go.Proofs.YtgelojhpanbnaaaGreatDoor
open Go.RowKit Go.Shelf
set_option linter.unusedSimpArgs false
set_option linter.unusedVariables false

theorem GrowR.drew {nm : ByteArray} {wb ws : World} {v0 v : Value} {wr : World} {L : List Rng} (h : GrowR nm wb ws v0 wr v L) : GrowR nm wb ws v0 wr.drew v L :=
  ⟨h.own, h.bl.drew, h.sz, h.kp, h.ne⟩

/-- the rings of the times of a wider window. -/
def ringsW (ah : Int) (Z : List (Int × Int)) (B M N : List Int) (C : List (Int × Int)) (A : List Alm) (ln lo hi : Int) : List Rng :=
  (tmsOf ah Z B M N C ln (lo - 400000) (hi + 400000)).flatMap fun x => almsL ln lo hi x 0 A

theorem ringsW_mem {ah : Int} {Z : List (Int × Int)} {B M N : List Int} {C : List (Int × Int)} {A : List Alm} {ln lo hi : Int} (hz : MayZ ah Z) (hC : C.Pairwise (fun x y => x.1 < y.1)) (hA : ∀ a ∈ A, almBad a = false) (hl : 0 ≤ ln ∧ ln ≤ 100000) {r : Rng} :
    r ∈ ringsW ah Z B M N C A ln lo hi ↔ r ∈ ringsL ah Z B M N C A ln lo hi := by
  unfold ringsW
  constructor
  · intro hr
    obtain ⟨x, hx, hr⟩ := List.mem_flatMap.1 hr
    rw [ringsL_mem hz hC hA hl]
    obtain ⟨h1, h2, h3, h4⟩ := (tmsOf_mem hz hC).1 hx
    obtain ⟨j, hj, h5⟩ := almsL_mem.1 hr
    obtain ⟨k, hk, rfl, h6, h7, h8⟩ := turnsL_mem.1 h5
    refine ⟨⟨h7, h8⟩, h6, x.2, j, k, hj, h1, h2, by omega, rfl, by simp, rfl⟩
  · intro hr
    unfold ringsL srtR ringsU at hr
    rw [List.mem_mergeSort, List.mem_flatMap] at hr
    obtain ⟨x, hx, hr⟩ := hr
    obtain ⟨h1, h2, h3, h4⟩ := (tmsOf_mem hz hC).1 hx
    exact List.mem_flatMap.2 ⟨x, (tmsOf_mem hz hC).2 ⟨h1, h2, by omega, by omega⟩, hr⟩

theorem ringsW_nodup {ah : Int} {Z : List (Int × Int)} {B M N : List Int} {C : List (Int × Int)} {A : List Alm} {ln lo hi : Int} (hz : MayZ ah Z) (hC : C.Pairwise (fun x y => x.1 < y.1)) : (ringsW ah Z B M N C A ln lo hi).Nodup := ringsU_nodup (tms_which hz hC)

theorem ringsW_sort {ah : Int} {Z : List (Int × Int)} {B M N : List Int} {C : List (Int × Int)} {A : List Alm} {ln lo hi : Int} (hz : MayZ ah Z) (hC : C.Pairwise (fun x y => x.1 < y.1)) (hA : ∀ a ∈ A, almBad a = false) (hl : 0 ≤ ln ∧ ln ≤ 100000) :
    srtR (ringsW ah Z B M N C A ln lo hi) = ringsL ah Z B M N C A ln lo hi := by
  refine ord_ext lt4_irr lt4_trans _ _ (srtR_ord (ringsW_nodup hz hC)) (ringsL_ord hz hC) fun r => ?_
  unfold srtR
  rw [List.mem_mergeSort]
  exact ringsW_mem hz hC hA hl

theorem flat_le {f : (Int × Int) → List Rng} (R : List (Int × Int)) (k : Nat) : ((R.take k).flatMap f).length ≤ (R.flatMap f).length := by
  conv => rhs; rw [← List.take_append_drop k R]
  rw [List.flatMap_append, List.length_append]; omega

/-- what chimeref2.Rings answers. -/
def RrgP (nm : ByteArray) (R : List Rng) (w : World) (e : Ending) (w' : World) : Prop := ∃ v, e = .returned (.tuple #[v, .int .i64 (manyE R.length)]) ∧ RngsX w' v (if manyE R.length = 0 then R.map (wnX nm) else []) ∧ Below w.heap.size w w'

theorem encX_wn (nm : ByteArray) (L : List Rng) : (L.map (wnX nm)).flatMap encX = L.flatMap (encR nm) := by
  rw [List.flatMap_map]; rfl

theorem OwnR.rngsX {nm : ByteArray} {B : Nat} {w : World} {v : Value} {L : List Rng} (h : OwnR nm B w v L) : RngsX w v (L.map (wnX nm)) := by
  unfold RngsX
  rw [encX_wn, List.length_map]
  exact ownsRow_reads h

set_option maxRecDepth 100000 in
set_option maxHeartbeats 16000000 in
theorem rrings_any (snm stx : ByteArray) (st ln : Int) (rp : Bool) (fr ev ct ti : Int) (vm vd vw vp vM vN vC vA : Value) (mo da : List Int) (we : List (Int × Int)) (pk M N : List Int) (C : List (Int × Int)) (A : List Alm) (ah : Int) (vZ : Value) (Z : List (Int × Int)) (lo hi : Int) (w : World)
    (hR : EvR w vm vd vw vp vM vN vC vA mo da we pk M N C A) (hF : EvFacts st ln rp fr ev ct ti mo da we pk M N C A) (hZ : PairsR w vZ Z) (hz : zfault ah Z = 0) (ha : -100000000 ≤ lo ∧ lo ≤ 900000000) (hb : -100000000 ≤ hi ∧ hi ≤ 900000000) :
    Calls Tryz.prog 32 #[.agg #[.int .i64 ah, vZ], .agg #[.string snm, .string stx, .int .i64 st, .int .i64 ln, .bool rp, .int .i64 fr, .int .i64 ev, .int .i64 ct, .int .i64 ti, vm, vd, vw, vp, vM, vN, vC, vA], .int .i64 lo, .int .i64 hi] w
      (RrgP snm (ringsL ah Z (ruleT rp st fr ev ct ti mo da we pk) M N C A ln lo hi) w) := by
  have hR0 := hR
  obtain ⟨h1, h2, h3, h4, hM, hN, hC, hA⟩ := hR
  obtain ⟨am, km, rfl, -, -, -⟩ := intsR_open h1
  obtain ⟨ad, kd, rfl, -, -, -⟩ := intsR_open h2
  obtain ⟨aw, kw, rfl, -, -, -⟩ := pairsR_open h3
  obtain ⟨ap, kp, rfl, -, -, -⟩ := intsR_open h4
  obtain ⟨aM, kM, rfl, -, -, -⟩ := intsR_open hM
  obtain ⟨aN, kN, rfl, -, -, -⟩ := intsR_open hN
  obtain ⟨aC, kC, rfl, -, kC2, hds⟩ := pairsR_open hC
  obtain ⟨aA, kA, rfl, -, kA2, hdA⟩ := almsR_open hA
  unfold maxLen at kC2 kA2
  obtain ⟨aZ, kZ, rfl, -, -, -⟩ := pairsR_open hZ
  obtain ⟨eb, heb⟩ : ∃ x, x = w.heap.size := ⟨_, rfl⟩
  obtain ⟨wz, hwz⟩ : ∃ x, x = w.alloc (.cells #[.int .i64 ah, .slice aZ Z.length kZ] 33) := ⟨_, rfl⟩
  have hbz : Below w.heap.size w wz := by rw [hwz]; exact (Below.refl _ _).alloc (Nat.le_refl _) _
  have hsz : wz.heap.size = eb + 1 := by rw [hwz, heb]; simp
  have z0 : wz.cell? ⟨eb, 0, none⟩ = some (.int .i64 ah) := by rw [hwz, heb]; simp
  have z1 : wz.cell? ⟨eb, 1, none⟩ = some (.slice aZ Z.length kZ) := by rw [hwz, heb]; simp
  obtain ⟨w0, hw0⟩ : ∃ x, x = wz.alloc (.cells #[.string snm, .string stx, .int .i64 st, .int .i64 ln, .bool rp, .int .i64 fr, .int .i64 ev, .int .i64 ct, .int .i64 ti, .slice am mo.length km, .slice ad da.length kd, .slice aw we.length kw, .slice ap pk.length kp, .slice aM M.length kM, .slice aN N.length kN, .slice aC C.length kC, .slice aA A.length kA] 29) := ⟨_, rfl⟩
  have hb0 : Below wz.heap.size wz w0 := by rw [hw0]; exact (Below.refl _ _).alloc (Nat.le_refl _) _
  have ec := hw0 ▸ evC_new wz 29 snm stx st ln rp fr ev ct ti (.slice am mo.length km) (.slice ad da.length kd) (.slice aw we.length kw) (.slice ap pk.length kp) (.slice aM M.length kM) (.slice aN N.length kN) (.slice aC C.length kC) (.slice aA A.length kA)
  rw [hsz] at ec
  have z0 := cell_below hb0 z0; have z1 := cell_below hb0 z1
  have hbw : Below w.heap.size w w0 := hbz.trans (hb0.mono hbz.size)
  obtain ⟨T, hT⟩ : ∃ T, T = ruleT rp st fr ev ct ti mo da we pk := ⟨_, rfl⟩
  rw [← hT]
  obtain ⟨R, hRR⟩ : ∃ R, R = tmsOf ah Z T M N C ln (lo - 400000) (hi + 400000) := ⟨_, rfl⟩
  have TO := Lib.hid (show ∀ wx, Below w0.heap.size w0 wx → Calls Tryz.prog 97 #[.agg #[.int .i64 ah, .slice aZ Z.length kZ], .agg #[.string snm, .string stx, .int .i64 st, .int .i64 ln, .bool rp, .int .i64 fr, .int .i64 ev, .int .i64 ct, .int .i64 ti, .slice am mo.length km, .slice ad da.length kd, .slice aw we.length kw, .slice ap pk.length kp, .slice aM M.length kM, .slice aN N.length kN, .slice aC C.length kC, .slice aA A.length kA], .int .i64 (lo - 400000), .int .i64 (hi + 400000)] wx (fun e w' => ∃ v, e = .returned v ∧ TmsR ln w' v R ∧ Below wx.heap.size wx w') from fun wx hbx => by
    have hbw : Below w.heap.size w wx := hbw.trans (hbx.mono hbw.size)
    rw [hRR, hT]
    exact rbet_any snm stx st ln rp fr ev ct ti _ _ _ _ _ _ _ _ mo da we pk M N C A ah _ Z _ _ wx (hR0.below hbw) hF (hZ.below hbw) hz (by omega) (by omega))
  have RT := Lib.hid (show ∀ x ∈ R, 1 ≤ x.2 ∧ x.2 < 157785120 from fun x hx => by
    rw [hRR] at hx
    unfold tmsOf srtT at hx
    rw [List.mem_mergeSort, List.mem_filterMap] at hx
    obtain ⟨t, ht, hwn⟩ := hx
    exact timeB_yes (oneT_which (winT_mem.1 hwn).1).2.1)
  have RU := Lib.hid (show srtR (R.flatMap fun x => almsL ln lo hi x 0 A) = ringsL ah Z T M N C A ln lo hi by rw [hRR]; exact ringsW_sort (mayZ_of hz) hF.upC hF.alm hF.ln)
  have RN := Lib.hid (show (R.flatMap fun x => almsL ln lo hi x 0 A).Nodup by rw [hRR]; exact ringsW_nodup (mayZ_of hz) hF.upC)
  have lR : R.length ≤ 109773 := by
    have h1 := tmsOf_len ah Z T M N C ln (lo - 400000) (hi + 400000)
    rw [← hRR] at h1
    have h2 : T.length ≤ 109573 := by rw [hT]; exact ruleT_len hF.ok
    have h3 := hF.lenM; have h4 := hF.lenC
    omega
  have lnb : 0 ≤ ln ∧ ln ≤ 100000 := hF.ln
  have AL := Lib.hid hF.alm
  have lA : A.length ≤ 4 := hF.lenA
  have HA := Lib.hid (show 0 < A.length → ∃ b off, aA = some ⟨b, off, none⟩ ∧ ∀ j (hj : j < A.length), w0.cell? ⟨b, off + j * 4, none⟩ = some (.int .i64 A[j].1) ∧ w0.cell? ⟨b, off + j * 4 + 1, none⟩ = some (.bool A[j].2.1) ∧ w0.cell? ⟨b, off + j * 4 + 2, none⟩ = some (.int .i64 A[j].2.2.1) ∧ w0.cell? ⟨b, off + j * 4 + 3, none⟩ = some (.int .i64 A[j].2.2.2) from fun hp => by
    obtain ⟨b, off, e1, e2⟩ := hdA hp
    exact ⟨b, off, e1, fun j hj => ⟨cell_below hbw (e2 j hj).1, cell_below hbw (e2 j hj).2.1, cell_below hbw (e2 j hj).2.2.1, cell_below hbw (e2 j hj).2.2.2⟩⟩)
  have EC := Lib.hid ec; have BW := Lib.hid hbw; have WZ := Lib.hid hwz; have W0 := Lib.hid hw0; have EB := Lib.hid heb
  have Z0 := Lib.hid z0; have Z1 := Lib.hid z1
  have wa : IntKind.i64.wrap (lo - 400000) = lo - 400000 := IntWalk.i64_in _ (by omega)
  have wb : IntKind.i64.wrap (hi + 400000) = hi + 400000 := IntWalk.i64_in _ (by omega)
  clear hR0 h1 h2 h3 h4 hM hN hC hA hF hZ hz hwz hbz hsz hw0 hb0 ec hbw hT heb hds hdA hRR
  go_enter Tryz.func32, Tryz.ntmps32
  go_upto_region 1 with fail
  rw [← WZ.out, ← W0.out]
  rw [← EB.out]
  have k0 := EC.out.k0; have k1 := EC.out.k1; have k2 := EC.out.k2; have k3 := EC.out.k3; have k4 := EC.out.k4; have k5 := EC.out.k5; have k6 := EC.out.k6; have k7 := EC.out.k7; have k8 := EC.out.k8; have k9 := EC.out.k9; have k10 := EC.out.k10; have k11 := EC.out.k11; have k12 := EC.out.k12; have k13 := EC.out.k13; have k14 := EC.out.k14; have k15 := EC.out.k15; have k16 := EC.out.k16
  go_cut [10] (fun s10 wx => ∃ v, s10 = v ∧ TmsR ln wx v R ∧ Below w0.heap.size w0 wx)
  case first => as_aux_lemma =>
    go_wp2_with fail
    refine (TO.out _ (Below.refl _ _)).mono ?_; rintro e w1 ⟨v, rfl, hv, hbv⟩
    have HV := Lib.hid hv; have HB := Lib.hid hbv
    clear hv hbv z0 z1 k0 k1 k2 k3 k4 k5 k6 k7 k8 k9 k10 k11 k12 k13 k14 k15 k16
    go_wp2
    go_meet
    exact ⟨_, rfl, HV.out, HB.out⟩
  case rest =>
  clear z0 z1 wa wb k0 k1 k2 k3 k4 k5 k6 k7 k8 k9 k10 k11 k12 k13 k14 k15 k16
  obtain ⟨v, rfl, hv, hb1⟩ := hcut
  obtain ⟨w1, rfl⟩ : ∃ x, x = wc := ⟨_, rfl⟩
  obtain ⟨va, vc, rfl, -, -, hcs⟩ := tmsR_open hv
  have HD := Lib.hid hcs
  have B1 := Lib.hid hb1
  have E1 := Lib.hid (EC.out.below hb1)
  clear hv hb1 hcs TO
  obtain ⟨it, hit, ht0, ht1, ht2⟩ := info_parts ringInfo
  go_upto_region 2 with fail
  go_upto_block 0 with fail
  go_cut [11] (fun s11 wx => ∃ v, s11 = v ∧ (R.flatMap fun x => almsL ln lo hi x 0 A).length ≤ 400 ∧ OwnR snm w1.heap.size wx v (R.flatMap fun x => almsL ln lo hi x 0 A) ∧ Below w1.heap.size w1 wx)
  case first =>
    go_wp2_with fail
    go_loopg [11, 12] R.length (fun g ov iv wr => ∃ k : Nat, k ≤ R.length ∧ iv = .int .i64 k ∧ g = R.length - k ∧ ((R.take k).flatMap fun x => almsL ln lo hi x 0 A).length ≤ 400 ∧ GrowR snm w1 w1 (.slice none 0 0) wr ov ((R.take k).flatMap fun x => almsL ln lo hi x 0 A))
    case atStart => exact ⟨0, Nat.zero_le _, rfl, rfl, by simp, GrowR.start (World.ownsRow_nil _ _ _ _) (Below.refl _ _)⟩
    case round => as_aux_lemma =>
      obtain ⟨k, hk, rfl, hg, hlen, ho⟩ := hrel
      obtain ⟨wo, rfl⟩ : ∃ z, z = wr := ⟨_, rfl⟩
      have G := Lib.hid hg; have OW := Lib.hid ho
      clear hg
      by_cases hlt : k < R.length
      · obtain ⟨kb, ko, rfl, hcs⟩ := HD.out (by omega)
        have Q0 := Lib.hid (fun (wx : World) (hbx : Below w1.heap.size w1 wx) => And.intro (cell_below hbx (hcs k hlt).1) (And.intro (cell_below hbx (hcs k hlt).2.1) (cell_below hbx (hcs k hlt).2.2)))
        have HT := Lib.hid (flat_take (f := fun x => almsL ln lo hi x 0 A) hlt)
        have hxb := RT.out R[k] (List.getElem_mem _)
        have MF := Lib.hid (show 400 < ((R.take (k + 1)).flatMap fun x => almsL ln lo hi x 0 A).length → manyE (ringsL ah Z T M N C A ln lo hi).length = 4 from fun h => by
          have h1 := flat_le (f := fun x => almsL ln lo hi x 0 A) R (k + 1)
          rw [← RU.out, srtR_len, manyE, if_pos (by omega)])
        obtain ⟨x, hx⟩ : ∃ x, x = R[k] := ⟨_, rfl⟩
        rw [← hx] at Q0 HT hxb
        obtain ⟨O, hO⟩ : ∃ O, O = (R.take k).flatMap fun x => almsL ln lo hi x 0 A := ⟨_, rfl⟩
        (try simp only at HT)
        rw [← hO] at OW HT hlen
        obtain ⟨oa, oc, rfl, -, -, -⟩ := owns_cells OW.out.own
        obtain ⟨x1, x2⟩ := x
        simp only at Q0 hxb
        obtain ⟨y, hy⟩ : ∃ y, y = x2 + ln := ⟨_, rfl⟩
        rw [← hy] at Q0
        have Y := Lib.hid hy
        have hyb : 1 ≤ y ∧ y < 157885121 := by omega
        have k16 := (E1.out.below OW.out.bl).k16
        have i0 : (0 : Int) ≤ (k : Int) := Int.natCast_nonneg _
        have i2 : (k : Int) < (R.length : Int) := by omega
        clear hx hO hcs hy ho
        go_upto_region 6 with fail
        go_upto_block 2 with fail
        go_cut [11] (fun s11 wx => ∃ v, s11 = v ∧ GrowR snm w1 wo (.slice oa O.length oc) wx v (O ++ almsL ln lo hi (x1, x2) 0 A))
        case first =>
          clear k16
          go_wp2_with fail
          go_loopg [11, 13] A.length (fun g pv iv wx => ∃ j : Nat, j ≤ A.length ∧ iv = .int .i64 j ∧ g = A.length - j ∧ GrowR snm w1 wo (.slice oa O.length oc) wx pv (O ++ almsL ln lo hi (x1, x2) 0 (A.take j)))
          case atStart => exact ⟨0, Nat.zero_le _, rfl, rfl, by simpa [almsL] using GrowR.start OW.out.own OW.out.bl⟩
          case round => as_aux_lemma =>
            obtain ⟨j, hj, rfl, hg2, ho2⟩ := hrel
            obtain ⟨wx, rfl⟩ : ∃ z, z = wr := ⟨_, rfl⟩
            have G2 := Lib.hid hg2; have OW2 := Lib.hid ho2
            have k16 := (E1.out.below OW2.out.bl).k16
            clear hg2
            by_cases hlt2 : j < A.length
            · obtain ⟨ab0, aof, rfl, hcs⟩ := HA.out (by omega)
              have hbx := B1.out.trans (ho2.bl.mono B1.out.size)
              have a0 := cell_below hbx (hcs j hlt2).1
              have a1 := cell_below hbx (hcs j hlt2).2.1
              have a2 := cell_below hbx (hcs j hlt2).2.2.1
              have a3 := cell_below hbx (hcs j hlt2).2.2.2
              obtain ⟨al, hal⟩ : ∃ x, x = A[j] := ⟨_, rfl⟩
              rw [← hal] at a0 a1 a2 a3
              have aok := alm_ok (AL.out al (by rw [hal]; exact List.getElem_mem _))
              have HT2 := Lib.hid (show almsL ln lo hi (x1, x2) 0 (A.take (j + 1)) = almsL ln lo hi (x1, x2) 0 (A.take j) ++ turnsL (almAt al x2 ln) al.2.2.2 lo hi x1 (j : Int) (al.2.2.1 + 1).toNat by
                rw [List.take_succ_eq_append_getElem hlt2, almsL_snoc, ← hal, List.length_take, Nat.min_eq_left (by omega)]; simp)
              obtain ⟨af, ae, ar, ab⟩ := al
              simp only at a0 a1 a2 a3 aok HT2
              obtain ⟨P, hP⟩ : ∃ P, P = O ++ almsL ln lo hi (x1, x2) 0 (A.take j) := ⟨_, rfl⟩
              have pl : P.length ≤ 424 := by
                have h1 := almsL_len (ln := ln) (lo := lo) (hi := hi) (x := (x1, x2)) (i := 0) (L := A.take j) (fun a ha => AL.out a (List.mem_of_mem_take ha))
                have h2 := List.length_take_le j A
                rw [hP, List.length_append]; omega
              have PE := Lib.hid (show P ++ turnsL (almAt (af, ae, ar, ab) x2 ln) ab lo hi x1 (j : Int) (ar + 1).toNat = O ++ almsL ln lo hi (x1, x2) 0 (A.take (j + 1)) by rw [HT2.out, hP, List.append_assoc])
              rw [← hP] at OW2
              obtain ⟨pa, pc, rfl, -, -, -⟩ := owns_cells OW2.out.own
              obtain ⟨b0, hb0⟩ : ∃ z, z = if ae = true then y else x2 := ⟨_, rfl⟩
              obtain ⟨at_, hat⟩ : ∃ z, z = almAt (af, ae, ar, ab) x2 ln := ⟨_, rfl⟩
              have BE := Lib.hid hb0
              have b0b : 1 ≤ b0 ∧ b0 < 157885121 := by rw [hb0]; split <;> omega
              have AT : b0 + af = at_ := by
                rw [hat, almAt, hb0, Y.out]
                cases ae
                · rw [if_neg (by simp), if_neg (by simp)]
                · rw [if_pos rfl, if_pos rfl]
              have atb : -100000 ≤ at_ ∧ at_ ≤ 158000000 := by omega
              have wat : IntKind.i64.wrap (b0 + af) = at_ := by rw [AT]; exact IntWalk.i64_in _ (by omega)
              rw [← hat] at PE
              obtain ⟨wa, hwa⟩ : ∃ z, z = wx.alloc (.cells #[.int .i64 af, .bool ae, .int .i64 ar, .int .i64 ab] 84) := ⟨_, rfl⟩
              obtain ⟨ag, hag⟩ : ∃ z, z = wx.heap.size := ⟨_, rfl⟩
              have GA := Lib.hid (show GrowR snm w1 wa (.slice pa P.length pc) wa (.slice pa P.length pc) P from GrowR.start (by rw [hwa]; exact (OW2.out.alloc _).own) (by rw [hwa]; exact (OW2.out.alloc _).bl))
              have CA := Lib.hid (show wa.cell? ⟨ag, 0, none⟩ = some (.int .i64 af) ∧ wa.cell? ⟨ag, 1, none⟩ = some (.bool ae) ∧ wa.cell? ⟨ag, 2, none⟩ = some (.int .i64 ar) ∧ wa.cell? ⟨ag, 3, none⟩ = some (.int .i64 ab) by
                rw [hwa, hag]; exact ⟨by simp, by simp, by simp, by simp⟩)
              have CW2 := Lib.hid (show ∀ p u, wx.cell? p = some u → wa.cell? p = some u by rw [hwa]; exact fun p u h => cell_allocX h)
              have SW2 := Lib.hid (show wx.heap.size ≤ wa.heap.size by rw [hwa, World.size_alloc]; omega)
              have NA := Lib.hid (OW2.out.new (b := ag) (by omega))
              have WA := Lib.hid hwa; have AG := Lib.hid hag
              have i4 : (0 : Int) ≤ (j : Int) := Int.natCast_nonneg _
              have i5 : (j : Int) < (A.length : Int) := by omega
              clear hal hcs hbx hP hat hwa hag ho2 HT2 hb0 AT
              go_upto_region 10 with fail
              rw [← WA.out]
              rw [← AG.out]
              clear a0 a1 a2 a3 k16
              obtain ⟨a0, a1, a2, a3⟩ := CA.out
              obtain ⟨q0, q1, q2⟩ := Q0.out wa GA.out.bl
              go_upto_if 52 with fail
              go_cut [15] (fun s15 wz => s15 = .int .i64 b0 ∧ wa = wz)
              case first => as_aux_lemma =>
                cases ae
                · have A2 := Lib.hid (show b0 = x2 by rw [BE.out, if_neg (by simp)])
                  go_wp2
                  go_meet
                  exact ⟨by rw [A2.out], rfl⟩
                · have A2 := Lib.hid (show b0 = y by rw [BE.out, if_pos rfl])
                  go_wp2
                  go_meet
                  exact ⟨by rw [A2.out], rfl⟩
              case rest =>
              obtain ⟨rfl, rfl⟩ := hcut
              obtain ⟨n, hn⟩ : ∃ n, n = (ar + 1).toNat := ⟨_, rfl⟩
              have hn2 : ar + 1 = (n : Int) := by omega
              have hn6 : n ≤ 6 := by omega
              rw [← hn] at PE
              clear hn
              clear a0 a1 a2 a3 q0 q1 q2
              go_upto_region 13 with fail
              go_wp2_with fail
              go_loopg [11, 16] n (fun g qv iv wy => ∃ m : Nat, m ≤ n ∧ iv = .int .i64 m ∧ g = n - m ∧ GrowR snm w1 wa (.slice pa P.length pc) wy qv (P ++ turnsL at_ ab lo hi x1 (j : Int) m))
              case atStart => exact ⟨0, Nat.zero_le _, rfl, rfl, by simpa [turnsL] using GA.out⟩
              case round => as_aux_lemma =>
                obtain ⟨m, hm, rfl, hg3, ho3⟩ := hrel
                obtain ⟨wy, rfl⟩ : ∃ z, z = wr := ⟨_, rfl⟩
                have G3 := Lib.hid hg3; have OW3 := Lib.hid ho3
                clear hg3 ho3
                have a0 := OW3.out.kp _ _ CA.out.1 NA.out
                have a2 := OW3.out.kp _ _ CA.out.2.2.1 NA.out
                have a3 := OW3.out.kp _ _ CA.out.2.2.2 NA.out
                by_cases hlt3 : m < n
                · obtain ⟨mb, hmb⟩ : ∃ z, z = (m : Int) * ab := ⟨_, rfl⟩
                  have mb0 : 0 ≤ mb := by rw [hmb]; exact Int.mul_nonneg (by omega) (by omega)
                  have mb1 : mb ≤ 60000 := by
                    rw [hmb]
                    exact Int.le_trans (Int.mul_le_mul_of_nonneg_left aok.2.2.2.2.2.1 (by omega)) (by omega)
                  obtain ⟨r, hr⟩ : ∃ z, z = at_ + mb := ⟨_, rfl⟩
                  have HT3 := Lib.hid (show P ++ turnsL at_ ab lo hi x1 (j : Int) (m + 1) = (P ++ turnsL at_ ab lo hi x1 (j : Int) m) ++ (if timeB r = true ∧ lo ≤ r ∧ r ≤ hi then [(r, x1, (j : Int), (m : Int))] else []) by
                    rw [turnsL_succ, ← hmb, ← hr, List.append_assoc])
                  obtain ⟨Q, hQ⟩ : ∃ Q, Q = P ++ turnsL at_ ab lo hi x1 (j : Int) m := ⟨_, rfl⟩
                  have ql : Q.length ≤ 430 := by
                    have h1 := turnsL_len at_ ab lo hi x1 (j : Int) m
                    rw [hQ, List.length_append]; omega
                  rw [← hQ] at OW3 HT3
                  obtain ⟨qa, qc, rfl, -, -, -⟩ := owns_cells OW3.out.own
                  have s1 : IntKind.i64.wrap ((m : Int) * ab) = mb := by rw [← hmb]; exact IntWalk.i64_in _ (by omega)
                  have s2 : IntKind.i64.wrap (at_ + mb) = r := by rw [← hr]; exact IntWalk.i64_in _ (by omega)
                  obtain ⟨q, hq⟩ : ∃ q, q = timeB r := ⟨_, rfl⟩
                  have QB := Lib.hid hq
                  have RTM := Lib.hid (show ∀ wz, Calls Tryz.prog 44 #[.int .i64 r] wz (fun e w' => e = .returned (.bool q) ∧ wz = w') from fun wz => by rw [hq]; exact rtime_any r wz)
                  have i6 : (m : Int) ≤ ar := by omega
                  have t6 : decide ((m : Int) ≤ ar) = true := decide_eq_true i6
                  clear hmb hr hQ hq
                  go_upto_region 17 with fail
                  clear a0 a2 a3 s1 s2
                  go_wp2_with fail
                  refine (RTM.out _).mono ?_; rintro e w2 ⟨rfl, rfl⟩
                  have nxt : ∀ b : Prop, [Decidable b] → ¬ b → (timeB r = true ∧ lo ≤ r ∧ r ≤ hi → b) → P ++ turnsL at_ ab lo hi x1 (j : Int) (m + 1) = Q := fun b _ h1 h2 => by rw [HT3.out, if_neg (fun h => h1 (h2 h)), List.append_nil]
                  cases q
                  · have N2 := Lib.hid (show P ++ turnsL at_ ab lo hi x1 (j : Int) (m + 1) = Q by rw [HT3.out, if_neg (by rw [← QB.out]; simp), List.append_nil])
                    clear nxt
                    go_wp2
                    go_roundg (n - (m + 1))
                    case measure => rw [G3.out]; omega
                    case rel => exact ⟨m + 1, by omega, by go_num, rfl, by rw [N2.out]; exact OW3.out⟩
                  by_cases g1 : lo ≤ r
                  · by_cases g2 : r ≤ hi
                    · have N2 := Lib.hid (show P ++ turnsL at_ ab lo hi x1 (j : Int) (m + 1) = Q ++ [(r, x1, (j : Int), (m : Int))] by rw [HT3.out, if_pos ⟨QB.out.symm, g1, g2⟩])
                      have d1 : decide (lo ≤ r) = true := decide_eq_true g1
                      have d2 : decide (r ≤ hi) = true := decide_eq_true g2
                      have OP := Lib.hid (OW3.out.drew.alloc (.cells #[.int .i64 r, .string snm, .int .i64 x1, .int .i64 j, .int .i64 m] 66))
                      have hsz := OP.out.bl.size
                      clear g1 g2 nxt
                      go_upto_region 19 with fail
                      refine wp_region_held_drew (S := (fun w' => Below w1.heap.size w1 w')) (by kernel_rfl) OW3.out.bl.drew (fun hHeld => ?_)
                      refine wpAnyH_take (i := 0) (v := ?_) rfl (by kernel_rfl) (by kernel_rfl) (by kernel_rfl) (fun _ _ _ h => h) (Or.inl ⟨by rfl, ?_⟩) hHeld ?_
                      rotate_left
                      · (intro w hSw; (try dsimp only at hSw); go_simp <;> with_reducible rfl)
                      change wpAnyH _ _ _ _ _ _ _ (Act.put _ (some 86) _) _
                      try simp only [Act.put, List.setIfInBounds_toArray, List.set_cons_zero, List.set_cons_succ]
                      refine wpAnyH_take (i := 1) (v := ?_) rfl (by kernel_rfl) (by kernel_rfl) (by kernel_rfl) (fun _ _ _ h => h) (Or.inl ⟨by rfl, ?_⟩) hHeld ?_
                      rotate_left
                      · (intro w hSw; (try dsimp only at hSw); go_simp <;> with_reducible rfl)
                      change wpAnyH _ _ _ _ _ _ _ (Act.put _ (some 87) _) _
                      try simp only [Act.put, List.setIfInBounds_toArray, List.set_cons_zero, List.set_cons_succ]
                      refine wpAnyH_take (i := 2) (v := ?_) rfl (by kernel_rfl) (by kernel_rfl) (by kernel_rfl) (fun _ _ _ h => h) (Or.inl ⟨by rfl, ?_⟩) hHeld ?_
                      rotate_left
                      · (intro w hSw; (try dsimp only at hSw); go_simp <;> with_reducible rfl)
                      change wpAnyH _ _ _ _ _ _ _ (Act.put _ (some 88) _) _
                      try simp only [Act.put, List.setIfInBounds_toArray, List.set_cons_zero, List.set_cons_succ]
                      refine wpAnyH_take (i := 3) (v := ?_) rfl (by kernel_rfl) (by kernel_rfl) (by kernel_rfl) (fun _ _ _ h => h) (Or.inl ⟨by rfl, ?_⟩) hHeld ?_
                      rotate_left
                      · (intro w hSw; (try dsimp only at hSw); have k0 := (E1.out.below hSw).k0; go_simp <;> with_reducible rfl)
                      change wpAnyH _ _ _ _ _ _ _ (Act.put _ (some 89) _) _
                      try simp only [Act.put, List.setIfInBounds_toArray, List.set_cons_zero, List.set_cons_succ]
                      refine wpAnyH_take (i := 4) (v := ?_) rfl (by kernel_rfl) (by kernel_rfl) (by kernel_rfl) (fun _ _ _ h => h) (Or.inl ⟨by rfl, ?_⟩) hHeld ?_
                      rotate_left
                      · (intro w hSw; (try dsimp only at hSw); go_simp <;> with_reducible rfl)
                      change wpAnyH _ _ _ _ _ _ _ (Act.put _ (some 90) _) _
                      try simp only [Act.put, List.setIfInBounds_toArray, List.set_cons_zero, List.set_cons_succ]
                      refine wpAnyH_take (i := 5) (v := ?_) rfl (by kernel_rfl) (by kernel_rfl) (by kernel_rfl) (fun _ _ _ h => h) (Or.inl ⟨by rfl, ?_⟩) hHeld ?_
                      rotate_left
                      · (intro w hSw; (try dsimp only at hSw); go_simp <;> with_reducible rfl)
                      change wpAnyH _ _ _ _ _ _ _ (Act.put _ (some 91) _) _
                      try simp only [Act.put, List.setIfInBounds_toArray, List.set_cons_zero, List.set_cons_succ]
                      refine wpAnyH_take (i := 6) (v := ?_) rfl (by kernel_rfl) (by kernel_rfl) (by kernel_rfl) (fun _ _ _ h => h) (Or.inl ⟨by rfl, ?_⟩) hHeld ?_
                      rotate_left
                      · (intro w hSw; (try dsimp only at hSw); go_simp <;> with_reducible rfl)
                      change wpAnyH _ _ _ _ _ _ _ (Act.put _ (some 92) _) _
                      try simp only [Act.put, List.setIfInBounds_toArray, List.set_cons_zero, List.set_cons_succ]
                      refine wpAnyH_take (i := 7) (v := ?_) rfl (by kernel_rfl) (by kernel_rfl) (by kernel_rfl) (fun _ _ _ h => h) (Or.inl ⟨by rfl, ?_⟩) hHeld ?_
                      rotate_left
                      · (intro w hSw; (try dsimp only at hSw); go_simp <;> with_reducible rfl)
                      change wpAnyH _ _ _ _ _ _ _ (Act.put _ (some 93) _) _
                      try simp only [Act.put, List.setIfInBounds_toArray, List.set_cons_zero, List.set_cons_succ]
                      refine wpAnyH_take (i := 8) (v := ?_) rfl (by kernel_rfl) (by kernel_rfl) (by kernel_rfl) (fun _ _ _ h => h) (Or.inl ⟨by rfl, ?_⟩) hHeld ?_
                      rotate_left
                      · (intro w hSw; (try dsimp only at hSw); obtain ⟨q0, -, -⟩ := Q0.out w hSw; go_simp <;> with_reducible rfl)
                      change wpAnyH _ _ _ _ _ _ _ (Act.put _ (some 94) _) _
                      try simp only [Act.put, List.setIfInBounds_toArray, List.set_cons_zero, List.set_cons_succ]
                      refine wpAnyH_take (i := 9) (v := ?_) rfl (by kernel_rfl) (by kernel_rfl) (by kernel_rfl) (fun _ _ _ h => h) (Or.inl ⟨by rfl, ?_⟩) hHeld ?_
                      rotate_left
                      · (intro w hSw; (try dsimp only at hSw); go_simp <;> with_reducible rfl)
                      change wpAnyH _ _ _ _ _ _ _ (Act.put _ (some 95) _) _
                      try simp only [Act.put, List.setIfInBounds_toArray, List.set_cons_zero, List.set_cons_succ]
                      refine wpAnyH_take (i := 10) (v := ?_) rfl (by kernel_rfl) (by kernel_rfl) (by kernel_rfl) (fun _ _ _ h => h) (Or.inl ⟨by rfl, ?_⟩) hHeld ?_
                      rotate_left
                      · (intro w hSw; (try dsimp only at hSw); go_simp <;> with_reducible rfl)
                      change wpAnyH _ _ _ _ _ _ _ (Act.put _ (some 96) _) _
                      try simp only [Act.put, List.setIfInBounds_toArray, List.set_cons_zero, List.set_cons_succ]
                      refine wpAnyH_take (i := 11) (v := ?_) rfl (by kernel_rfl) (by kernel_rfl) (by kernel_rfl) (fun _ _ _ h => h) (Or.inl ⟨by rfl, ?_⟩) hHeld ?_
                      rotate_left
                      · (intro w hSw; (try dsimp only at hSw); go_simp <;> with_reducible rfl)
                      change wpAnyH _ _ _ _ _ _ _ (Act.put _ (some 97) _) _
                      try simp only [Act.put, List.setIfInBounds_toArray, List.set_cons_zero, List.set_cons_succ]
                      refine wpAnyH_ready (rs := [12]) (by kernel_rfl) (by simp) ?_
                      refine AllReadyH.cons rfl (fun K hK => ?_) ?_
                      rotate_left
                      · exact AllReadyH.nil
                      go_simp
                      refine hK.out _ _ (hHeld.alloc hHeld.size _) (fun hHeld => ?_)
                      clear hK K
                      try simp only [Act.put, List.setIfInBounds_toArray, List.set_cons_zero, List.set_cons_succ]
                      refine wpAnyH_ready (rs := [13]) (by kernel_rfl) (by simp) ?_
                      refine AllReadyH.cons rfl (fun K hK => ?_) ?_
                      rotate_left
                      · exact AllReadyH.nil
                      refine step_append_lies _ (by rfl) _ _ _ (by rfl) w1.heap.size 66 it _ 5 48 Tryz.underlying62 hit ht0 ht1 ht2 rfl (by decide) (.slice qa Q.length qc) Q.length (Q.flatMap (encR snm)) (by rfl) OP.out.own ⟨wy.heap.size, 0, none⟩ 1 1 [.int .i64 r, .string snm, .int .i64 x1, .int .i64 j, .int .i64 m] (by rfl) (by rfl) (World.news_of_block (cs := #[.int .i64 r, .string snm, .int .i64 x1, .int .i64 j, .int .i64 m]) (t := 66) (fr := (0, 0)) (show (wy.drew.alloc (.cells #[.int .i64 r, .string snm, .int .i64 x1, .int .i64 j, .int .i64 m] 66)).heap[wy.heap.size]? = _ from heap_alloc_new wy.drew _)) (by simp [Value.oneCell']) (by omega) (by unfold maxLen; omega) (by omega) hsz (wy.heap.size + 1) (by simp) ?_
                      intro g4 c4 w4 hown4 hg4 hat4 hlt4
                      have OX := Lib.hid (OP.out.grown hg4 (K := Q ++ [(r, x1, (j : Int), (m : Int))]) (n := Q.length + 1) (c := c4) (by unfold OwnR; rw [List.length_append, OwnR.app]; exact hown4) (by rcases hat4 with h | h; exact .inl h; exact .inr (by rw [h, World.size_alloc]; rfl)))
                      clear hown4 hg4 hat4
                      refine hK.out _ _ (OX.out.bl) (fun hHeld => ?_)
                      clear hK K
                      try simp only [Act.put, List.setIfInBounds_toArray, List.set_cons_zero, List.set_cons_succ]
                      refine wpAnyH_take (i := 14) (v := ?_) rfl (by kernel_rfl) (by kernel_rfl) (by kernel_rfl) (fun _ _ _ h => h) (Or.inl ⟨by rfl, ?_⟩) hHeld ?_
                      rotate_left
                      · (intro w hSw; (try dsimp only at hSw); go_simp <;> with_reducible rfl)
                      change wpAnyH _ _ _ _ _ _ _ (Act.put _ (some 11) _) _
                      try simp only [Act.put, List.setIfInBounds_toArray, List.set_cons_zero, List.set_cons_succ]
                      refine wpAnyH_done (by kernel_rfl) ?_ _
                      clear hHeld
                      go_wp2
                      go_roundg (n - (m + 1))
                      case measure => rw [G3.out]; omega
                      case rel => exact ⟨m + 1, by omega, by go_num, rfl, by rw [N2.out]; exact OX.out⟩
                    · have N2 := Lib.hid (nxt (r ≤ hi) g2 (fun h => h.2.2))
                      have d1 : decide (lo ≤ r) = true := decide_eq_true g1
                      have d2 : decide (r ≤ hi) = false := decide_eq_false g2
                      clear g1 g2 nxt
                      go_wp2
                      go_roundg (n - (m + 1))
                      case measure => rw [G3.out]; omega
                      case rel => exact ⟨m + 1, by omega, by go_num, rfl, by rw [N2.out]; exact OW3.out⟩
                  · have N2 := Lib.hid (nxt (lo ≤ r) g1 (fun h => h.2.1))
                    have d1 : decide (lo ≤ r) = false := decide_eq_false g1
                    clear g1 nxt
                    go_wp2
                    go_roundg (n - (m + 1))
                    case measure => rw [G3.out]; omega
                    case rel => exact ⟨m + 1, by omega, by go_num, rfl, by rw [N2.out]; exact OW3.out⟩
                · obtain rfl : m = n := by omega
                  have i6 : ¬ (m : Int) ≤ ar := by omega
                  have t6 : decide ((m : Int) ≤ ar) = false := decide_eq_false i6
                  go_wp2
                  go_roundg (A.length - (j + 1))
                  case measure => rw [G2.out]; omega
                  case rel => exact ⟨j + 1, by omega, by go_num, rfl, by rw [← PE.out]; exact OW2.out.comp SW2.out CW2.out OW3.out⟩
            · obtain rfl : j = A.length := by omega
              have i5 : ¬ (A.length : Int) < (A.length : Int) := by omega
              rw [List.take_length] at OW2
              clear ho2
              go_wp2
              go_meet
              exact ⟨_, rfl, OW2.out⟩
        case rest =>
        obtain ⟨v, rfl, ho2⟩ := hcut
        obtain ⟨w2, rfl⟩ : ∃ z, z = wc := ⟨_, rfl⟩
        have OW2 := Lib.hid (OW.out.comp (Nat.le_refl _) (fun p u h => h) ho2)
        rw [← HT.out] at OW2
        obtain ⟨P, hP⟩ : ∃ P, P = (R.take (k + 1)).flatMap fun x => almsL ln lo hi x 0 A := ⟨_, rfl⟩
        rw [← hP] at OW2 MF
        have PE := Lib.hid hP
        obtain ⟨pa, pc, rfl, -, -, -⟩ := owns_cells OW2.out.own
        clear ho2 hP k16
        by_cases hl : 400 < P.length
        · have t1 : decide ((400 : Int) < (P.length : Int)) = true := decide_eq_true (by omega)
          have t1b : decide (400 < P.length) = true := decide_eq_true hl
          have ME := Lib.hid (MF.out hl)
          clear hl
          go_wp2
          go_ret2
          exact ⟨_, by first | (rw [ME.out]; done) | (rw [ME.out]; rfl), by rw [ME.out, if_neg (by decide)]; exact rngsX_nil _, BW.out.trans ((B1.out.trans (OW2.out.bl.mono B1.out.size)).mono BW.out.size)⟩
        · have t1 : decide ((400 : Int) < (P.length : Int)) = false := decide_eq_false (by omega)
          have t1b : decide (400 < P.length) = false := decide_eq_false hl
          have PL : P.length ≤ 400 := by omega
          clear hl
          go_wp2
          go_roundg (R.length - (k + 1))
          case measure => rw [G.out]; omega
          case rel => exact ⟨k + 1, by omega, by go_num, rfl, by rw [← PE.out]; exact PL, by rw [← PE.out]; exact OW2.out⟩
      · obtain rfl : k = R.length := by omega
        have i2 : ¬ (R.length : Int) < (R.length : Int) := by omega
        rw [List.take_length] at OW hlen
        clear ho
        go_wp2
        go_meet
        exact ⟨_, rfl, hlen, OW.out.own, OW.out.bl⟩
  case rest =>
  obtain ⟨v, rfl, hlen, hv, hb2⟩ := hcut
  obtain ⟨w2, rfl⟩ : ∃ z, z = wc := ⟨_, rfl⟩
  have B2 := Lib.hid (B1.out.trans (hb2.mono B1.out.size))
  have ME := Lib.hid (show manyE (ringsL ah Z T M N C A ln lo hi).length = 0 by rw [← RU.out, srtR_len, manyE, if_neg (by omega)])
  obtain ⟨O, hO⟩ : ∃ O, O = (R.flatMap fun x => almsL ln lo hi x 0 A).map (wnX snm) := ⟨_, rfl⟩
  have OE := Lib.hid (show O.foldl putX [] = (ringsL ah Z T M N C A ln lo hi).map (wnX snm) by rw [hO, foldX_sort snm RN.out, RU.out])
  have hx := hv.rngsX
  rw [← hO] at hx
  have ol : O.length ≤ 400 := by rw [hO, List.length_map]; exact hlen
  obtain ⟨oa, oc, e1, -, -, hcs⟩ := rngsX_open hx
  subst e1
  have HO := Lib.hid hcs
  clear hv hb2 hO hx hcs hlen
  go_upto_region 22 with fail
  go_wp2_with fail
  go_loopg [19, 20] O.length (fun g sv iv wr => ∃ k : Nat, k ≤ O.length ∧ iv = .int .i64 k ∧ g = O.length - k ∧ RngsX wr sv ((O.take k).foldl putX []) ∧ Below w2.heap.size w2 wr)
  case atStart => exact ⟨0, Nat.zero_le _, rfl, rfl, by simpa using rngsX_nil _, Below.refl _ _⟩
  case round =>
    obtain ⟨k, hk, rfl, hg, hs, hb⟩ := hrel
    obtain ⟨wo, rfl⟩ : ∃ z, z = wr := ⟨_, rfl⟩
    have G := Lib.hid hg; have BR := Lib.hid hb; have SR := Lib.hid hs
    clear hg
    by_cases hlt : k < O.length
    · obtain ⟨kb, ko, rfl, hc⟩ := HO.out (by omega)
      obtain ⟨c0, c1, c2, c3, c4⟩ := hc k hlt
      have c0 := cell_below hb c0; have c1 := cell_below hb c1; have c2 := cell_below hb c2; have c3 := cell_below hb c3; have c4 := cell_below hb c4
      have HT := Lib.hid (show (O.take (k + 1)).foldl putX [] = putX ((O.take k).foldl putX []) O[k] by rw [List.take_succ_eq_append_getElem hlt, List.foldl_append]; rfl)
      have PO := Lib.hid (foldX_ord (O.take k) [] List.Pairwise.nil)
      have PL := foldX_len (O.take k) []
      have PT := List.length_take_le k O
      obtain ⟨S, hS⟩ : ∃ S, S = (O.take k).foldl putX [] := ⟨_, rfl⟩
      rw [← hS] at SR HT PO PL
      obtain ⟨x, hx⟩ : ∃ x, x = O[k] := ⟨_, rfl⟩
      rw [← hx] at c0 c1 c2 c3 c4 HT
      obtain ⟨x1, xn, x2, x3, x4⟩ := x
      simp only at c0 c1 c2 c3 c4
      have RA := Lib.hid (radd_any _ S x1 xn x2 x3 x4 wo SR.out PO.out (by simp at PL; omega))
      have i0 : (0 : Int) ≤ (k : Int) := Int.natCast_nonneg _
      have i2 : (k : Int) < (O.length : Int) := by omega
      clear hx hb hs hc hS PL PT
      go_wp2_with fail
      refine RA.out.mono ?_; rintro e w3 ⟨u, rfl, hu, hb3⟩
      have HU := Lib.hid hu; have HB := Lib.hid (BR.out.trans (hb3.mono BR.out.size))
      clear hu hb3 c0 c1 c2 c3 c4
      go_wp2
      go_roundg (O.length - (k + 1))
      case measure => rw [G.out]; omega
      case rel => exact ⟨k + 1, by omega, by go_num, rfl, by rw [HT.out]; exact HU.out, HB.out⟩
    · obtain rfl : k = O.length := by omega
      have i2 : ¬ (O.length : Int) < (O.length : Int) := by omega
      rw [List.take_length] at SR
      clear hb hs
      go_wp2
      go_ret2
      exact ⟨_, by first | (rw [ME.out]; done) | (rw [ME.out]; rfl), by rw [ME.out, if_pos rfl, ← OE.out]; exact SR.out, BW.out.trans ((B2.out.trans (BR.out.mono B2.out.size)).mono BW.out.size)⟩

end Go.Proofs.YtgelojhpanbnaaaGreatDoor
