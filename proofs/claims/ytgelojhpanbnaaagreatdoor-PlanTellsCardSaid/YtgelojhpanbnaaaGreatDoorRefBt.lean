/- The contract of the reference chimeref2.Between. Conditions: the event and the zone are right; the numbers are not too far. -/
import Derived.Test.YtgelojhpanbnaaaGreatDoorQ25
import Derived.Test.YtgelojhpanbnaaaGreatDoorQ24
import Derived.Test.YtgelojhpanbnaaaGreatDoorQ40
import Derived.Deep.RegionHeld3
namespace Go.Proofs.YtgelojhpanbnaaaGreatDoor
open Go.RowKit Go.Shelf
set_option linter.unusedSimpArgs false
set_option linter.unusedVariables false

theorem below_alloc1 {w w' : World} {o : Obj} (h : Below w.heap.size w w') : Below w.heap.size w (w'.alloc o) := h.alloc h.size _

theorem block_new (w : World) (o : Obj) : (w.alloc o).heap[w.heap.size]? = some o := heap_alloc_new _ _

theorem timeInfoB : (Tryz.prog.info? 54).map (fun i => (i.zero, i.size, i.bytes)) = some (some (.agg #[.int .i64 0, .int .i64 0, .int .i64 0]), 3, 24) := by kernel_rfl

theorem three_at {w : World} {a b c : Value} {t : TypeId} : ∀ j u, ([a, b, c] : List Value)[j]? = some u → (w.alloc (.cells #[a, b, c] t)).cell? ((⟨w.heap.size, 0, none⟩ : Addr).add j) = some u := fun j u hj => by
  match j, hj with
  | 0, hj => (simp at hj; subst hj; simp [Addr.add])
  | 1, hj => (simp at hj; subst hj; simp [Addr.add])
  | 2, hj => (simp at hj; subst hj; simp [Addr.add])

def BoxT (w : World) (tb : Nat) (x y z : Int) : Prop := w.heap[tb]? = some (.cells #[.int .i64 x, .int .i64 y, .int .i64 z] 54 (0, 0))

theorem BoxT.cells {w : World} {tb : Nat} {x y z : Int} (h : BoxT w tb x y z) : w.cell? ⟨tb, 0, none⟩ = some (.int .i64 x) ∧ w.cell? ⟨tb, 1, none⟩ = some (.int .i64 y) ∧ w.cell? ⟨tb, 2, none⟩ = some (.int .i64 z) := by
  unfold BoxT at h
  refine ⟨?_, ?_, ?_⟩ <;> simp [World.cell?, h]

theorem BoxT.below {w w' : World} {tb : Nat} {x y z : Int} (h : BoxT w tb x y z) (hb : Below w.heap.size w w') : BoxT w' tb x y z := by
  unfold BoxT at h ⊢
  exact (hb.block tb (Array.getElem?_eq_some_iff.1 h).1).trans h

theorem BoxT.set3 {w : World} {tb g o : Nat} {x y z : Int} {u v r : Value} (h : BoxT w tb x y z) (hg : tb ≠ g) : BoxT (w.setCells g o [u, v, r]) tb x y z := by
  unfold BoxT at h ⊢
  simp only [World.setCells]
  rw [heap_setCell_other _ _ _ _ (by simpa using hg), heap_setCell_other _ _ _ _ (by simpa using hg), heap_setCell_other _ _ _ _ (by simpa using hg)]; exact h

theorem BoxT.grown {w w' : World} {tb : Nat} {x y z : Int} {b : Option Nat} (h : BoxT w tb x y z) (hg : w.grownBy w' b) (hb : b ≠ some tb) : BoxT w' tb x y z := by
  unfold BoxT at h ⊢
  exact (hg.block tb (Array.getElem?_eq_some_iff.1 h).1 (Ne.symm hb)).trans h

theorem BoxT.made {w : World} {tb : Nat} {a1 a2 a3 : Value} {x y z : Int} (h : w.heap[tb]? = some (.cells #[a1, a2, a3] 54 (0, 0))) : BoxT (w.setCells tb 0 [.int .i64 x, .int .i64 y, .int .i64 z]) tb x y z := by
  unfold BoxT
  have h1 := heap_setCell_same w tb 0 _ _ (.int .i64 x) h
  have h2 := heap_setCell_same _ tb 1 _ _ (.int .i64 y) h1
  have h3 := heap_setCell_same _ tb 2 _ _ (.int .i64 z) h2
  simpa [World.setCells] using h3

set_option maxRecDepth 100000 in
set_option maxHeartbeats 16000000 in
theorem rbet_own (snm stx : ByteArray) (st ln : Int) (rp : Bool) (fr ev ct ti : Int) (vm vd vw vp vM vN vC vA : Value) (mo da : List Int) (we : List (Int × Int)) (pk M N : List Int) (C : List (Int × Int)) (A : List Alm) (ah : Int) (vZ : Value) (Z : List (Int × Int)) (a b : Int) (w : World)
    (hR : EvR w vm vd vw vp vM vN vC vA mo da we pk M N C A) (hF : EvFacts st ln rp fr ev ct ti mo da we pk M N C A) (hZ : PairsR w vZ Z) (hz : zfault ah Z = 0) (ha : -1000000000 ≤ a ∧ a ≤ 1000000000) (hb : -1000000000 ≤ b ∧ b ≤ 1000000000) :
    Calls Tryz.prog 97 #[.agg #[.int .i64 ah, vZ], .agg #[.string snm, .string stx, .int .i64 st, .int .i64 ln, .bool rp, .int .i64 fr, .int .i64 ev, .int .i64 ct, .int .i64 ti, vm, vd, vw, vp, vM, vN, vC, vA], .int .i64 a, .int .i64 b] w
      fun e w' => ∃ u, e = .returned u ∧ OwnT ln w.heap.size w' u (tmsOf ah Z (ruleT rp st fr ev ct ti mo da we pk) M N C ln a b) ∧ Below w.heap.size w w' := by
  have hR0 := hR
  obtain ⟨h1, h2, h3, h4, hM, hN, hC, hA⟩ := hR
  obtain ⟨am, km, rfl, -, -, -⟩ := intsR_open h1
  obtain ⟨ad, kd, rfl, -, -, -⟩ := intsR_open h2
  obtain ⟨aw, kw, rfl, -, -, -⟩ := pairsR_open h3
  obtain ⟨ap, kp, rfl, -, -, -⟩ := intsR_open h4
  obtain ⟨aM, kM, rfl, -, -, -⟩ := intsR_open hM
  obtain ⟨aN, kN, rfl, -, -, -⟩ := intsR_open hN
  obtain ⟨aC, kC, rfl, -, kC2, hds⟩ := pairsR_open hC
  obtain ⟨aA, kA, rfl, -, -, -⟩ := almsR_open hA
  unfold maxLen at kC2
  obtain ⟨aZ, kZ, rfl, -, -, -⟩ := pairsR_open hZ
  obtain ⟨eb, heb⟩ : ∃ x, x = w.heap.size := ⟨_, rfl⟩
  obtain ⟨wz, hwz⟩ : ∃ x, x = w.alloc (.cells #[.int .i64 ah, .slice aZ Z.length kZ] 33) := ⟨_, rfl⟩
  have hbz : Below w.heap.size w wz := by rw [hwz]; exact (Below.refl _ _).alloc (Nat.le_refl _) _
  have hsz : wz.heap.size = eb + 1 := by rw [hwz, heb]; simp
  have z0 : wz.cell? ⟨eb, 0, none⟩ = some (.int .i64 ah) := by rw [hwz, heb]; simp
  have z1 : wz.cell? ⟨eb, 1, none⟩ = some (.slice aZ Z.length kZ) := by rw [hwz, heb]; simp
  obtain ⟨w0, hw0⟩ : ∃ x, x = wz.alloc (.cells #[.string snm, .string stx, .int .i64 st, .int .i64 ln, .bool rp, .int .i64 fr, .int .i64 ev, .int .i64 ct, .int .i64 ti, .slice am mo.length km, .slice ad da.length kd, .slice aw we.length kw, .slice ap pk.length kp, .slice aM M.length kM, .slice aN N.length kN, .slice aC C.length kC, .slice aA A.length kA] 29) := ⟨_, rfl⟩
  have hb0 : Below wz.heap.size wz w0 := by rw [hw0]; exact (Below.refl _ _).alloc (Nat.le_refl _) _
  have ec := hw0 ▸ evC_new wz 29 snm stx st ln rp fr ev ct ti (.slice am mo.length km) (.slice ad da.length kd) (.slice aw we.length kw) (.slice ap pk.length kp) (.slice aM M.length kM) (.slice aN N.length kN) (.slice aC C.length kC) (.slice aA A.length kA)
  rw [hsz] at ec
  have z0 := cell_below hb0 z0; have z1 := cell_below hb0 z1
  have hbw : Below w.heap.size w w0 := hbz.trans (hb0.mono hbz.size)
  obtain ⟨T, hT⟩ : ∃ T, T = (ruleT rp st fr ev ct ti mo da we pk) := ⟨_, rfl⟩
  obtain ⟨L0, hL0⟩ : ∃ L, L = evL T M N (a - 3000) (b + 3000) := ⟨_, rfl⟩
  obtain ⟨K, hK⟩ : ∃ K, K = chgR T M N C := ⟨_, rfl⟩
  rw [← hT]
  have wa : IntKind.i64.wrap (a - 3000) = a - 3000 := IntWalk.i64_in _ (by omega)
  have wb : IntKind.i64.wrap (b + 3000) = b + 3000 := IntWalk.i64_in _ (by omega)
  have RL := Lib.hid (show Calls Tryz.prog 118 #[.agg #[.string snm, .string stx, .int .i64 st, .int .i64 ln, .bool rp, .int .i64 fr, .int .i64 ev, .int .i64 ct, .int .i64 ti, .slice am mo.length km, .slice ad da.length kd, .slice aw we.length kw, .slice ap pk.length kp, .slice aM M.length kM, .slice aN N.length kN, .slice aC C.length kC, .slice aA A.length kA], .int .i64 (a - 3000), .int .i64 (b + 3000)] w0 (fun e w' => ∃ u, e = .returned u ∧ IntsR w' u L0 ∧ Below w0.heap.size w0 w') by
    rw [hL0, hT]
    exact rlocal_any snm stx st ln rp fr ev ct ti _ _ _ _ _ _ _ _ mo da we pk M N C A (a - 3000) (b + 3000) w0 (hR0.below hbw) hF.ok (by omega))
  have RC := Lib.hid (show ∀ wx, Below w0.heap.size w0 wx → Calls Tryz.prog 119 #[.agg #[.string snm, .string stx, .int .i64 st, .int .i64 ln, .bool rp, .int .i64 fr, .int .i64 ev, .int .i64 ct, .int .i64 ti, .slice am mo.length km, .slice ad da.length kd, .slice aw we.length kw, .slice ap pk.length kp, .slice aM M.length kM, .slice aN N.length kN, .slice aC C.length kC, .slice aA A.length kA]] wx (fun e w' => ∃ u, e = .returned u ∧ IntsR w' u K ∧ Below wx.heap.size wx w') from fun wx hbx => by
    rw [hK, hT]
    exact rchg_any snm stx st ln rp fr ev ct ti _ _ _ _ _ _ _ _ mo da we pk M N C A wx (hR0.below (hbw.trans (hbx.mono hbw.size))) hF)
  have RT := Lib.hid (show ∀ t wx, Below w0.heap.size w0 wx → (0 ≤ (reallyC C t).1 ∧ (reallyC C t).1 < 157785120) → Calls Tryz.prog 170 #[.agg #[.int .i64 ah, .slice aZ Z.length kZ], .agg #[.string snm, .string stx, .int .i64 st, .int .i64 ln, .bool rp, .int .i64 fr, .int .i64 ev, .int .i64 ct, .int .i64 ti, .slice am mo.length km, .slice ad da.length kd, .slice aw we.length kw, .slice ap pk.length kp, .slice aM M.length kM, .slice aN N.length kN, .slice aC C.length kC, .slice aA A.length kA], .int .i64 t] wx (RtmP ln (oneT ah Z C ln t) wx) from fun t wx hbx ht => by
    have hbw : Below w.heap.size w wx := hbw.trans (hbx.mono hbw.size)
    exact rtm_any snm stx st ln rp fr ev ct ti _ _ _ _ _ _ _ _ mo da we pk M N C A ah _ Z t wx (hR0.below hbw) hF (hZ.below hbw) hz ht)
  have TM := Lib.hid (show ∀ t, t ∈ lookL T M N C a b → 0 ≤ (reallyC C t).1 ∧ (reallyC C t).1 < 157785120 from fun t ht => by
    have h0 : 0 ≤ t ∧ t < 157785120 := by
      unfold lookL at ht
      rcases (putF_mem _ _ _).1 ht with ht | ht
      · rcases (evL_is.1 ht).1.1 with ht | ht
        · rw [hT] at ht; exact ruleT_time hF.ok ht
        · have := timeB_yes (hF.tM t ht); omega
      · obtain ⟨⟨c, hc, rfl⟩, -⟩ := (chgR_mem hF.upC (fun c hc => (timeB_yes (hF.tC c hc).1).1)).1 ht
        have := timeB_yes (hF.tC c hc).1; omega
    unfold reallyC
    cases hf : C.find? (fun c => c.1 == t) with
    | none => simp only; exact h0
    | some c =>
      have h1 := List.mem_of_find?_eq_some hf
      rcases (hF.tC c h1).2 with h2 | h2
      · simp only; omega
      · have := timeB_yes h2; simp only; omega)
  have REF := Lib.hid (show ∀ O, SoFar ah Z C ln a b (lookL T M N C a b) O → O = tmsOf ah Z T M N C ln a b from fun O h => between_ref (mayZ_of hz) hF.upC (fun c hc => (timeB_yes (hF.tC c hc).1).1) h.ord h.mem)
  obtain ⟨RR, hRR⟩ : ∃ z, z = tmsOf ah Z T M N C ln a b := ⟨_, rfl⟩
  rw [← hRR] at REF ⊢
  have LE := Lib.hid (show K.foldl putL L0 = lookL T M N C a b by rw [hK, hL0]; rfl)
  have l0 : L0.length ≤ 109673 := by
    rw [hL0]
    have h1 := evL_len T M N (a - 3000) (b + 3000)
    have h2 : T.length ≤ 109573 := by rw [hT]; exact ruleT_len hF.ok
    have h3 := hF.lenM
    omega
  have lK : K.length ≤ 100 := by rw [hK]; exact Nat.le_trans (chgR_len T M N C) hF.lenC
  have U0 := Lib.hid (show L0.Pairwise (· < ·) by rw [hL0]; exact evL_up ..)
  have lnb : 0 ≤ ln ∧ ln ≤ 100000 := hF.ln
  have EC := Lib.hid ec; have BW := Lib.hid hbw; have WZ := Lib.hid hwz; have W0 := Lib.hid hw0; have EB := Lib.hid heb
  have Z0 := Lib.hid z0; have Z1 := Lib.hid z1
  clear hR0 h1 h2 h3 h4 hM hN hC hA hF hZ hz hwz hbz hsz hw0 hb0 ec hbw hT heb hds hL0 hK hRR
  go_enter Tryz.func97, Tryz.ntmps97
  go_upto_region 1 with fail
  rw [← WZ.out, ← W0.out]
  rw [← EB.out]
  have k0 := EC.out.k0; have k1 := EC.out.k1; have k2 := EC.out.k2; have k3 := EC.out.k3; have k4 := EC.out.k4; have k5 := EC.out.k5; have k6 := EC.out.k6; have k7 := EC.out.k7; have k8 := EC.out.k8; have k9 := EC.out.k9; have k10 := EC.out.k10; have k11 := EC.out.k11; have k12 := EC.out.k12; have k13 := EC.out.k13; have k14 := EC.out.k14; have k15 := EC.out.k15; have k16 := EC.out.k16
  go_cut [9] (fun s9 wx => (∃ u, s9 = u ∧ IntsR wx u L0) ∧ Below w0.heap.size w0 wx)
  case first =>
    clear z0 z1
    go_wp2_with fail
    refine RL.out.mono ?_; rintro e w1 ⟨u, rfl, hu, hb1⟩
    have HU := Lib.hid hu; have HB := Lib.hid hb1
    clear hu hb1 k0 k1 k2 k3 k4 k5 k6 k7 k8 k9 k10 k11 k12 k13 k14 k15 k16
    go_wp2
    go_meet
    exact ⟨⟨_, rfl, HU.out⟩, HB.out⟩
  case rest =>
  clear z0 z1 wa wb k0 k1 k2 k3 k4 k5 k6 k7 k8 k9 k10 k11 k12 k13 k14 k15 k16
  obtain ⟨⟨u1, rfl, hu1⟩, hb1⟩ := hcut
  obtain ⟨w1, rfl⟩ : ∃ x, x = wc := ⟨_, rfl⟩
  have B1 := Lib.hid hb1; have V1 := Lib.hid hu1
  have E1 := Lib.hid (EC.out.below hb1)
  clear hb1 hu1 RL
  have k0 := E1.out.k0; have k1 := E1.out.k1; have k2 := E1.out.k2; have k3 := E1.out.k3; have k4 := E1.out.k4; have k5 := E1.out.k5; have k6 := E1.out.k6; have k7 := E1.out.k7; have k8 := E1.out.k8; have k9 := E1.out.k9; have k10 := E1.out.k10; have k11 := E1.out.k11; have k12 := E1.out.k12; have k13 := E1.out.k13; have k14 := E1.out.k14; have k15 := E1.out.k15; have k16 := E1.out.k16
  go_upto_region 2 with fail
  go_cut [10] (fun s10 wx => (∃ u, s10 = u ∧ IntsR wx u K) ∧ Below w1.heap.size w1 wx)
  case first => as_aux_lemma =>
    go_wp2_with fail
    refine (RC.out w1 B1.out).mono ?_; rintro e w2 ⟨u, rfl, hu, hb2⟩
    have H2 := Lib.hid hu; have H4 := Lib.hid hb2
    clear hu hb2 k0 k1 k2 k3 k4 k5 k6 k7 k8 k9 k10 k11 k12 k13 k14 k15 k16
    go_wp2
    go_meet
    exact ⟨⟨_, rfl, H2.out⟩, H4.out⟩
  case rest =>
  clear k0 k1 k2 k3 k4 k5 k6 k7 k8 k9 k10 k11 k12 k13 k14 k15 k16
  obtain ⟨⟨u2, rfl, hu2⟩, hb2⟩ := hcut
  obtain ⟨w2, rfl⟩ : ∃ x, x = wc := ⟨_, rfl⟩
  have B2 := Lib.hid (B1.out.trans (hb2.mono B1.out.size))
  have V2 := Lib.hid (V1.out.below hb2)
  obtain ⟨ka, kc, rfl, -, -, hks⟩ := intsR_open hu2
  have HK := Lib.hid hks
  clear hb2 hu2 hks RC V1 B1 E1
  go_upto_block 0 with fail
  go_cut [9] (fun s9 wx => (∃ u, s9 = u ∧ IntsR wx u (K.foldl putL L0)) ∧ Below w2.heap.size w2 wx)
  case first => as_aux_lemma =>
    go_wp2_with fail
    go_loopg [9, 11] K.length (fun g lv iv wr => ∃ k : Nat, k ≤ K.length ∧ iv = .int .i64 k ∧ g = K.length - k ∧ IntsR wr lv ((K.take k).foldl putL L0) ∧ Below w2.heap.size w2 wr)
    case atStart => exact ⟨0, Nat.zero_le _, rfl, rfl, by simpa using V2.out, Below.refl _ _⟩
    case round =>
      obtain ⟨k, hk, rfl, hg, hl, hb⟩ := hrel
      have G := Lib.hid hg; have BR := Lib.hid hb
      clear hg
      by_cases hlt : k < K.length
      · obtain ⟨kb, ko, rfl, hcs⟩ := HK.out (by omega)
        have q0 := cell_below hb (hcs k hlt)
        have HT := Lib.hid (show (K.take (k + 1)).foldl putL L0 = putL ((K.take k).foldl putL L0) K[k] by rw [List.take_succ_eq_append_getElem hlt, List.foldl_append]; rfl)
        obtain ⟨x, hx⟩ : ∃ x, x = K[k] := ⟨_, rfl⟩
        rw [← hx] at q0 HT
        have PC := Lib.hid (rput_any _ ((K.take k).foldl putL L0) x wr hl (putF_up _ _ U0.out) (by have h1 := putF_len (K.take k) L0; have h2 := List.length_take_le k K; omega))
        rw [← HT.out] at PC
        clear hx hb hl hcs HT
        have i0 : (0 : Int) ≤ (k : Int) := Int.natCast_nonneg _
        have i2 : (k : Int) < (K.length : Int) := by omega
        go_wp2_with fail
        refine PC.out.mono ?_; rintro e w3 ⟨u, rfl, hu, hb3⟩
        have HU := Lib.hid hu; have HB := Lib.hid (BR.out.trans (hb3.mono BR.out.size))
        clear hu hb3 q0
        go_wp2
        go_roundg (K.length - (k + 1))
        case measure => rw [G.out]; omega
        case rel => exact ⟨k + 1, by omega, by go_num, rfl, HU.out, HB.out⟩
      · obtain rfl : k = K.length := by omega
        have i2 : ¬ (K.length : Int) < (K.length : Int) := by omega
        rw [List.take_length] at hl
        have HL := Lib.hid hl
        clear hb hl
        go_wp2
        go_meet
        exact ⟨⟨_, rfl, HL.out⟩, BR.out⟩
  case rest =>
  obtain ⟨⟨u3, rfl, hu3⟩, hb3⟩ := hcut
  obtain ⟨w3, rfl⟩ : ∃ x, x = wc := ⟨_, rfl⟩
  have B3 := Lib.hid (B2.out.trans (hb3.mono B2.out.size))
  obtain ⟨LL, hLL⟩ : ∃ L, L = K.foldl putL L0 := ⟨_, rfl⟩
  rw [← hLL] at hu3
  have ll : LL.length ≤ 109773 := by rw [hLL]; have := putF_len K L0; omega
  have UL := Lib.hid (show LL.Pairwise (· < ·) by rw [hLL]; exact putF_up _ _ U0.out)
  rw [← hLL] at LE
  obtain ⟨la, lc, rfl, -, -, hls⟩ := intsR_open hu3
  have HL := Lib.hid hls
  rw [← LE.out] at TM REF
  clear hu3 hls hb3 HK V2 B2 hLL U0 l0 lK LE
  obtain ⟨it, hit, ht0, ht1, ht2⟩ := info_parts timeInfoB
  go_upto_region 7 with fail
  go_wp2_with fail
  go_loopg [12, 13] LL.length (fun g ov iv wr => ∃ (k : Nat) (O : List (Int × Int)), k ≤ LL.length ∧ iv = .int .i64 k ∧ g = LL.length - k ∧ OwnT ln w3.heap.size wr ov O ∧ Hid (SoFar ah Z C ln a b (LL.take k) O) ∧ Below w3.heap.size w3 wr)
  case atStart => exact ⟨0, [], Nat.zero_le _, rfl, rfl, World.ownsRow_nil _ _ _ _, Lib.hid SoFar.nil, Below.refl _ _⟩
  case round => as_aux_lemma =>
    obtain ⟨k, O, hk, rfl, hg, ho, SF, hb⟩ := hrel
    have G := Lib.hid hg; have BR := Lib.hid hb; have OW := Lib.hid ho
    have BR0 := Lib.hid (B3.out.trans (hb.mono B3.out.size))
    have ol : O.length ≤ 109773 := by have h1 := SF.out.len; have h2 := List.length_take_le k LL; omega
    obtain ⟨oa, oc, rfl, -, -, -⟩ := owns_cells ho
    clear hg
    by_cases hlt : k < LL.length
    · obtain ⟨lb, lo, rfl, hcs⟩ := HL.out (by omega)
      have q0 := cell_below hb (hcs k hlt)
      have SK := Lib.hid (show winT ah Z C ln a b LL[k] = none → SoFar ah Z C ln a b (LL.take (k + 1)) O from fun h => SF.out.skip hlt h)
      have SP := Lib.hid (show ∀ (x : Int × Int) (j : Nat), winT ah Z C ln a b LL[k] = some x → j ≤ O.length → (∀ i (hi : i < O.length), j ≤ i → Lt2 x O[i]) → (∀ i (hi : i < O.length), i + 1 = j → ¬ Lt2 x O[i]) → SoFar ah Z C ln a b (LL.take (k + 1)) (insK O x j) from fun x j h1 h2 h3 h4 => SF.out.put UL.out hlt h1 h2 h3 (fun h => h4 (j - 1) (by omega) (by omega)))
      obtain ⟨t, hx⟩ : ∃ x, x = LL[k] := ⟨_, rfl⟩
      rw [← hx] at q0 SK SP
      have CT := Lib.hid (fun wx hbx => RT.out t wx hbx (TM.out t (by rw [hx]; exact List.getElem_mem _)))
      obtain ⟨o, ho⟩ : ∃ o, o = oneT ah Z C ln t := ⟨_, rfl⟩
      have WE := Lib.hid (show winT ah Z C ln a b t = o.filter fun x => decide (a ≤ x.2) && decide (x.2 < b) by rw [winT, ho])
      rw [← ho] at CT
      have ER := Lib.hid (EC.out.below BR0.out)
      have z0 := cell_below BR0.out Z0.out
      have z1 := cell_below BR0.out Z1.out
      have k0 := ER.out.k0; have k1 := ER.out.k1; have k2 := ER.out.k2; have k3 := ER.out.k3; have k4 := ER.out.k4; have k5 := ER.out.k5; have k6 := ER.out.k6; have k7 := ER.out.k7; have k8 := ER.out.k8; have k9 := ER.out.k9; have k10 := ER.out.k10; have k11 := ER.out.k11; have k12 := ER.out.k12; have k13 := ER.out.k13; have k14 := ER.out.k14; have k15 := ER.out.k15; have k16 := ER.out.k16
      have hbs := hb.size
      clear hx hb ho hcs SF
      have i0 : (0 : Int) ≤ (k : Int) := Int.natCast_nonneg _
      have i2 : (k : Int) < (LL.length : Int) := by omega
      go_upto_region 11 with fail
      go_cut [14, 15] (fun s14 s15 wx => ∃ (tb : Nat) (x1 x2 x3 : Int) (q : Bool), s14 = .pointer (some ⟨tb, 0, none⟩) ∧ s15 = .bool q ∧ BoxT wx tb x1 x2 x3 ∧ wr.heap.size ≤ tb ∧ Hid ((q = true → o = some (x1, x2) ∧ x3 = x2 + ln) ∧ (q = false → o = none)) ∧ Below wr.heap.size wr wx)
      case first => as_aux_lemma =>
        refine wp_region_held_drew (S := (fun w' => Below wr.heap.size wr w')) (by kernel_rfl) (Below.refl _ _).drew (fun hHeld => ?_)
        have CY := Lib.hid (fun wx hbx => CT.out wx (BR0.out.trans (Below.mono hbx BR0.out.size)))
        have QQ := Lib.hid q0; have KZ := Lib.hid (And.intro z0 z1)
        clear z0 z1 q0 k0 k1 k2 k3 k4 k5 k6 k7 k8 k9 k10 k11 k12 k13 k14 k15 k16 CT
        refine wpAnyH_take (i := 0) (v := ?_) rfl (by kernel_rfl) (by kernel_rfl) (by kernel_rfl) (fun _ _ _ h => h) (Or.inl ⟨by rfl, ?_⟩) hHeld ?_
        rotate_left
        · (intro w hSw; (try dsimp only at hSw); have z0 := cell_below hSw KZ.out.1; have z1 := cell_below hSw KZ.out.2; go_simp <;> with_reducible rfl)
        change wpAnyH _ _ _ _ _ _ _ (Act.put _ (some 45) _) _
        try simp only [Act.put, List.setIfInBounds_toArray, List.set_cons_zero, List.set_cons_succ]
        refine wpAnyH_take (i := 1) (v := ?_) rfl (by kernel_rfl) (by kernel_rfl) (by kernel_rfl) (fun _ _ _ h => h) (Or.inl ⟨by rfl, ?_⟩) hHeld ?_
        rotate_left
        · (intro w hSw; (try dsimp only at hSw); have ex := ER.out.below hSw; have k0 := ex.k0; have k1 := ex.k1; have k2 := ex.k2; have k3 := ex.k3; have k4 := ex.k4; have k5 := ex.k5; have k6 := ex.k6; have k7 := ex.k7; have k8 := ex.k8; have k9 := ex.k9; have k10 := ex.k10; have k11 := ex.k11; have k12 := ex.k12; have k13 := ex.k13; have k14 := ex.k14; have k15 := ex.k15; have k16 := ex.k16; clear ex; go_simp <;> with_reducible rfl)
        change wpAnyH _ _ _ _ _ _ _ (Act.put _ (some 46) _) _
        try simp only [Act.put, List.setIfInBounds_toArray, List.set_cons_zero, List.set_cons_succ]
        refine wpAnyH_take (i := 2) (v := ?_) rfl (by kernel_rfl) (by kernel_rfl) (by kernel_rfl) (fun _ _ _ h => h) (Or.inl ⟨by rfl, ?_⟩) hHeld ?_
        rotate_left
        · (intro w hSw; (try dsimp only at hSw); go_simp <;> with_reducible rfl)
        change wpAnyH _ _ _ _ _ _ _ (Act.put _ (some 47) _) _
        try simp only [Act.put, List.setIfInBounds_toArray, List.set_cons_zero, List.set_cons_succ]
        refine wpAnyH_take (i := 3) (v := ?_) rfl (by kernel_rfl) (by kernel_rfl) (by kernel_rfl) (fun _ _ _ h => h) (Or.inl ⟨by rfl, ?_⟩) hHeld ?_
        rotate_left
        · (intro w hSw; (try dsimp only at hSw); go_simp <;> with_reducible rfl)
        change wpAnyH _ _ _ _ _ _ _ (Act.put _ (some 48) _) _
        try simp only [Act.put, List.setIfInBounds_toArray, List.set_cons_zero, List.set_cons_succ]
        refine wpAnyH_take (i := 4) (v := ?_) rfl (by kernel_rfl) (by kernel_rfl) (by kernel_rfl) (fun _ _ _ h => h) (Or.inl ⟨by rfl, ?_⟩) hHeld ?_
        rotate_left
        · (intro w hSw; (try dsimp only at hSw); go_simp <;> with_reducible rfl)
        change wpAnyH _ _ _ _ _ _ _ (Act.put _ (some 49) _) _
        try simp only [Act.put, List.setIfInBounds_toArray, List.set_cons_zero, List.set_cons_succ]
        refine wpAnyH_take (i := 5) (v := ?_) rfl (by kernel_rfl) (by kernel_rfl) (by kernel_rfl) (fun _ _ _ h => h) (Or.inl ⟨by rfl, ?_⟩) hHeld ?_
        rotate_left
        · (intro w hSw; (try dsimp only at hSw); have q0 := cell_below hSw QQ.out; go_simp <;> with_reducible rfl)
        change wpAnyH _ _ _ _ _ _ _ (Act.put _ (some 50) _) _
        try simp only [Act.put, List.setIfInBounds_toArray, List.set_cons_zero, List.set_cons_succ]
        refine wpAnyH_ready (rs := [6, 10]) (by kernel_rfl) (by simp) ?_
        refine AllReadyH.cons rfl (fun K hK => ?_) ?_
        · go_simp; go_at_call 170; refine (CY.out _ hHeld).mono ?_; rintro e wq ⟨x1, x2, x3, q, rfl, f1, f2, hbq⟩; (try go_wp2_with fail)
          refine hK.out _ _ (Below.trans hHeld (Below.mono hbq hHeld.size)) (fun hHeld => ?_)
          clear hK K
          try simp only [Act.put, List.setIfInBounds_toArray, List.set_cons_zero, List.set_cons_succ]
          have hqs : wr.heap.size ≤ wq.heap.size := hHeld.size
          refine wpAnyH_take (i := 7) (v := ?_) rfl (by kernel_rfl) (by kernel_rfl) (by kernel_rfl) (fun _ _ _ h => h) (Or.inl ⟨by rfl, ?_⟩) hHeld ?_
          rotate_left
          · (intro w hSw; (try dsimp only at hSw); go_simp <;> with_reducible rfl)
          change wpAnyH _ _ _ _ _ _ _ (Act.put _ (some 44) _) _
          try simp only [Act.put, List.setIfInBounds_toArray, List.set_cons_zero, List.set_cons_succ]
          refine wpAnyH_take (i := 8) (v := ?_) rfl (by kernel_rfl) (by kernel_rfl) (by kernel_rfl) (fun _ _ _ h => h) (Or.inl ⟨by rfl, ?_⟩) hHeld ?_
          rotate_left
          · (intro w hSw; (try dsimp only at hSw); go_simp <;> with_reducible rfl)
          change wpAnyH _ _ _ _ _ _ _ (Act.put _ (some 52) _) _
          try simp only [Act.put, List.setIfInBounds_toArray, List.set_cons_zero, List.set_cons_succ]
          refine wpAnyH_take (i := 9) (v := ?_) rfl (by kernel_rfl) (by kernel_rfl) (by kernel_rfl) (fun _ _ _ h => h) (Or.inl ⟨by rfl, ?_⟩) hHeld ?_
          rotate_left
          · (intro w hSw; (try dsimp only at hSw); go_simp <;> with_reducible rfl)
          change wpAnyH _ _ _ _ _ _ _ (Act.put _ (some 53) _) _
          try simp only [Act.put, List.setIfInBounds_toArray, List.set_cons_zero, List.set_cons_succ]
          refine wpAnyH_ready (rs := [10]) (by kernel_rfl) (by simp) ?_
          refine AllReadyH.cons rfl (fun K hK => ?_) ?_
          · go_simp
            refine hK.out _ _ (below_alloc1 hHeld) (fun hHeld => ?_)
            clear hK K
            try simp only [Act.put, List.setIfInBounds_toArray, List.set_cons_zero, List.set_cons_succ]
            have hnw := block_new wq (.cells #[.int .i64 0, .int .i64 0, .int .i64 0] 54 (0, 0))
            refine wpAnyH_ready (rs := [11]) (by kernel_rfl) (by simp) ?_
            refine AllReadyH.cons rfl (fun K hK => ?_) ?_
            · rw [if_pos (by rfl)]
              refine wp_store_mid 54 _ _ rfl (wq.heap.size) 0 #[.int .i64 x1, .int .i64 x2, .int .i64 x3] rfl rfl (one_there hnw) (by kernel_rfl) (by simp [Value.oneCell']) ?_
              change K (Act.put _ none _) _
              have HB := Lib.hid (set3_below (o := 0) (u := .int .i64 x1) (v := .int .i64 x2) (x := .int .i64 x3) hHeld (hqs))
              have BX := Lib.hid (BoxT.made (x := x1) (y := x2) (z := x3) hnw)
              refine hK.out _ _ (HB.out) (fun hHeld => ?_)
              clear hK K
              try simp only [Act.put, List.setIfInBounds_toArray, List.set_cons_zero, List.set_cons_succ]
              refine wpAnyH_take (i := 12) (v := ?_) rfl (by kernel_rfl) (by kernel_rfl) (by kernel_rfl) (fun _ _ _ h => h) (Or.inl ⟨by rfl, ?_⟩) hHeld ?_
              rotate_left
              · (intro w hSw; (try dsimp only at hSw); go_simp <;> with_reducible rfl)
              change wpAnyH _ _ _ _ _ _ _ (Act.put _ (some 15) _) _
              try simp only [Act.put, List.setIfInBounds_toArray, List.set_cons_zero, List.set_cons_succ]
              refine wpAnyH_done (by kernel_rfl) ?_ _
              clear hHeld
              (try dsimp only [Act.put])
              (try simp only [Act.put, List.setIfInBounds_toArray, List.set_cons_zero, List.set_cons_succ])
              go_wp2
              go_meet
              exact ⟨_, _, _, _, _, rfl, rfl, BX.out, hqs, Lib.hid ⟨f1, f2⟩, HB.out⟩
            exact AllReadyH.nil
          exact AllReadyH.nil
        refine AllReadyH.cons rfl (fun K hK => ?_) ?_
        · go_simp
          refine hK.out _ _ (below_alloc1 hHeld) (fun hHeld => ?_)
          clear hK K
          try simp only [Act.put, List.setIfInBounds_toArray, List.set_cons_zero, List.set_cons_succ]
          refine wpAnyH_ready (rs := [6]) (by kernel_rfl) (by simp) ?_
          refine AllReadyH.cons rfl (fun K hK => ?_) ?_
          · go_simp; go_at_call 170; refine (CY.out _ hHeld).mono ?_; rintro e wq ⟨x1, x2, x3, q, rfl, f1, f2, hbq⟩; (try go_wp2_with fail)
            have hnw : wq.heap[wr.heap.size]? = some (.cells #[.int .i64 0, .int .i64 0, .int .i64 0] 54 (0, 0)) := (hbq.block wr.heap.size (by simp)).trans (block_new wr.drew _)
            refine hK.out _ _ (Below.trans hHeld (Below.mono hbq hHeld.size)) (fun hHeld => ?_)
            clear hK K
            try simp only [Act.put, List.setIfInBounds_toArray, List.set_cons_zero, List.set_cons_succ]
            refine wpAnyH_take (i := 7) (v := ?_) rfl (by kernel_rfl) (by kernel_rfl) (by kernel_rfl) (fun _ _ _ h => h) (Or.inl ⟨by rfl, ?_⟩) hHeld ?_
            rotate_left
            · (intro w hSw; (try dsimp only at hSw); go_simp <;> with_reducible rfl)
            change wpAnyH _ _ _ _ _ _ _ (Act.put _ (some 44) _) _
            try simp only [Act.put, List.setIfInBounds_toArray, List.set_cons_zero, List.set_cons_succ]
            refine wpAnyH_take (i := 8) (v := ?_) rfl (by kernel_rfl) (by kernel_rfl) (by kernel_rfl) (fun _ _ _ h => h) (Or.inl ⟨by rfl, ?_⟩) hHeld ?_
            rotate_left
            · (intro w hSw; (try dsimp only at hSw); go_simp <;> with_reducible rfl)
            change wpAnyH _ _ _ _ _ _ _ (Act.put _ (some 52) _) _
            try simp only [Act.put, List.setIfInBounds_toArray, List.set_cons_zero, List.set_cons_succ]
            refine wpAnyH_take (i := 9) (v := ?_) rfl (by kernel_rfl) (by kernel_rfl) (by kernel_rfl) (fun _ _ _ h => h) (Or.inl ⟨by rfl, ?_⟩) hHeld ?_
            rotate_left
            · (intro w hSw; (try dsimp only at hSw); go_simp <;> with_reducible rfl)
            change wpAnyH _ _ _ _ _ _ _ (Act.put _ (some 53) _) _
            try simp only [Act.put, List.setIfInBounds_toArray, List.set_cons_zero, List.set_cons_succ]
            refine wpAnyH_ready (rs := [11]) (by kernel_rfl) (by simp) ?_
            refine AllReadyH.cons rfl (fun K hK => ?_) ?_
            · rw [if_pos (by rfl)]
              refine wp_store_mid 54 _ _ rfl (wr.heap.size) 0 #[.int .i64 x1, .int .i64 x2, .int .i64 x3] rfl rfl (one_there hnw) (by kernel_rfl) (by simp [Value.oneCell']) ?_
              change K (Act.put _ none _) _
              have HB := Lib.hid (set3_below (o := 0) (u := .int .i64 x1) (v := .int .i64 x2) (x := .int .i64 x3) hHeld (Nat.le_refl _))
              have BX := Lib.hid (BoxT.made (x := x1) (y := x2) (z := x3) hnw)
              refine hK.out _ _ (HB.out) (fun hHeld => ?_)
              clear hK K
              try simp only [Act.put, List.setIfInBounds_toArray, List.set_cons_zero, List.set_cons_succ]
              refine wpAnyH_take (i := 12) (v := ?_) rfl (by kernel_rfl) (by kernel_rfl) (by kernel_rfl) (fun _ _ _ h => h) (Or.inl ⟨by rfl, ?_⟩) hHeld ?_
              rotate_left
              · (intro w hSw; (try dsimp only at hSw); go_simp <;> with_reducible rfl)
              change wpAnyH _ _ _ _ _ _ _ (Act.put _ (some 15) _) _
              try simp only [Act.put, List.setIfInBounds_toArray, List.set_cons_zero, List.set_cons_succ]
              refine wpAnyH_done (by kernel_rfl) ?_ _
              clear hHeld
              (try dsimp only [Act.put])
              (try simp only [Act.put, List.setIfInBounds_toArray, List.set_cons_zero, List.set_cons_succ])
              go_wp2
              go_meet
              exact ⟨_, _, _, _, _, rfl, rfl, BX.out, Nat.le_refl _, Lib.hid ⟨f1, f2⟩, HB.out⟩
            exact AllReadyH.nil
          exact AllReadyH.nil
        exact AllReadyH.nil
      case rest => as_aux_lemma =>
      clear q0 z0 z1 k0 k1 k2 k3 k4 k5 k6 k7 k8 k9 k10 k11 k12 k13 k14 k15 k16 CT
      obtain ⟨tb, x1, x2, x3, q, rfl, rfl, hbx, htb, OV, hb6⟩ := hcut
      obtain ⟨w6, rfl⟩ : ∃ z, z = wc := ⟨_, rfl⟩
      have OW6 := Lib.hid (own_kept OW.out hb6)
      have B6 := Lib.hid (BR.out.trans (hb6.mono BR.out.size))
      have hb6s := B6.out.size
      have BX := Lib.hid hbx
      obtain ⟨f0, f1, f2⟩ := hbx.cells
      have OLT := Lib.hid (fun c hc => Nat.lt_of_lt_of_le (OW.out.lt c hc).2 htb)
      have TBS : tb < w6.heap.size := World.block_lt_of_cell? w6 _ f0
      clear hb6 hbx
      cases q
      · obtain rfl := OV.out.2 rfl
        have SN := Lib.hid (SK.out (by rw [WE.out]; rfl))
        clear f0 f1 f2
        go_wp2
        go_roundg (LL.length - (k + 1))
        case measure => rw [G.out]; omega
        case rel => exact ⟨k + 1, O, by omega, by go_num, rfl, OW6.out, SN, B6.out⟩
      obtain ⟨rfl, hy3⟩ := OV.out.1 rfl
      have Y3 := Lib.hid hy3
      clear hy3 OV
      by_cases g1 : a ≤ x2
      case neg =>
        have SN := Lib.hid (SK.out (by rw [WE.out]; simp [Option.filter, g1]))
        have d1 : decide (x2 < a) = true := decide_eq_true (by omega)
        clear g1
        go_wp2
        go_roundg (LL.length - (k + 1))
        case measure => rw [G.out]; omega
        case rel => exact ⟨k + 1, O, by omega, by go_num, rfl, OW6.out, SN, B6.out⟩
      by_cases g2 : x2 < b
      case neg =>
        have SN := Lib.hid (SK.out (by rw [WE.out]; simp [Option.filter, g2]))
        have d1 : decide (x2 < a) = false := decide_eq_false (by omega)
        have d2 : decide (b ≤ x2) = true := decide_eq_true (by omega)
        clear g1 g2
        go_wp2
        go_roundg (LL.length - (k + 1))
        case measure => rw [G.out]; omega
        case rel => exact ⟨k + 1, O, by omega, by go_num, rfl, OW6.out, SN, B6.out⟩
      have d1 : decide (x2 < a) = false := decide_eq_false (by omega)
      have d2 : decide (b ≤ x2) = false := decide_eq_false (by omega)
      have SN := Lib.hid (fun j => SP.out (x1, x2) j (by rw [WE.out]; simp [Option.filter, g1, g2]))
      clear g1 g2
      have HD := Lib.hid (show 0 < O.length → ∃ g, oa = some ⟨g, 0, none⟩ ∧ ∀ i (hi : i < O.length), w6.cell? ⟨g, i * 3, none⟩ = some (.int .i64 O[i].1) ∧ w6.cell? ⟨g, i * 3 + 1, none⟩ = some (.int .i64 O[i].2) from fun hp => by
        obtain ⟨a1, c1, e1, -, -, hc⟩ := owns_cells OW6.out
        cases e1
        obtain ⟨g, rfl, -, -⟩ := hc hp
        exact ⟨g, rfl, fun i hi => ⟨(ownT_cells OW6.out i hi).1, (ownT_cells OW6.out i hi).2.1⟩⟩)
      have F3 := Lib.hid (And.intro f0 (And.intro f1 f2))
      go_upto_block 4 with fail
      go_cut [16] (fun s16 wx => ∃ j : Nat, j ≤ O.length ∧ s16 = .int .i64 j ∧ Hid ((∀ i (hi : i < O.length), j ≤ i → Lt2 (x1, x2) O[i]) ∧ (∀ i (hi : i < O.length), i + 1 = j → ¬ Lt2 (x1, x2) O[i])) ∧ Below w6.heap.size w6 wx)
      case first => as_aux_lemma =>
        go_wp2_with fail
        go_loopg [16] O.length (fun g kv wr => ∃ j : Nat, j ≤ O.length ∧ kv = .int .i64 j ∧ g = j ∧ Hid (∀ i (hi : i < O.length), j ≤ i → Lt2 (x1, x2) O[i]) ∧ Below w6.heap.size w6 wr)
        case atStart => exact ⟨O.length, Nat.le_refl _, rfl, rfl, Lib.hid (fun i hi h => by omega), Below.refl _ _⟩
        case round =>
          obtain ⟨j, hj, rfl, hg, HI, hb7⟩ := hrel
          obtain ⟨w7, rfl⟩ : ∃ z, z = wr := ⟨_, rfl⟩
          have G2 := Lib.hid hg; have B7 := Lib.hid hb7
          clear hg f0 f1 f2 hb7
          by_cases h0 : j = 0
          · have t0 : decide ((0 : Int) < (j : Int)) = false := decide_eq_false (by omega)
            have t0b : decide (0 < j) = false := decide_eq_false (by omega)
            have NI := Lib.hid (show ∀ i (hi : i < O.length), i + 1 = j → ¬ Lt2 (x1, x2) O[i] from fun i hi h => by omega)
            clear h0
            go_upto_region 14 with fail
            go_quiet (fail)
            go_wp2
            go_meet
            exact ⟨j, hj, rfl, Lib.hid ⟨HI.out, NI.out⟩, below_drewN B7.out _⟩
          have hkm : j - 1 < O.length := by omega
          obtain ⟨g0, rfl, hcs⟩ := HD.out (by omega)
          have c0 := cell_below B7.out (hcs (j - 1) hkm).1
          have c1 := cell_below B7.out (hcs (j - 1) hkm).2
          have f0 := cell_below B7.out F3.out.1
          have f1 := cell_below B7.out F3.out.2.1
          obtain ⟨y1, hy1⟩ : ∃ z, z = O[j - 1].1 := ⟨_, rfl⟩
          obtain ⟨y2, hy2⟩ : ∃ z, z = O[j - 1].2 := ⟨_, rfl⟩
          rw [← hy1] at c0
          rw [← hy2] at c1
          have YE := Lib.hid (And.intro hy1 hy2)
          have t0 : decide ((0 : Int) < (j : Int)) = true := decide_eq_true (by omega)
          have t0b : decide (0 < j) = true := decide_eq_true (by omega)
          have s1 : IntKind.i64.wrap ((j : Int) - 1) = (j : Int) - 1 := IntWalk.i64_in _ (by omega)
          have s2 : (0 : Int) ≤ (j : Int) - 1 := by omega
          have s3 : (1 : Int) ≤ (j : Int) := by omega
          have s4 : ((j : Int) - 1).toNat = j - 1 := by omega
          have s5 : (j : Int) - 1 < (O.length : Int) := by omega
          have NX := Lib.hid (show Lt2 (x1, x2) O[j - 1] → ∀ i (hi : i < O.length), j - 1 ≤ i → Lt2 (x1, x2) O[i] from fun hl i hi h => by
            rcases Nat.lt_or_ge i j with h1 | h1
            · obtain rfl : i = j - 1 := by omega
              exact hl
            · exact HI.out i hi h1)
          have NS := Lib.hid (show ¬ Lt2 (x1, x2) O[j - 1] → ∀ i (hi : i < O.length), i + 1 = j → ¬ Lt2 (x1, x2) O[i] from fun hl i hi h => by
            obtain rfl : i = j - 1 := by omega
            exact hl)
          clear hy1 hy2 hcs
          by_cases g1 : x2 < y2
          · have e1 : decide (x2 < y2) = true := decide_eq_true g1
            have N2 := Lib.hid (NX.out (.inl (by rw [← YE.out.2]; exact g1)))
            clear g1 h0
            go_upto_region 14 with fail
            go_quiet (fail)
            go_wp2
            go_roundg (j - 1)
            case measure => rw [G2.out]; omega
            case rel => exact ⟨j - 1, by omega, by go_num, rfl, N2, below_drewN B7.out _⟩
          have e1 : decide (x2 < y2) = false := decide_eq_false g1
          by_cases g2 : y2 = x2
          · have e2 : (y2 == x2) = true := by simpa using g2
            by_cases g3 : x1 < y1
            · have e3 : decide (x1 < y1) = true := decide_eq_true g3
              have N2 := Lib.hid (NX.out (.inr ⟨by show x2 = _; rw [← YE.out.2]; exact g2.symm, by show x1 < _; rw [← YE.out.1]; exact g3⟩))
              clear g1 g2 g3 h0
              go_upto_region 14 with fail
              go_quiet (fail)
              go_wp2
              go_roundg (j - 1)
              case measure => rw [G2.out]; omega
              case rel => exact ⟨j - 1, by omega, by go_num, rfl, N2, below_drewN B7.out _⟩
            · have e3 : decide (x1 < y1) = false := decide_eq_false g3
              have N2 := Lib.hid (NS.out (by rintro (h | ⟨-, h⟩); (have h : x2 < _ := h; rw [← YE.out.2] at h; exact g1 h); (have h : x1 < _ := h; rw [← YE.out.1] at h; exact g3 h)))
              clear g1 g2 g3 h0
              go_upto_region 14 with fail
              go_quiet (fail)
              go_wp2
              go_meet
              exact ⟨j, hj, rfl, Lib.hid ⟨HI.out, N2.out⟩, below_drewN B7.out _⟩
          · have e2 : (y2 == x2) = false := by simpa using g2
            have N2 := Lib.hid (NS.out (by rintro (h | ⟨h, -⟩); (have h : x2 < _ := h; rw [← YE.out.2] at h; exact g1 h); (have h : x2 = _ := h; rw [← YE.out.2] at h; exact g2 h.symm)))
            clear g1 g2 h0
            go_upto_region 14 with fail
            go_quiet (fail)
            go_wp2
            go_meet
            exact ⟨j, hj, rfl, Lib.hid ⟨HI.out, N2.out⟩, below_drewN B7.out _⟩
      case rest => as_aux_lemma =>
      obtain ⟨j, hj, rfl, HJ, hb7⟩ := hcut
      obtain ⟨w7, rfl⟩ : ∃ z, z = wc := ⟨_, rfl⟩
      have OW7 := Lib.hid (own_kept OW6.out hb7)
      have BX7 := Lib.hid (BX.out.below hb7)
      have B7 := Lib.hid (B6.out.trans (hb7.mono B6.out.size))
      have S7 : tb < w7.heap.size := Nat.lt_of_lt_of_le TBS hb7.size
      have hb7s := B7.out.size
      have SF2 := Lib.hid (SN.out j hj HJ.out.1 HJ.out.2)
      clear hb7 f0 f1 f2 d1 d2 HJ SN HD F3
      obtain ⟨f0, f1, f2⟩ := BX7.out.cells
      have OP := Lib.hid (World.ownsRow.alloc OW7.out (.cells #[.int .i64 x1, .int .i64 x2, .int .i64 x3] 54))
      have BP := Lib.hid (B7.out.alloc hb7s (.cells #[.int .i64 x1, .int .i64 x2, .int .i64 x3] 54))
      have XP := Lib.hid (BX7.out.below ((Below.refl _ _).alloc (Nat.le_refl _) (.cells #[.int .i64 x1, .int .i64 x2, .int .i64 x3] 54)))
      have RO := three_at (w := w7) (a := .int .i64 x1) (b := .int .i64 x2) (c := .int .i64 x3) (t := 54)
      go_upto_region 16 with fail
      go_cut [12] (fun s12 wx => ∃ g8 c8, s12 = .slice (some ⟨g8, 0, none⟩) (O.length + 1) c8 ∧ tb ≠ g8 ∧ w3.heap.size ≤ g8 ∧ OwnT ln w3.heap.size wx (.slice (some ⟨g8, 0, none⟩) (mid O (x1, x2) O.length).length c8) (mid O (x1, x2) O.length) ∧ BoxT wx tb x1 x2 x3 ∧ Below w3.heap.size w3 wx)
      case first => as_aux_lemma =>
        go_wp2_with (at_builtin; refine wpList_append_lies _ rfl _ _ 47 rfl w3.heap.size 54 it _ 3 24 Tryz.underlying47 hit ht0 ht1 ht2 rfl (by decide) (.slice oa O.length oc) O.length (O.flatMap (encT ln)) rfl OP.out ⟨w7.heap.size, 0, none⟩ 1 1 [.int .i64 x1, .int .i64 x2, .int .i64 x3] rfl rfl RO (by simp [Value.oneCell']) (by omega) (by unfold maxLen; omega) (by omega) (by rw [World.size_alloc]; omega) _ rfl ?_; intro g8 c8 w8 hown8 hg8 hat8 hlt8)
        have N1 : (Value.slice oa O.length oc).ownBlock ≠ some tb := fun h => by have := OLT.out tb h; omega
        have N2 : tb ≠ g8 := by
          rcases hat8 with h | h
          · intro e; rw [e] at N1; exact N1 h
          · have := World.size_alloc w7 (.cells #[.int .i64 x1, .int .i64 x2, .int .i64 x3] 54); omega
        have OX := Lib.hid (show OwnT ln w3.heap.size w8 (.slice (some ⟨g8, 0, none⟩) (mid O (x1, x2) O.length).length c8) (mid O (x1, x2) O.length) from by rw [← mid_start]; unfold OwnT; rw [List.length_append, OwnT.app, ← Y3.out]; exact hown8)
        have HG := Lib.hid (show w3.heap.size ≤ g8 from (World.ownsRow.lt hown8 g8 rfl).1)
        have XX := Lib.hid (XP.out.grown hg8 N1)
        have BB := Lib.hid (BP.out.grown hg8 BP.out.size (ownBlock_ge OP.out))
        clear hown8 hg8 hat8 hlt8 RO f0 f1 f2 N1
        go_wp2
        go_meet
        exact ⟨_, _, rfl, N2, HG.out, OX.out, XX.out, BB.out⟩
      case rest => as_aux_lemma =>
      obtain ⟨g8, c8, rfl, hn8, hg8, ho8, hx8, hb8⟩ := hcut
      obtain ⟨w8, rfl⟩ : ∃ z, z = wc := ⟨_, rfl⟩
      have OW8 := Lib.hid ho8; have BX8 := Lib.hid hx8; have B8 := Lib.hid hb8
      clear ho8 hx8 hb8 RO f0 f1 f2 OP BP XP OW7 BX7 OW6 OLT
      have u0 : IntKind.i64.wrap ((O.length : Int) + 1 - 1) = (O.length : Int) := by rw [IntWalk.i64_in _ (by omega)]; omega
      have u1 : (O.length : Int) + 1 - 1 = (O.length : Int) := by omega
      go_upto_block 6 with fail
      go_cut [17] (fun s17 wx => (∃ s, s17 = s) ∧ ∃ y, OwnT ln w3.heap.size wx (.slice (some ⟨g8, 0, none⟩) (mid O y j).length c8) (mid O y j) ∧ BoxT wx tb x1 x2 x3 ∧ Below w3.heap.size w3 wx)
      case first => as_aux_lemma =>
        go_wp2_with fail
        go_loopg [17] (O.length - j) (fun g iv wr => ∃ (i : Nat) (y : Int × Int), j ≤ i ∧ i ≤ O.length ∧ iv = .int .i64 i ∧ g = i - j ∧ OwnT ln w3.heap.size wr (.slice (some ⟨g8, 0, none⟩) (mid O y i).length c8) (mid O y i) ∧ BoxT wr tb x1 x2 x3 ∧ Below w3.heap.size w3 wr)
        case atStart => exact ⟨O.length, (x1, x2), hj, Nat.le_refl _, by first | rfl | go_num, by omega, OW8.out, BX8.out, B8.out⟩
        case round =>
          obtain ⟨i, y, hji, hio, rfl, hg, ho, hx, hb⟩ := hrel
          obtain ⟨w9, rfl⟩ : ∃ z, z = wr := ⟨_, rfl⟩
          have G2 := Lib.hid hg; have OR := Lib.hid ho; have XR := Lib.hid hx; have BR9 := Lib.hid hb
          clear hg ho hx hb u0 u1
          by_cases hlt2 : j < i
          · have hi1 : i - 1 < O.length := by omega
            have cc := ownT_cells OR.out (i - 1) (by rw [mid_len]; omega)
            simp only [mid_at (y := y) (show 0 < i by omega) hio] at cc
            have NW := Lib.hid (ownT_store OR.out i O[i - 1])
            rw [mid_step (by omega) hio, mid_len] at NW
            obtain ⟨p, hp⟩ : ∃ p, p = O[i - 1] := ⟨_, rfl⟩
            rw [← hp] at cc NW
            obtain ⟨p1, p2⟩ := p
            obtain ⟨c0, c1, c2⟩ := cc
            simp only at c0 c1 c2 NW
            obtain ⟨p3, hp3⟩ : ∃ z, z = p2 + ln := ⟨_, rfl⟩
            rw [← hp3] at c2 NW
            have TH := Lib.hid (row_there OR.out (o := i * 3) (m := 3) (by rw [mid_len]; omega))
            have XN := Lib.hid (XR.out.set3 (o := i * 3) (u := .int .i64 p1) (v := .int .i64 p2) (r := .int .i64 p3) hn8)
            have BN := Lib.hid (set3_below (o := i * 3) (u := .int .i64 p1) (v := .int .i64 p2) (x := .int .i64 p3) BR9.out hg8)
            clear hp hp3
            have t0 : decide ((j : Int) < (i : Int)) = true := decide_eq_true (by omega)
            have t0b : decide (j < i) = true := decide_eq_true hlt2
            have t0c : (j : Int) < (i : Int) := by omega
            have s1 : IntKind.i64.wrap ((i : Int) - 1) = (i : Int) - 1 := IntWalk.i64_in _ (by omega)
            have s2 : (0 : Int) ≤ (i : Int) - 1 := by omega
            have s3 : (1 : Int) ≤ (i : Int) := by omega
            have s4 : ((i : Int) - 1).toNat = i - 1 := by omega
            have s5 : (i : Int) - 1 < (O.length : Int) + 1 := by omega
            have s6 : (i : Int) < (O.length : Int) + 1 := by omega
            have s7 : (0 : Int) ≤ (i : Int) := by omega
            go_wp2_with (refine wpList_store_mid rfl 54 _ _ rfl g8 (i * 3) #[.int .i64 p1, .int .i64 p2, .int .i64 p3] rfl rfl TH.out (by kernel_rfl) (by simp [Value.oneCell']) ?_)
            go_roundg (i - 1 - j)
            case measure => rw [G2.out]; omega
            case rel => exact ⟨i - 1, (p1, p2), by omega, by omega, by go_num, rfl, by rw [mid_len]; exact NW.out, XN.out, BN.out⟩
          · obtain rfl : i = j := by omega
            have t0 : decide ((i : Int) < (i : Int)) = false := decide_eq_false (by omega)
            have t0c : ¬ (i : Int) < (i : Int) := by omega
            go_wp2
            go_meet
            exact ⟨⟨_, rfl⟩, y, OR.out, XR.out, BR9.out⟩
      case rest =>
      obtain ⟨⟨s17, rfl⟩, y, ho9, hx9, hb9⟩ := hcut
      obtain ⟨w9, rfl⟩ : ∃ z, z = wc := ⟨_, rfl⟩
      have NW := Lib.hid (ownT_store ho9 j (x1, x2))
      rw [mid_end hj, insK_len] at NW
      simp only at NW
      rw [← Y3.out] at NW
      have TH := Lib.hid (row_there ho9 (o := j * 3) (m := 3) (by rw [mid_len]; omega))
      obtain ⟨f0, f1, f2⟩ := hx9.cells
      have BN := Lib.hid (set3_below (o := j * 3) (u := .int .i64 x1) (v := .int .i64 x2) (x := .int .i64 x3) hb9 hg8)
      clear ho9 hx9 hb9 u0 u1
      have s6 : (j : Int) < (O.length : Int) + 1 := by omega
      have s7 : (0 : Int) ≤ (j : Int) := by omega
      go_wp2_with (refine wpList_store_mid rfl 54 _ _ rfl g8 (j * 3) #[.int .i64 x1, .int .i64 x2, .int .i64 x3] rfl rfl TH.out (by kernel_rfl) (by simp [Value.oneCell']) ?_)
      go_roundg (LL.length - (k + 1))
      case measure => rw [G.out]; omega
      case rel => exact ⟨k + 1, insK O (x1, x2) j, by omega, by go_num, rfl, NW.out, SF2, BN.out⟩
    · obtain rfl : k = LL.length := by omega
      have i2 : ¬ (LL.length : Int) < (LL.length : Int) := by omega
      have SN := REF.out O (by have h := SF.out; rw [List.take_length] at h; exact h)
      subst SN
      clear hb ho
      go_wp2
      go_ret
      exact ⟨_, rfl, World.ownsRow.mono OW.out (Nat.le_trans BW.out.size B3.out.size), BW.out.trans ((B3.out.trans (BR.out.mono B3.out.size)).mono BW.out.size)⟩

end Go.Proofs.YtgelojhpanbnaaaGreatDoor
