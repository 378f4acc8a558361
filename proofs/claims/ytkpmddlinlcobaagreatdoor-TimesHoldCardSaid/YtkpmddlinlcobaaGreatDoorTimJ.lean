/- event.Moved of a time that an event has, chimesame.Times of two lists that are the same; what times.Between's list is, plainly. -/
import Derived.Test.YtkpmddlinlcobaaGreatDoorTimI
import Derived.Test.YtkpmddlinlcobaaGreatDoorTimesHM
namespace Go.Proofs.YtkpmddlinlcobaaGreatDoor
open Go.RowKit Go.Shelf
set_option linter.unusedSimpArgs false
set_option linter.unusedVariables false

theorem mayZ_of {ah : Int} {Z : List (Int × Int)} (h : zfault ah Z = 0) : MayZ ah Z := zoneOf_bd h

theorem fullN_0 {E : Int} {n : Nat} (h : 0 = fullN E n) : E = 0 ∧ n ≤ 200 := by
  unfold fullN at h
  by_cases h1 : E = 0 ∧ 200 < n
  · rw [if_pos h1] at h; cases h
  · rw [if_neg h1] at h; exact ⟨h.symm, by omega⟩

theorem betE_0 {F ZF a b : Int} (h : betE F ZF a b = 0) : F = 0 ∧ ZF = 0 ∧ timeB a = true ∧ timeB b = true ∧ a ≤ b ∧ b - a ≤ 1000000 := by
  unfold betE at h
  by_cases h0 : readyE F ZF ≠ 0
  · rw [if_pos h0] at h; exact absurd h h0
  · rw [if_neg h0] at h
    obtain ⟨h1, h2⟩ := ready_ok (show readyE F ZF = 0 by omega)
    exact ⟨h1, h2, spanE_0 h⟩

theorem spanE_mk {a b : Int} (h1 : timeB a = true) (h2 : timeB b = true) (h3 : a ≤ b) (h4 : b - a ≤ 1000000) : spanE a b = 0 := by unfold spanE; exact if_pos ⟨h1, h2, h3, h4⟩

theorem betE_mk {a b : Int} (h1 : timeB a = true) (h2 : timeB b = true) (h3 : a ≤ b) (h4 : b - a ≤ 1000000) : betE 0 0 a b = 0 := by
  have h := spanE_mk h1 h2 h3 h4
  simpa [betE, readyE] using h

theorem fullN_mk {n : Nat} (h : n ≤ 200) : fullN 0 n = 0 := by rw [fullN, if_neg (by omega)]

/-- what is known of the times between two, when they are told. -/
structure TmsFacts (ah ln a b : Int) (Z : List (Int × Int)) (T M N : List Int) (C R : List (Int × Int)) : Prop where
  ta : timeB a = true
  tb : timeB b = true
  le : a ≤ b
  span : b - a ≤ 1000000
  len : R.length ≤ 200
  lnb : 0 ≤ ln ∧ ln ≤ 100000
  is : ∀ x ∈ R, IsT T M N x.1
  one : ∀ x ∈ R, oneT ah Z C ln x.1 = some x
  off : ∀ x ∈ R, (reallyC C x.1).2 = false
  lo : ∀ x ∈ R, a ≤ x.2
  hi : ∀ x ∈ R, x.2 < b
  time : ∀ x ∈ R, timeB x.2 = true
  up : ∀ (i : Nat) (h : i + 1 < R.length), R[i].2 ≤ R[i + 1].2
  next : ∀ (i : Nat) (h : i + 1 < R.length), R[i].2 < R[i + 1].2 → R[i + 1].2 - R[i].2 ≤ 500000 → ∃ r, tmsOf ah Z T M N C ln (R[i].2 + 1) (R[i].2 + 500000 + 1) = R[i + 1] :: r
  split : ∀ c, a ≤ c → c ≤ b → tmsOf ah Z T M N C ln a c ++ tmsOf ah Z T M N C ln c b = R

theorem tms_facts {st ln : Int} {rp : Bool} {fr ev ct ti : Int} {mo da : List Int} {we : List (Int × Int)} {pk M N : List Int} {C : List (Int × Int)} {A : List Alm} {ah a b : Int} {Z : List (Int × Int)} {T : List Int} {R : List (Int × Int)} {F : Int}
    (hF : F = 0 → EvFacts st ln rp fr ev ct ti mo da we pk M N C A) (hR : R = tmsOf ah Z T M N C ln a b) (hX : 0 = fullN (betE F (zfault ah Z) a b) R.length) : F = 0 ∧ zfault ah Z = 0 ∧ TmsFacts ah ln a b Z T M N C R := by
  obtain ⟨e1, n1⟩ := fullN_0 hX
  obtain ⟨f0, z0, t1, t2, t3, t4⟩ := betE_0 e1
  have ef := hF f0
  have mz := mayZ_of z0
  have hm : ∀ x ∈ R, _ := fun x hx => (tmsOf_mem mz ef.upC).1 (by rw [hR] at hx; exact hx)
  refine ⟨f0, z0, t1, t2, t3, t4, n1, ef.ln, fun x hx => (hm x hx).1, fun x hx => (hm x hx).2.1, fun x hx => (oneT_which (hm x hx).2.1).2.2.2.1, fun x hx => (hm x hx).2.2.1, fun x hx => (hm x hx).2.2.2, fun x hx => (oneT_which (hm x hx).2.1).2.1, fun i hi => ?_, fun i hi g1 g2 => ?_, fun c h1 h2 => ?_⟩
  · subst hR; exact tms_up hi
  · subst hR; exact tms_next1 mz ef.upC hi g1 g2
  · rw [hR]; exact tmsOf_split mz ef.upC h1 h2

set_option maxRecDepth 100000 in
set_option maxHeartbeats 4000000 in
theorem moved_ok (nm tx : List UInt8) (st ln : Int) (rp : Bool) (fr ev ct ti : Int) (vm vd vw vp vM vN vC vA : Value) (mo da : List Int) (we : List (Int × Int)) (pk M N : List Int) (C : List (Int × Int)) (A : List Alm) (x : Int) (w : World) (hw : Months w)
    (hR : EvR w vm vd vw vp vM vN vC vA mo da we pk M N C A) (hF : (evF nm tx st ln rp fr ev ct ti mo da we pk M N C A) = 0) (hx : IsT (ruleT rp st fr ev ct ti mo da we pk) M N x) (hnm : nm.length ≤ 140737488351232) (htx : tx.length ≤ 140737488351232) (hcl : C.length ≤ 8796093022208) :
    Calls Tryz.prog 26 #[.agg #[.string (bs nm), .string (bs tx), .int .i64 st, .int .i64 ln, .bool rp, .int .i64 fr, .int .i64 ev, .int .i64 ct, .int .i64 ti, vm, vd, vw, vp, vM, vN, vC, vA], .int .i64 x] w
      fun e w' => e = .returned (.tuple #[.int .i64 (reallyC C x).1, .bool (reallyC C x).2, .nilIface]) ∧ Below w.heap.size w w' := by
  have hR0 := hR
  obtain ⟨h1, h2, h3, h4, hM, hN, hC, hA⟩ := hR
  obtain ⟨am, km, rfl, -, -, -⟩ := intsR_open h1
  obtain ⟨ad, kd, rfl, -, -, -⟩ := intsR_open h2
  obtain ⟨aw, kw, rfl, -, -, -⟩ := pairsR_open h3
  obtain ⟨ap, kp, rfl, -, -, -⟩ := intsR_open h4
  obtain ⟨aM, kM, rfl, -, -, -⟩ := intsR_open hM
  obtain ⟨aN, kN, rfl, -, -, -⟩ := intsR_open hN
  obtain ⟨aC, kC, rfl, -, kC2, hds⟩ := pairsR_open hC
  obtain ⟨aA, kA, rfl, -, -, -⟩ := almsR_open hA
  unfold maxLen at kC2
  obtain ⟨snm, hsnm⟩ : ∃ s, s = bs nm := ⟨_, rfl⟩
  obtain ⟨stx, hstx⟩ : ∃ s, s = bs tx := ⟨_, rfl⟩
  obtain ⟨eb, heb⟩ : ∃ x, x = w.heap.size := ⟨_, rfl⟩
  obtain ⟨w0, hw0⟩ : ∃ x, x = w.alloc (.cells #[.string snm, .string stx, .int .i64 st, .int .i64 ln, .bool rp, .int .i64 fr, .int .i64 ev, .int .i64 ct, .int .i64 ti, .slice am mo.length km, .slice ad da.length kd, .slice aw we.length kw, .slice ap pk.length kp, .slice aM M.length kM, .slice aN N.length kN, .slice aC C.length kC, .slice aA A.length kA] 29) := ⟨_, rfl⟩
  have hb0 : Below w.heap.size w w0 := by rw [hw0]; exact (Below.refl _ _).alloc (Nat.le_refl _) _
  have ec := hw0 ▸ evC_new w 29 snm stx st ln rp fr ev ct ti (.slice am mo.length km) (.slice ad da.length kd) (.slice aw we.length kw) (.slice ap pk.length kp) (.slice aM M.length kM) (.slice aN N.length kN) (.slice aC C.length kC) (.slice aA A.length kA)
  rw [← heb] at ec
  have ef := evF_facts hF
  have CK := Lib.hid (show Calls Tryz.prog 16 #[.agg #[.string snm, .string stx, .int .i64 st, .int .i64 ln, .bool rp, .int .i64 fr, .int .i64 ev, .int .i64 ct, .int .i64 ti, .slice am mo.length km, .slice ad da.length kd, .slice aw we.length kw, .slice ap pk.length kp, .slice aM M.length kM, .slice aN N.length kN, .slice aC C.length kC, .slice aA A.length kA]] w0 (fun e w' => e = .returned .nilIface ∧ Below w0.heap.size w0 w') by
    have h := check_any nm tx st ln rp fr ev ct ti _ _ _ _ _ _ _ _ mo da we pk M N C A w0 (h1.below hb0) (h2.below hb0) (h3.below hb0) (h4.below hb0) (hM.below hb0) (hN.below hb0) (hC.below hb0) (hA.below hb0) hnm htx hcl
    rw [hF, errV_0] at h
    rw [hsnm, hstx]; exact h)
  obtain ⟨L, hL⟩ : ∃ L, L = evL (ruleT rp st fr ev ct ti mo da we pk) M N x x := ⟨_, rfl⟩
  have OF := Lib.hid (show ∀ wx, Below w0.heap.size w0 wx → Calls Tryz.prog 77 #[.agg #[.string snm, .string stx, .int .i64 st, .int .i64 ln, .bool rp, .int .i64 fr, .int .i64 ev, .int .i64 ct, .int .i64 ti, .slice am mo.length km, .slice ad da.length kd, .slice aw we.length kw, .slice ap pk.length kp, .slice aM M.length kM, .slice aN N.length kN, .slice aC C.length kC, .slice aA A.length kA], .int .i64 x, .int .i64 x] wx (fun e w' => ∃ v, e = .returned v ∧ OwnI wx.heap.size w' v L ∧ Below wx.heap.size wx w') from fun wx hbx => by
    have hbw : Below w.heap.size w wx := hb0.trans (hbx.mono hb0.size)
    rw [hL]
    exact evof_any snm stx st ln rp fr ev ct ti _ _ _ _ _ _ _ _ mo da we pk M N x x wx (hw.below hbw) (h1.below hbw) (h2.below hbw) (h3.below hbw) (h4.below hbw) rfl rfl (hM.below hbw) (hN.below hbw) ef.ok)
  have RL := Lib.hid (show ∀ wx, Below w0.heap.size w0 wx → Calls Tryz.prog 79 #[.agg #[.string snm, .string stx, .int .i64 st, .int .i64 ln, .bool rp, .int .i64 fr, .int .i64 ev, .int .i64 ct, .int .i64 ti, .slice am mo.length km, .slice ad da.length kd, .slice aw we.length kw, .slice ap pk.length kp, .slice aM M.length kM, .slice aN N.length kN, .slice aC C.length kC, .slice aA A.length kA], .int .i64 x] wx (fun e w' => e = .returned (.tuple #[.int .i64 (reallyC C x).1, .bool (reallyC C x).2]) ∧ Below wx.heap.size wx w') from fun wx hbx => by
    have hbw : Below w.heap.size w wx := hb0.trans (hbx.mono hb0.size)
    exact really_any snm stx st ln rp fr ev ct ti _ _ _ _ _ _ _ _ mo da we pk M N C A x wx (hR0.below hbw) ef.upC ef.lenC)
  have LN := Lib.hid (show L.length ≠ 0 by
    have h1 : x ∈ L := by rw [hL]; exact evL_is.2 ⟨hx, Int.le_refl _, Int.le_refl _⟩
    intro h0; rw [List.length_eq_zero_iff.1 h0] at h1; cases h1)
  obtain ⟨rt, hrt⟩ : ∃ r, r = reallyC C x := ⟨_, rfl⟩
  rw [← hsnm, ← hstx]
  rw [← hrt] at RL ⊢
  obtain ⟨r1, r2⟩ := rt
  have EC := Lib.hid ec; have B0 := Lib.hid hb0; have W0 := Lib.hid hw0; have EB := Lib.hid heb
  clear hR0 h1 h2 h3 h4 hM hN hC hA hw hF hx hnm htx hcl hsnm hstx hw0 hb0 ec heb hds ef hL hrt
  go_enter Tryz.func26, Tryz.ntmps26
  go_upto_region 1 with fail
  rw [← W0.out]
  rw [← EB.out]
  have k0 := EC.out.k0; have k1 := EC.out.k1; have k2 := EC.out.k2; have k3 := EC.out.k3; have k4 := EC.out.k4; have k5 := EC.out.k5; have k6 := EC.out.k6; have k7 := EC.out.k7; have k8 := EC.out.k8; have k9 := EC.out.k9; have k10 := EC.out.k10; have k11 := EC.out.k11; have k12 := EC.out.k12; have k13 := EC.out.k13; have k14 := EC.out.k14; have k15 := EC.out.k15; have k16 := EC.out.k16
  go_cut [7] (fun s7 wx => s7 = .nilIface ∧ Below w0.heap.size w0 wx)
  case first => as_aux_lemma =>
    go_wp2_with fail
    refine CK.out.mono ?_; rintro e w1 ⟨rfl, hb1⟩
    have H1 := Lib.hid hb1
    clear hb1 k0 k1 k2 k3 k4 k5 k6 k7 k8 k9 k10 k11 k12 k13 k14 k15 k16
    go_wp2
    go_meet
    exact ⟨rfl, H1.out⟩
  case rest =>
  obtain ⟨rfl, hb1⟩ := hcut
  obtain ⟨w1, rfl⟩ : ∃ x, x = wc := ⟨_, rfl⟩
  have B1 := Lib.hid hb1
  have E1 := Lib.hid (EC.out.below hb1)
  clear hb1 CK k0 k1 k2 k3 k4 k5 k6 k7 k8 k9 k10 k11 k12 k13 k14 k15 k16
  go_upto_region 4 with fail
  have k0 := E1.out.k0; have k1 := E1.out.k1; have k2 := E1.out.k2; have k3 := E1.out.k3; have k4 := E1.out.k4; have k5 := E1.out.k5; have k6 := E1.out.k6; have k7 := E1.out.k7; have k8 := E1.out.k8; have k9 := E1.out.k9; have k10 := E1.out.k10; have k11 := E1.out.k11; have k12 := E1.out.k12; have k13 := E1.out.k13; have k14 := E1.out.k14; have k15 := E1.out.k15; have k16 := E1.out.k16
  go_cut [20] (fun s20 wx => s20 = .bool false ∧ Below w1.heap.size w1 wx)
  case first => as_aux_lemma =>
    go_wp2_with fail
    refine (OF.out _ B1.out).mono ?_; rintro e w2 ⟨v, rfl, hv, hb2⟩
    obtain ⟨va, vc, rfl, -, -, -⟩ := intsR_open hv.ints
    have H2 := Lib.hid hb2
    obtain ⟨n, hn⟩ : ∃ n, n = L.length := ⟨_, rfl⟩
    have d1 : ((n : Int) == 0) = false := by have := LN.out; rw [beq_eq_false_iff_ne]; omega
    rw [← hn]
    clear hv hb2 hn k0 k1 k2 k3 k4 k5 k6 k7 k8 k9 k10 k11 k12 k13 k14 k15 k16
    go_wp2
    go_meet
    exact ⟨rfl, H2.out⟩
  case rest =>
  obtain ⟨rfl, hb2⟩ := hcut
  obtain ⟨w2, rfl⟩ : ∃ x, x = wc := ⟨_, rfl⟩
  have B2 := Lib.hid (B1.out.trans (hb2.mono B1.out.size))
  have E2 := Lib.hid (EC.out.below B2.out)
  clear hb2 OF LN E1 k0 k1 k2 k3 k4 k5 k6 k7 k8 k9 k10 k11 k12 k13 k14 k15 k16
  go_upto_region 6 with fail
  have k0 := E2.out.k0; have k1 := E2.out.k1; have k2 := E2.out.k2; have k3 := E2.out.k3; have k4 := E2.out.k4; have k5 := E2.out.k5; have k6 := E2.out.k6; have k7 := E2.out.k7; have k8 := E2.out.k8; have k9 := E2.out.k9; have k10 := E2.out.k10; have k11 := E2.out.k11; have k12 := E2.out.k12; have k13 := E2.out.k13; have k14 := E2.out.k14; have k15 := E2.out.k15; have k16 := E2.out.k16
  go_cut [8, 9] (fun s8 s9 wx => s8 = .int .i64 r1 ∧ s9 = .bool r2 ∧ Below w2.heap.size w2 wx)
  case first => as_aux_lemma =>
    go_wp2_with fail
    refine (RL.out _ B2.out).mono ?_; rintro e w3 ⟨rfl, hb3⟩
    have H3 := Lib.hid hb3
    clear hb3 k0 k1 k2 k3 k4 k5 k6 k7 k8 k9 k10 k11 k12 k13 k14 k15 k16
    go_wp2
    go_meet
    exact ⟨rfl, rfl, H3.out⟩
  case rest =>
  obtain ⟨rfl, rfl, hb3⟩ := hcut
  obtain ⟨w3, rfl⟩ : ∃ x, x = wc := ⟨_, rfl⟩
  have B3 := Lib.hid (B2.out.trans (hb3.mono B2.out.size))
  clear hb3 RL E2 k0 k1 k2 k3 k4 k5 k6 k7 k8 k9 k10 k11 k12 k13 k14 k15 k16
  go_wp2
  go_ret3
  exact ⟨rfl, B0.out.trans (B3.out.mono B0.out.size)⟩

/-- a list of times, as it lies. -/
def TmsR (ln : Int) (w : World) (v : Value) (L : List (Int × Int)) : Prop := Reads w v 3 L.length (L.flatMap (encT ln))

theorem TmsR.below {ln : Int} {w w' : World} {v : Value} {L : List (Int × Int)} (h : TmsR ln w v L) (hb : Below w.heap.size w w') : TmsR ln w' v L := Reads.below h hb

theorem OwnT.tms {ln : Int} {B : Nat} {w : World} {v : Value} {L : List (Int × Int)} (h : OwnT ln B w v L) : TmsR ln w v L := ownsRow_reads h

theorem tmsR_open {ln : Int} {w : World} {v : Value} {L : List (Int × Int)} (h : TmsR ln w v L) : ∃ a cap, v = .slice a L.length cap ∧ L.length ≤ cap ∧ cap ≤ maxLen ∧
    (0 < L.length → ∃ b off, a = some ⟨b, off, none⟩ ∧ ∀ (i : Nat) (hi : i < L.length), w.cell? ⟨b, off + i * 3, none⟩ = some (.int .i64 L[i].1) ∧ w.cell? ⟨b, off + i * 3 + 1, none⟩ = some (.int .i64 L[i].2) ∧ w.cell? ⟨b, off + i * 3 + 2, none⟩ = some (.int .i64 (L[i].2 + ln))) := by
  obtain ⟨p, cap, rfl, k1, k2, k3, k4⟩ := h
  refine ⟨p, cap, rfl, k2, k3, fun hp => ?_⟩
  obtain ⟨b, off, rfl, hc⟩ := k4 hp
  have q : ∀ (i : Nat) (hi : i < L.length) (o : Nat) (ho : o < 3) (u : Value), (encT ln L[i])[o]? = some u → w.cell? ⟨b, off + i * 3 + o, none⟩ = some u := fun i hi o ho u hu => by
    rw [Nat.add_assoc]
    exact hc _ _ ((flatMap_at (enc := encT ln) (k := 3) (fun _ => rfl) L i o hi ho).trans hu)
  exact ⟨b, off, rfl, fun i hi => ⟨q i hi 0 (by omega) _ rfl, q i hi 1 (by omega) _ rfl, q i hi 2 (by omega) _ rfl⟩⟩

set_option maxHeartbeats 4000000 in
theorem times_same (ln : Int) (u v : Value) (L : List (Int × Int)) (w : World) (hu : TmsR ln w u L) (hv : TmsR ln w v L) :
    Calls Tryz.prog 29 #[u, v] w fun e w' => e = .returned (.bool true) ∧ Below w.heap.size w w' := by
  obtain ⟨p, cap, rfl, hc1, hc2, hcell⟩ := tmsR_open hu
  obtain ⟨q, caq, rfl, hd1, hd2, hdell⟩ := tmsR_open hv
  unfold maxLen at hc2 hd2
  have HC := Lib.hid hcell; have HD := Lib.hid hdell; clear hcell hdell hu hv
  go_enter Tryz.func29, Tryz.ntmps29
  go_wp2
  go_loopg [5] L.length (fun g i wr => ∃ k : Nat, k ≤ L.length ∧ i = .int .i64 k ∧ g = L.length - k ∧ ∃ n, wr = w.drewN n)
  case atStart => exact ⟨0, Nat.zero_le _, rfl, rfl, 0, rfl⟩
  case round =>
    obtain ⟨k, hk, rfl, hg, n, rfl⟩ := hrel
    have G := Lib.hid hg; clear hg
    by_cases hlt : k < L.length
    · obtain ⟨b1, off1, rfl, hcs⟩ := HC.out (by omega)
      obtain ⟨b2, off2, rfl, hds⟩ := HD.out (by omega)
      obtain ⟨c0, c1, c2⟩ := hcs k hlt
      obtain ⟨d0, d1, d2⟩ := hds k hlt
      obtain ⟨x, hx⟩ : ∃ x, x = L[k].1 := ⟨_, rfl⟩
      obtain ⟨y, hy⟩ : ∃ y, y = L[k].2 := ⟨_, rfl⟩
      obtain ⟨z, hz⟩ : ∃ z, z = L[k].2 + ln := ⟨_, rfl⟩
      rw [← hz] at c2 d2; rw [← hx] at c0 d0; rw [← hy] at c1 d1
      clear hx hy hz hcs hds
      have i1 : (0 : Int) ≤ (k : Int) := Int.natCast_nonneg _
      have i2 : (k : Int) < (L.length : Int) := by omega
      go_wp2
      go_quiet (fail)
      go_wp2
      go_roundg (L.length - (k + 1))
      case measure => rw [G.out]; omega
      case rel => exact ⟨k + 1, by omega, by go_num, rfl, _, rfl⟩
    · obtain rfl : k = L.length := by omega
      go_wp2
      go_ret
      exact ⟨rfl, below_drewN (Below.refl _ _) _⟩

/-- times.Between, times.Next, event.Moved of an event in a zone, at any later world. -/
def BetG (w0 : World) (zv ev : Value) (F ZF ah ln : Int) (Z : List (Int × Int)) (T M N : List Int) (C : List (Int × Int)) : Prop :=
  ∀ (lo hi : Int) (wx : World), Below w0.heap.size w0 wx → Calls Tryz.prog 28 #[zv, ev, .int .i64 lo, .int .i64 hi] wx (BetP ln (fullN (betE F ZF lo hi) (tmsOf ah Z T M N C ln lo hi).length) (tmsOf ah Z T M N C ln lo hi) wx)

def NextG (w0 : World) (zv ev : Value) (F ZF ah ln : Int) (Z : List (Int × Int)) (T M N : List Int) (C : List (Int × Int)) : Prop :=
  ∀ (t : Int) (wx : World), Below w0.heap.size w0 wx → Calls Tryz.prog 27 #[zv, ev, .int .i64 t] wx (fun e w' => e = .returned (.tuple #[nextT ln (nextE F ZF t (tmsOf ah Z T M N C ln (t + 1) (t + 500000 + 1))) (tmsOf ah Z T M N C ln (t + 1) (t + 500000 + 1)), errV (nextE F ZF t (tmsOf ah Z T M N C ln (t + 1) (t + 500000 + 1)))]) ∧ Below wx.heap.size wx w')

def MovG (w0 : World) (ev : Value) (F : Int) (T M N : List Int) (C : List (Int × Int)) : Prop :=
  F = 0 → ∀ (x : Int) (wx : World), IsT T M N x → Below w0.heap.size w0 wx → Calls Tryz.prog 26 #[ev, .int .i64 x] wx (fun e w' => e = .returned (.tuple #[.int .i64 (reallyC C x).1, .bool (reallyC C x).2, .nilIface]) ∧ Below wx.heap.size wx w')

theorem betG_mk (nm tx : List UInt8) (st ln : Int) (rp : Bool) (fr ev ct ti : Int) (vm vd vw vp vM vN vC vA : Value) (mo da : List Int) (we : List (Int × Int)) (pk M N : List Int) (C : List (Int × Int)) (A : List Alm) (ah : Int) (vZ : Value) (Z : List (Int × Int)) (w w0 : World) (hb0 : Below w.heap.size w w0) (hw : Months w)
    (hR : EvR w vm vd vw vp vM vN vC vA mo da we pk M N C A) (hZ : PairsR w vZ Z) (hnm : nm.length ≤ 140737488351232) (htx : tx.length ≤ 140737488351232) (hcl : C.length ≤ 8796093022208) :
    BetG w0 (.agg #[.int .i64 ah, vZ]) (.agg #[.string (bs nm), .string (bs tx), .int .i64 st, .int .i64 ln, .bool rp, .int .i64 fr, .int .i64 ev, .int .i64 ct, .int .i64 ti, vm, vd, vw, vp, vM, vN, vC, vA]) (evF nm tx st ln rp fr ev ct ti mo da we pk M N C A) (zfault ah Z) ah ln Z (ruleT rp st fr ev ct ti mo da we pk) M N C := fun lo hi wx hbx => by
  have hbw : Below w.heap.size w wx := hb0.trans (hbx.mono hb0.size)
  exact between_any nm tx st ln rp fr ev ct ti _ _ _ _ _ _ _ _ mo da we pk M N C A ah _ Z lo hi wx (hw.below hbw) (hR.below hbw) (hZ.below hbw) hnm htx hcl

theorem nextG_mk (nm tx : List UInt8) (st ln : Int) (rp : Bool) (fr ev ct ti : Int) (vm vd vw vp vM vN vC vA : Value) (mo da : List Int) (we : List (Int × Int)) (pk M N : List Int) (C : List (Int × Int)) (A : List Alm) (ah : Int) (vZ : Value) (Z : List (Int × Int)) (w w0 : World) (hb0 : Below w.heap.size w w0) (hw : Months w)
    (hR : EvR w vm vd vw vp vM vN vC vA mo da we pk M N C A) (hZ : PairsR w vZ Z) (hnm : nm.length ≤ 140737488351232) (htx : tx.length ≤ 140737488351232) (hcl : C.length ≤ 8796093022208) :
    NextG w0 (.agg #[.int .i64 ah, vZ]) (.agg #[.string (bs nm), .string (bs tx), .int .i64 st, .int .i64 ln, .bool rp, .int .i64 fr, .int .i64 ev, .int .i64 ct, .int .i64 ti, vm, vd, vw, vp, vM, vN, vC, vA]) (evF nm tx st ln rp fr ev ct ti mo da we pk M N C A) (zfault ah Z) ah ln Z (ruleT rp st fr ev ct ti mo da we pk) M N C := fun t wx hbx => by
  have hbw : Below w.heap.size w wx := hb0.trans (hbx.mono hb0.size)
  exact next_any nm tx st ln rp fr ev ct ti _ _ _ _ _ _ _ _ mo da we pk M N C A ah _ Z t wx (hw.below hbw) (hR.below hbw) (hZ.below hbw) hnm htx hcl

theorem movG_mk (nm tx : List UInt8) (st ln : Int) (rp : Bool) (fr ev ct ti : Int) (vm vd vw vp vM vN vC vA : Value) (mo da : List Int) (we : List (Int × Int)) (pk M N : List Int) (C : List (Int × Int)) (A : List Alm) (w w0 : World) (hb0 : Below w.heap.size w w0) (hw : Months w)
    (hR : EvR w vm vd vw vp vM vN vC vA mo da we pk M N C A) (hnm : nm.length ≤ 140737488351232) (htx : tx.length ≤ 140737488351232) (hcl : C.length ≤ 8796093022208) :
    MovG w0 (.agg #[.string (bs nm), .string (bs tx), .int .i64 st, .int .i64 ln, .bool rp, .int .i64 fr, .int .i64 ev, .int .i64 ct, .int .i64 ti, vm, vd, vw, vp, vM, vN, vC, vA]) (evF nm tx st ln rp fr ev ct ti mo da we pk M N C A) (ruleT rp st fr ev ct ti mo da we pk) M N C := fun hF x wx hx hbx => by
  have hbw : Below w.heap.size w wx := hb0.trans (hbx.mono hb0.size)
  exact moved_ok nm tx st ln rp fr ev ct ti _ _ _ _ _ _ _ _ mo da we pk M N C A x wx (hw.below hbw) (hR.below hbw) hF hx hnm htx hcl

/-- the form of what times.Next answers. -/
theorem nextT_form (ln E : Int) (L : List (Int × Int)) : ∃ t1 t2 t3 : Int, nextT ln E L = .agg #[.int .i64 t1, .int .i64 t2, .int .i64 t3] ∧ ∀ x r, E = 0 → L = x :: r → t1 = x.1 ∧ t2 = x.2 ∧ t3 = x.2 + ln := by
  unfold nextT
  by_cases h : E = 0
  · rw [if_pos h]
    cases L with
    | nil => exact ⟨0, 0, 0, rfl, fun x r _ h2 => by cases h2⟩
    | cons y r => exact ⟨_, _, _, rfl, fun x r _ h2 => by cases h2; exact ⟨rfl, rfl, rfl⟩⟩
  · rw [if_neg h]; exact ⟨0, 0, 0, rfl, fun _ _ h2 => absurd h2 h⟩

theorem nextE_ok {F ZF t : Int} {x : Int × Int} {r L : List (Int × Int)} (h1 : F = 0) (h2 : ZF = 0) (h3 : timeB t = true) (h4 : L = x :: r) : nextE F ZF t L = 0 := by
  subst h1; subst h2; subst h4
  unfold nextE readyE
  simp [h3]

end Go.Proofs.YtkpmddlinlcobaaGreatDoor
