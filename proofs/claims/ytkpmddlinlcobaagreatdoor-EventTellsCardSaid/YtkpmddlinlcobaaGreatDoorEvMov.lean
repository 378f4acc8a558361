/- Contracts of event.Days, of event.Moved where it answers a fault, and of the reference chimeref2.Is. -/
import Derived.Test.YtkpmddlinlcobaaGreatDoorTimJ
import Derived.Test.YtkpmddlinlcobaaGreatDoorQ24
namespace Go.Proofs.YtkpmddlinlcobaaGreatDoor
open Go.RowKit Go.Shelf
set_option linter.unusedSimpArgs false
set_option linter.unusedVariables false

def dayN (t : Int) : Int := t / 1440 + 1

/-- a list of which the first k were turned into days. -/
def dayK (L : List Int) (k : Nat) : List Int := (L.take k).map dayN ++ L.drop k

theorem dayK_len (L : List Int) (k : Nat) : (dayK L k).length = L.length := by
  unfold dayK
  rw [List.length_append, List.length_map, ← List.length_append, List.take_append_drop]

theorem dayK_set {L : List Int} {k : Nat} (h : k < L.length) : (dayK L k).set k (dayN L[k]) = dayK L (k + 1) := by
  unfold dayK
  have h1 : ((L.take k).map dayN).length = k := by rw [List.length_map, List.length_take]; omega
  rw [List.drop_eq_getElem_cons h, List.set_append, if_neg (by omega), h1, Nat.sub_self, List.set_cons_zero, List.take_succ_eq_append_getElem h, List.map_append, List.append_assoc]
  rfl

theorem dayK_at {L : List Int} {k : Nat} (h : k < L.length) : (dayK L k)[k]? = some L[k] := by
  unfold dayK
  have h1 : ((L.take k).map dayN).length = k := by rw [List.length_map, List.length_take]; omega
  rw [List.getElem?_append_right (by omega), h1, Nat.sub_self, List.getElem?_drop, Nat.add_zero, List.getElem?_eq_getElem h]

theorem dayK_all (L : List Int) : dayK L L.length = L.map dayN := by
  unfold dayK
  rw [List.take_length, List.drop_length, List.append_nil]

set_option maxRecDepth 100000 in
set_option maxHeartbeats 8000000 in
theorem edays_any (nm tx : List UInt8) (st ln : Int) (rp : Bool) (fr ev ct ti : Int) (vm vd vw vp vM vN vC vA : Value) (mo da : List Int) (we : List (Int × Int)) (pk M N : List Int) (C : List (Int × Int)) (A : List Alm) (a b : Int) (w : World) (hw : Months w)
    (hR : EvR w vm vd vw vp vM vN vC vA mo da we pk M N C A) (hnm : nm.length ≤ 140737488351232) (htx : tx.length ≤ 140737488351232) (hcl : C.length ≤ 8796093022208) :
    Calls Tryz.prog 23 #[.agg #[.string (bs nm), .string (bs tx), .int .i64 st, .int .i64 ln, .bool rp, .int .i64 fr, .int .i64 ev, .int .i64 ct, .int .i64 ti, vm, vd, vw, vp, vM, vN, vC, vA], .int .i64 a, .int .i64 b] w fun e w' => ∃ v, e = .returned (.tuple #[v, errV (fullE (eventE (evF nm tx st ln rp fr ev ct ti mo da we pk M N C A) a b) (evL (ruleT rp st fr ev ct ti mo da we pk) M N a b))]) ∧
      IntsR w' v (Lib.compact ((if fullE (eventE (evF nm tx st ln rp fr ev ct ti mo da we pk M N C A) a b) (evL (ruleT rp st fr ev ct ti mo da we pk) M N a b) = 0 then evL (ruleT rp st fr ev ct ti mo da we pk) M N a b else []).map dayN)) ∧ Below w.heap.size w w' := by
  have hR0 := hR
  obtain ⟨h1, h2, h3, h4, hM, hN, hC, hA⟩ := hR
  obtain ⟨am, km, rfl, -, -, -⟩ := intsR_open h1
  obtain ⟨ad, kd, rfl, -, -, -⟩ := intsR_open h2
  obtain ⟨aw, kw, rfl, -, -, -⟩ := pairsR_open h3
  obtain ⟨ap, kp, rfl, -, -, -⟩ := intsR_open h4
  obtain ⟨aM, kM, rfl, -, -, -⟩ := intsR_open hM
  obtain ⟨aN, kN, rfl, -, -, -⟩ := intsR_open hN
  obtain ⟨aC, kC, rfl, -, kC2, hds⟩ := pairsR_open hC
  obtain ⟨aA, kA, rfl, -, -, -⟩ := almsR_open hA
  unfold maxLen at kC2
  obtain ⟨snm, hsnm⟩ : ∃ s, s = bs nm := ⟨_, rfl⟩
  obtain ⟨stx, hstx⟩ : ∃ s, s = bs tx := ⟨_, rfl⟩
  obtain ⟨eb, heb⟩ : ∃ x, x = w.heap.size := ⟨_, rfl⟩
  obtain ⟨w0, hw0⟩ : ∃ x, x = w.alloc (.cells #[.string snm, .string stx, .int .i64 st, .int .i64 ln, .bool rp, .int .i64 fr, .int .i64 ev, .int .i64 ct, .int .i64 ti, .slice am mo.length km, .slice ad da.length kd, .slice aw we.length kw, .slice ap pk.length kp, .slice aM M.length kM, .slice aN N.length kN, .slice aC C.length kC, .slice aA A.length kA] 29) := ⟨_, rfl⟩
  have hb0 : Below w.heap.size w w0 := by rw [hw0]; exact (Below.refl _ _).alloc (Nat.le_refl _) _
  have ec := hw0 ▸ evC_new w 29 snm stx st ln rp fr ev ct ti (.slice am mo.length km) (.slice ad da.length kd) (.slice aw we.length kw) (.slice ap pk.length kp) (.slice aM M.length kM) (.slice aN N.length kN) (.slice aC C.length kC) (.slice aA A.length kA)
  rw [← heb] at ec
  obtain ⟨R, hRR⟩ : ∃ R, R = evL (ruleT rp st fr ev ct ti mo da we pk) M N a b := ⟨_, rfl⟩
  rw [← hRR]
  obtain ⟨E, hE⟩ : ∃ E, E = fullE (eventE (evF nm tx st ln rp fr ev ct ti mo da we pk M N C A) a b) R := ⟨_, rfl⟩
  have hE0 := hE
  rw [← hE]
  rw [hRR] at hE
  have LC := Lib.hid (show Calls Tryz.prog 21 #[.agg #[.string snm, .string stx, .int .i64 st, .int .i64 ln, .bool rp, .int .i64 fr, .int .i64 ev, .int .i64 ct, .int .i64 ti, .slice am mo.length km, .slice ad da.length kd, .slice aw we.length kw, .slice ap pk.length kp, .slice aM M.length kM, .slice aN N.length kN, .slice aC C.length kC, .slice aA A.length kA], .int .i64 a, .int .i64 b] w0 (LocP E R w0) by
    have h := local_any nm tx st ln rp fr ev ct ti _ _ _ _ _ _ _ _ mo da we pk M N C A a b w0 (h1.below hb0) (h2.below hb0) (h3.below hb0) (h4.below hb0) (hM.below hb0) (hN.below hb0) (hC.below hb0) (hA.below hb0) (hw.below hb0) hnm htx hcl
    rw [hE, hRR, hsnm, hstx]; exact h)
  obtain ⟨D, hD⟩ : ∃ D, D = if E = 0 then R else [] := ⟨_, rfl⟩
  have DB := Lib.hid (show ∀ x ∈ D, 0 ≤ x ∧ x < 157785120 from fun x hx => by
    rw [hD] at hx
    by_cases h0 : E = 0
    · rw [if_pos h0, hRR] at hx
      rw [h0] at hE0
      obtain ⟨-, g1, g2, -, -⟩ := eventE_0 (fullE_0 hE0.symm).1
      have g3 := timeB_yes g1; have g4 := timeB_yes g2
      have g5 := (evL_is.1 hx).2
      omega
    · rw [if_neg h0] at hx; cases hx)
  have DL := Lib.hid (show D.length ≤ 200 by
    rw [hD]
    by_cases h0 : E = 0
    · rw [if_pos h0]; rw [h0] at hE0; exact (fullE_0 hE0.symm).2
    · rw [if_neg h0]; exact Nat.zero_le _)
  rw [← hsnm, ← hstx]
  rw [← hD]
  unfold LocP at LC
  rw [← hD] at LC
  have EC := Lib.hid ec; have B0 := Lib.hid hb0; have W0 := Lib.hid hw0; have EB := Lib.hid heb
  clear hR0 h1 h2 h3 h4 hM hN hC hA hw hnm htx hcl hsnm hstx hw0 hb0 ec heb hds hE hE0 hRR hD
  go_enter Tryz.func23, Tryz.ntmps23
  go_upto_region 1 with fail
  rw [← W0.out]
  rw [← EB.out]
  have k0 := EC.out.k0; have k1 := EC.out.k1; have k2 := EC.out.k2; have k3 := EC.out.k3; have k4 := EC.out.k4; have k5 := EC.out.k5; have k6 := EC.out.k6; have k7 := EC.out.k7; have k8 := EC.out.k8; have k9 := EC.out.k9; have k10 := EC.out.k10; have k11 := EC.out.k11; have k12 := EC.out.k12; have k13 := EC.out.k13; have k14 := EC.out.k14; have k15 := EC.out.k15; have k16 := EC.out.k16
  go_cut [8, 9] (fun s8 s9 wx => (∃ va, ∃ vc : Nat, s8 = .slice va D.length vc ∧ OwnI w0.heap.size wx (.slice va D.length vc) D) ∧ s9 = errV E ∧ Below w0.heap.size w0 wx)
  case first => as_aux_lemma =>
    go_wp2_with fail
    refine LC.out.mono ?_; rintro e w1 ⟨v, rfl, hv, hb1⟩
    obtain ⟨va, vc, rfl, -, -, -⟩ := intsR_open hv.ints
    have H1 := Lib.hid hb1; have HV := Lib.hid hv
    clear hb1 hv k0 k1 k2 k3 k4 k5 k6 k7 k8 k9 k10 k11 k12 k13 k14 k15 k16
    go_wp2
    go_meet
    exact ⟨⟨_, _, rfl, HV.out⟩, rfl, H1.out⟩
  case rest =>
  obtain ⟨⟨va, vc, rfl, hv⟩, rfl, hb1⟩ := hcut
  obtain ⟨w1, rfl⟩ : ∃ x, x = wc := ⟨_, rfl⟩
  have B1 := Lib.hid hb1
  have OW := Lib.hid hv
  obtain ⟨n, hn⟩ : ∃ n, n = D.length := ⟨_, rfl⟩
  have NE := Lib.hid hn
  have ln := DL.out
  rw [← hn] at ln ⊢
  have VA := Lib.hid (show 0 < n → ∃ g, va = some ⟨g, 0, none⟩ from fun hp => by
    obtain ⟨va2, vc2, e, -, -, hcs⟩ := owns_cells hv
    cases e
    obtain ⟨g, hg, -⟩ := hcs (by omega)
    exact ⟨g, hg⟩)
  clear hb1 LC hv hn EC W0 EB k0 k1 k2 k3 k4 k5 k6 k7 k8 k9 k10 k11 k12 k13 k14 k15 k16
  go_wp2_with fail
  go_loopg [21] n (fun g iv wr => ∃ k : Nat, k ≤ n ∧ iv = .int .i64 k ∧ g = n - k ∧ OwnI w0.heap.size wr (.slice va n vc) (dayK D k) ∧ Below w0.heap.size w0 wr)
  case atStart => exact ⟨0, Nat.zero_le _, rfl, rfl, by rw [NE.out]; exact OW.out, B1.out⟩
  case round =>
    obtain ⟨k, hk, rfl, hg, ho, hb⟩ := hrel
    obtain ⟨w2, rfl⟩ : ∃ x, x = wr := ⟨_, rfl⟩
    have G := Lib.hid hg; have O2 := Lib.hid ho; have B2 := Lib.hid hb
    clear hg ho hb
    by_cases hlt : k < n
    · obtain ⟨g, rfl⟩ := VA.out (by omega)
      have hkD : k < D.length := by rw [← NE.out]; exact hlt
      have hO := O2.out
      have hlen := dayK_len D k
      have c0 : w2.cell? ⟨g, k, none⟩ = some (.int .i64 D[k]) := by
        have h := World.ownsRow.cellAt (by unfold OwnI at hO; rw [hlen, ← NE.out] at hO; exact hO) k (by omega)
        rw [h, List.getElem?_map, dayK_at hkD, Option.map_some]
      have f0 : w2.frozen? ⟨g, k, none⟩ = false := World.ownsRow.frozenAt (by unfold OwnI at hO; rw [hlen, ← NE.out] at hO; exact hO) k
      have hg0 : w0.heap.size ≤ g := (World.ownsRow.lt hO g rfl).1
      have ST := Lib.hid (show ∀ u, u = dayN D[k] → OwnI w0.heap.size (w2.setCell ⟨g, k, none⟩ (.int .i64 u)) (.slice (some ⟨g, 0, none⟩) n vc) (dayK D (k + 1)) from fun u hu => by
        have h := (World.ownsRow.stored (by unfold OwnI at hO; rw [hlen, ← NE.out] at hO; exact hO) k (.int .i64 u)).1
        unfold OwnI
        rw [← dayK_set hkD, List.length_set, hlen, ← NE.out, List.map_set, ← hu]
        exact h)
      obtain ⟨x, hx⟩ : ∃ x, x = D[k] := ⟨_, rfl⟩
      have xb := DB.out x (by rw [hx]; exact List.getElem_mem _)
      rw [← hx] at c0 ST
      have SU := Lib.hid (ST.out _ rfl)
      have BU := Lib.hid (B2.out.setCell (p := ⟨g, k, none⟩) hg0 (.int .i64 (dayN x)))
      unfold dayN at SU BU
      have j0 : (0 : Int) ≤ (k : Int) := Int.natCast_nonneg _
      have j2 : (k : Int) < (n : Int) := by omega
      have t0 : Int.tdiv x 1440 = x / 1440 := Int.tdiv_eq_ediv_of_nonneg xb.1
      have s0 : IntKind.i64.wrap (x / 1440) = x / 1440 := IntWalk.i64_in _ (by omega)
      have s1 : IntKind.i64.wrap (x / 1440 + 1) = x / 1440 + 1 := IntWalk.i64_in _ (by omega)
      have s2 : IntKind.i64.wrap ((k : Int) + 1) = (k : Int) + 1 := IntWalk.i64_in _ (by omega)
      clear hO hlen hx ST hg0
      go_wp2
      go_roundg (n - (k + 1))
      case measure => rw [G.out]; omega
      case rel => exact ⟨k + 1, by omega, by go_num, rfl, SU.out, BU.out⟩
    · obtain rfl : k = n := by omega
      have j2 : ¬ (k : Int) < (k : Int) := by omega
      have e1 : dayK D k = D.map dayN := by rw [NE.out]; exact dayK_all D
      have hO := O2.out
      rw [e1] at hO
      have OX := Lib.hid (compact_own (.slice va k vc) (D.map dayN) w2 hO (by rw [List.length_map, ← NE.out]; omega))
      have OB := Lib.hid (World.ownsRow.lt hO)
      clear e1 hO
      go_wp2_with fail
      refine OX.out.mono ?_; rintro e w3 ⟨u, rfl, hu, hg3⟩
      have HU := Lib.hid (show IntsR w3 u (Lib.compact (D.map dayN)) from intsR_of_owns hu)
      have HB := Lib.hid (B2.out.grown hg3 B2.out.size (fun c hc => (OB.out c hc).1))
      clear hu hg3
      go_wp2
      go_ret2
      exact ⟨_, rfl, HU.out, B0.out.trans (HB.out.mono B0.out.size)⟩

set_option maxRecDepth 100000 in
set_option maxHeartbeats 4000000 in
theorem moved_bad (nm tx : List UInt8) (st ln : Int) (rp : Bool) (fr ev ct ti : Int) (vm vd vw vp vM vN vC vA : Value) (mo da : List Int) (we : List (Int × Int)) (pk M N : List Int) (C : List (Int × Int)) (A : List Alm) (x : Int) (w : World) (hw : Months w)
    (hR : EvR w vm vd vw vp vM vN vC vA mo da we pk M N C A) (hnm : nm.length ≤ 140737488351232) (htx : tx.length ≤ 140737488351232) (hcl : C.length ≤ 8796093022208) (hF : (evF nm tx st ln rp fr ev ct ti mo da we pk M N C A) ≠ 0) :
    Calls Tryz.prog 26 #[.agg #[.string (bs nm), .string (bs tx), .int .i64 st, .int .i64 ln, .bool rp, .int .i64 fr, .int .i64 ev, .int .i64 ct, .int .i64 ti, vm, vd, vw, vp, vM, vN, vC, vA], .int .i64 x] w
      fun e w' => e = .returned (.tuple #[.int .i64 0, .bool false, errV (evF nm tx st ln rp fr ev ct ti mo da we pk M N C A)]) ∧ Below w.heap.size w w' := by
  have hR0 := hR
  obtain ⟨h1, h2, h3, h4, hM, hN, hC, hA⟩ := hR
  obtain ⟨am, km, rfl, -, -, -⟩ := intsR_open h1
  obtain ⟨ad, kd, rfl, -, -, -⟩ := intsR_open h2
  obtain ⟨aw, kw, rfl, -, -, -⟩ := pairsR_open h3
  obtain ⟨ap, kp, rfl, -, -, -⟩ := intsR_open h4
  obtain ⟨aM, kM, rfl, -, -, -⟩ := intsR_open hM
  obtain ⟨aN, kN, rfl, -, -, -⟩ := intsR_open hN
  obtain ⟨aC, kC, rfl, -, kC2, hds⟩ := pairsR_open hC
  obtain ⟨aA, kA, rfl, -, -, -⟩ := almsR_open hA
  unfold maxLen at kC2
  obtain ⟨snm, hsnm⟩ : ∃ s, s = bs nm := ⟨_, rfl⟩
  obtain ⟨stx, hstx⟩ : ∃ s, s = bs tx := ⟨_, rfl⟩
  obtain ⟨eb, heb⟩ : ∃ x, x = w.heap.size := ⟨_, rfl⟩
  obtain ⟨w0, hw0⟩ : ∃ x, x = w.alloc (.cells #[.string snm, .string stx, .int .i64 st, .int .i64 ln, .bool rp, .int .i64 fr, .int .i64 ev, .int .i64 ct, .int .i64 ti, .slice am mo.length km, .slice ad da.length kd, .slice aw we.length kw, .slice ap pk.length kp, .slice aM M.length kM, .slice aN N.length kN, .slice aC C.length kC, .slice aA A.length kA] 29) := ⟨_, rfl⟩
  have hb0 : Below w.heap.size w w0 := by rw [hw0]; exact (Below.refl _ _).alloc (Nat.le_refl _) _
  have ec := hw0 ▸ evC_new w 29 snm stx st ln rp fr ev ct ti (.slice am mo.length km) (.slice ad da.length kd) (.slice aw we.length kw) (.slice ap pk.length kp) (.slice aM M.length kM) (.slice aN N.length kN) (.slice aC C.length kC) (.slice aA A.length kA)
  rw [← heb] at ec
  obtain ⟨F, hFF⟩ : ∃ F, F = (evF nm tx st ln rp fr ev ct ti mo da we pk M N C A) := ⟨_, rfl⟩
  have CK := Lib.hid (show Calls Tryz.prog 16 #[.agg #[.string snm, .string stx, .int .i64 st, .int .i64 ln, .bool rp, .int .i64 fr, .int .i64 ev, .int .i64 ct, .int .i64 ti, .slice am mo.length km, .slice ad da.length kd, .slice aw we.length kw, .slice ap pk.length kp, .slice aM M.length kM, .slice aN N.length kN, .slice aC C.length kC, .slice aA A.length kA]] w0 (fun e w' => e = .returned (errV F) ∧ Below w0.heap.size w0 w') by
    have h := check_any nm tx st ln rp fr ev ct ti _ _ _ _ _ _ _ _ mo da we pk M N C A w0 (h1.below hb0) (h2.below hb0) (h3.below hb0) (h4.below hb0) (hM.below hb0) (hN.below hb0) (hC.below hb0) (hA.below hb0) hnm htx hcl
    rw [hFF, hsnm, hstx]; exact h)
  rw [← hFF] at hF ⊢
  have EV := Lib.hid (show errV F = .iface 119 (.int .i64 F) by rw [errV, if_neg hF])
  rw [← hsnm, ← hstx]
  have EC := Lib.hid ec; have B0 := Lib.hid hb0; have W0 := Lib.hid hw0; have EB := Lib.hid heb
  clear hR0 h1 h2 h3 h4 hM hN hC hA hw hnm htx hcl hsnm hstx hw0 hb0 ec heb hds hFF hF
  rw [EV.out] at CK ⊢
  go_enter Tryz.func26, Tryz.ntmps26
  go_upto_region 1 with fail
  rw [← W0.out]
  rw [← EB.out]
  have k0 := EC.out.k0; have k1 := EC.out.k1; have k2 := EC.out.k2; have k3 := EC.out.k3; have k4 := EC.out.k4; have k5 := EC.out.k5; have k6 := EC.out.k6; have k7 := EC.out.k7; have k8 := EC.out.k8; have k9 := EC.out.k9; have k10 := EC.out.k10; have k11 := EC.out.k11; have k12 := EC.out.k12; have k13 := EC.out.k13; have k14 := EC.out.k14; have k15 := EC.out.k15; have k16 := EC.out.k16
  go_wp2_with fail
  refine CK.out.mono ?_; rintro e w1 ⟨rfl, hb1⟩
  have H1 := Lib.hid hb1
  clear hb1 k0 k1 k2 k3 k4 k5 k6 k7 k8 k9 k10 k11 k12 k13 k14 k15 k16
  go_wp2
  go_ret3
  exact ⟨rfl, B0.out.trans (H1.out.mono B0.out.size)⟩

set_option maxRecDepth 100000 in
set_option maxHeartbeats 4000000 in
theorem moved_not (nm tx : List UInt8) (st ln : Int) (rp : Bool) (fr ev ct ti : Int) (vm vd vw vp vM vN vC vA : Value) (mo da : List Int) (we : List (Int × Int)) (pk M N : List Int) (C : List (Int × Int)) (A : List Alm) (x : Int) (w : World) (hw : Months w)
    (hR : EvR w vm vd vw vp vM vN vC vA mo da we pk M N C A) (hnm : nm.length ≤ 140737488351232) (htx : tx.length ≤ 140737488351232) (hcl : C.length ≤ 8796093022208) (hF : (evF nm tx st ln rp fr ev ct ti mo da we pk M N C A) = 0) (hx : ¬ IsT (ruleT rp st fr ev ct ti mo da we pk) M N x) :
    Calls Tryz.prog 26 #[.agg #[.string (bs nm), .string (bs tx), .int .i64 st, .int .i64 ln, .bool rp, .int .i64 fr, .int .i64 ev, .int .i64 ct, .int .i64 ti, vm, vd, vw, vp, vM, vN, vC, vA], .int .i64 x] w
      fun e w' => e = .returned (.tuple #[.int .i64 0, .bool false, errV 5]) ∧ Below w.heap.size w w' := by
  have hR0 := hR
  obtain ⟨h1, h2, h3, h4, hM, hN, hC, hA⟩ := hR
  obtain ⟨am, km, rfl, -, -, -⟩ := intsR_open h1
  obtain ⟨ad, kd, rfl, -, -, -⟩ := intsR_open h2
  obtain ⟨aw, kw, rfl, -, -, -⟩ := pairsR_open h3
  obtain ⟨ap, kp, rfl, -, -, -⟩ := intsR_open h4
  obtain ⟨aM, kM, rfl, -, -, -⟩ := intsR_open hM
  obtain ⟨aN, kN, rfl, -, -, -⟩ := intsR_open hN
  obtain ⟨aC, kC, rfl, -, kC2, hds⟩ := pairsR_open hC
  obtain ⟨aA, kA, rfl, -, -, -⟩ := almsR_open hA
  unfold maxLen at kC2
  obtain ⟨snm, hsnm⟩ : ∃ s, s = bs nm := ⟨_, rfl⟩
  obtain ⟨stx, hstx⟩ : ∃ s, s = bs tx := ⟨_, rfl⟩
  obtain ⟨eb, heb⟩ : ∃ x, x = w.heap.size := ⟨_, rfl⟩
  obtain ⟨w0, hw0⟩ : ∃ x, x = w.alloc (.cells #[.string snm, .string stx, .int .i64 st, .int .i64 ln, .bool rp, .int .i64 fr, .int .i64 ev, .int .i64 ct, .int .i64 ti, .slice am mo.length km, .slice ad da.length kd, .slice aw we.length kw, .slice ap pk.length kp, .slice aM M.length kM, .slice aN N.length kN, .slice aC C.length kC, .slice aA A.length kA] 29) := ⟨_, rfl⟩
  have hb0 : Below w.heap.size w w0 := by rw [hw0]; exact (Below.refl _ _).alloc (Nat.le_refl _) _
  have ec := hw0 ▸ evC_new w 29 snm stx st ln rp fr ev ct ti (.slice am mo.length km) (.slice ad da.length kd) (.slice aw we.length kw) (.slice ap pk.length kp) (.slice aM M.length kM) (.slice aN N.length kN) (.slice aC C.length kC) (.slice aA A.length kA)
  rw [← heb] at ec
  have ef := evF_facts hF
  have CK := Lib.hid (show Calls Tryz.prog 16 #[.agg #[.string snm, .string stx, .int .i64 st, .int .i64 ln, .bool rp, .int .i64 fr, .int .i64 ev, .int .i64 ct, .int .i64 ti, .slice am mo.length km, .slice ad da.length kd, .slice aw we.length kw, .slice ap pk.length kp, .slice aM M.length kM, .slice aN N.length kN, .slice aC C.length kC, .slice aA A.length kA]] w0 (fun e w' => e = .returned .nilIface ∧ Below w0.heap.size w0 w') by
    have h := check_any nm tx st ln rp fr ev ct ti _ _ _ _ _ _ _ _ mo da we pk M N C A w0 (h1.below hb0) (h2.below hb0) (h3.below hb0) (h4.below hb0) (hM.below hb0) (hN.below hb0) (hC.below hb0) (hA.below hb0) hnm htx hcl
    rw [hF, errV_0] at h; rw [hsnm, hstx]; exact h)
  obtain ⟨L, hL⟩ : ∃ L, L = evL (ruleT rp st fr ev ct ti mo da we pk) M N x x := ⟨_, rfl⟩
  have OF := Lib.hid (show ∀ wx, Below w0.heap.size w0 wx → Calls Tryz.prog 77 #[.agg #[.string snm, .string stx, .int .i64 st, .int .i64 ln, .bool rp, .int .i64 fr, .int .i64 ev, .int .i64 ct, .int .i64 ti, .slice am mo.length km, .slice ad da.length kd, .slice aw we.length kw, .slice ap pk.length kp, .slice aM M.length kM, .slice aN N.length kN, .slice aC C.length kC, .slice aA A.length kA], .int .i64 x, .int .i64 x] wx (fun e w' => ∃ v, e = .returned v ∧ OwnI wx.heap.size w' v L ∧ Below wx.heap.size wx w') from fun wx hbx => by
    have hbw : Below w.heap.size w wx := hb0.trans (hbx.mono hb0.size)
    rw [hL]
    exact evof_any snm stx st ln rp fr ev ct ti _ _ _ _ _ _ _ _ mo da we pk M N x x wx (hw.below hbw) (h1.below hbw) (h2.below hbw) (h3.below hbw) (h4.below hbw) rfl rfl (hM.below hbw) (hN.below hbw) ef.ok)
  have LN := Lib.hid (show L.length = 0 by
    rw [List.length_eq_zero_iff, List.eq_nil_iff_forall_not_mem]
    intro y hy
    rw [hL] at hy
    obtain ⟨g1, g2, g3⟩ := evL_is.1 hy
    obtain rfl : y = x := by omega
    exact hx g1)
  rw [← hsnm, ← hstx]
  have EC := Lib.hid ec; have B0 := Lib.hid hb0; have W0 := Lib.hid hw0; have EB := Lib.hid heb
  clear hR0 h1 h2 h3 h4 hM hN hC hA hw hF hx hnm htx hcl hsnm hstx hw0 hb0 ec heb hds ef hL
  rw [show errV 5 = .iface 119 (.int .i64 5) from rfl]
  go_enter Tryz.func26, Tryz.ntmps26
  go_upto_region 1 with fail
  rw [← W0.out]
  rw [← EB.out]
  have k0 := EC.out.k0; have k1 := EC.out.k1; have k2 := EC.out.k2; have k3 := EC.out.k3; have k4 := EC.out.k4; have k5 := EC.out.k5; have k6 := EC.out.k6; have k7 := EC.out.k7; have k8 := EC.out.k8; have k9 := EC.out.k9; have k10 := EC.out.k10; have k11 := EC.out.k11; have k12 := EC.out.k12; have k13 := EC.out.k13; have k14 := EC.out.k14; have k15 := EC.out.k15; have k16 := EC.out.k16
  go_cut [7] (fun s7 wx => s7 = .nilIface ∧ Below w0.heap.size w0 wx)
  case first => as_aux_lemma =>
    go_wp2_with fail
    refine CK.out.mono ?_; rintro e w1 ⟨rfl, hb1⟩
    have H1 := Lib.hid hb1
    clear hb1 k0 k1 k2 k3 k4 k5 k6 k7 k8 k9 k10 k11 k12 k13 k14 k15 k16
    go_wp2
    go_meet
    exact ⟨rfl, H1.out⟩
  case rest =>
  obtain ⟨rfl, hb1⟩ := hcut
  obtain ⟨w1, rfl⟩ : ∃ x, x = wc := ⟨_, rfl⟩
  have B1 := Lib.hid hb1
  have E1 := Lib.hid (EC.out.below hb1)
  clear hb1 CK k0 k1 k2 k3 k4 k5 k6 k7 k8 k9 k10 k11 k12 k13 k14 k15 k16
  go_upto_region 4 with fail
  have k0 := E1.out.k0; have k1 := E1.out.k1; have k2 := E1.out.k2; have k3 := E1.out.k3; have k4 := E1.out.k4; have k5 := E1.out.k5; have k6 := E1.out.k6; have k7 := E1.out.k7; have k8 := E1.out.k8; have k9 := E1.out.k9; have k10 := E1.out.k10; have k11 := E1.out.k11; have k12 := E1.out.k12; have k13 := E1.out.k13; have k14 := E1.out.k14; have k15 := E1.out.k15; have k16 := E1.out.k16
  go_cut [20] (fun s20 wx => s20 = .bool true ∧ Below w1.heap.size w1 wx)
  case first => as_aux_lemma =>
    go_wp2_with fail
    refine (OF.out _ B1.out).mono ?_; rintro e w2 ⟨v, rfl, hv, hb2⟩
    obtain ⟨va, vc, rfl, -, -, -⟩ := intsR_open hv.ints
    have H2 := Lib.hid hb2
    rw [LN.out]
    clear hv hb2 k0 k1 k2 k3 k4 k5 k6 k7 k8 k9 k10 k11 k12 k13 k14 k15 k16
    go_wp2
    go_meet
    exact ⟨by first | rfl | simp, H2.out⟩
  case rest =>
  obtain ⟨rfl, hb2⟩ := hcut
  obtain ⟨w2, rfl⟩ : ∃ x, x = wc := ⟨_, rfl⟩
  have B2 := Lib.hid (B1.out.trans (hb2.mono B1.out.size))
  clear hb2 OF LN E1 k0 k1 k2 k3 k4 k5 k6 k7 k8 k9 k10 k11 k12 k13 k14 k15 k16
  go_wp2
  go_ret3
  exact ⟨rfl, B0.out.trans (B2.out.mono B0.out.size)⟩

set_option maxRecDepth 100000 in
set_option maxHeartbeats 4000000 in
theorem ris_any (snm stx : ByteArray) (st ln : Int) (rp : Bool) (fr ev ct ti : Int) (vm vd vw vp vM vN vC vA : Value) (mo da : List Int) (we : List (Int × Int)) (pk M N : List Int) (C : List (Int × Int)) (A : List Alm) (x : Int) (w : World) (hR : EvR w vm vd vw vp vM vN vC vA mo da we pk M N C A) (hok : EvOk rp st fr ev ct ti mo da we pk M) (hbb : -9223372036854775808 ≤ x ∧ x < 9223372036854775808) :
    Calls Tryz.prog 24 #[.agg #[.string snm, .string stx, .int .i64 st, .int .i64 ln, .bool rp, .int .i64 fr, .int .i64 ev, .int .i64 ct, .int .i64 ti, vm, vd, vw, vp, vM, vN, vC, vA], .int .i64 x] w fun e w' => e = .returned (.bool (decide ((evL (ruleT rp st fr ev ct ti mo da we pk) M N x x).length = 1))) ∧ Below w.heap.size w w' := by
  have hR0 := hR
  obtain ⟨h1, h2, h3, h4, hM, hN, hC, hA⟩ := hR
  obtain ⟨am, km, rfl, -, -, -⟩ := intsR_open h1
  obtain ⟨ad, kd, rfl, -, -, -⟩ := intsR_open h2
  obtain ⟨aw, kw, rfl, -, -, -⟩ := pairsR_open h3
  obtain ⟨ap, kp, rfl, -, -, -⟩ := intsR_open h4
  obtain ⟨aM, kM, rfl, -, -, -⟩ := intsR_open hM
  obtain ⟨aN, kN, rfl, -, -, -⟩ := intsR_open hN
  obtain ⟨aC, kC, rfl, -, kC2, hds⟩ := pairsR_open hC
  obtain ⟨aA, kA, rfl, -, -, -⟩ := almsR_open hA
  unfold maxLen at kC2
  obtain ⟨eb, heb⟩ : ∃ x, x = w.heap.size := ⟨_, rfl⟩
  obtain ⟨w0, hw0⟩ : ∃ x, x = w.alloc (.cells #[.string snm, .string stx, .int .i64 st, .int .i64 ln, .bool rp, .int .i64 fr, .int .i64 ev, .int .i64 ct, .int .i64 ti, .slice am mo.length km, .slice ad da.length kd, .slice aw we.length kw, .slice ap pk.length kp, .slice aM M.length kM, .slice aN N.length kN, .slice aC C.length kC, .slice aA A.length kA] 29) := ⟨_, rfl⟩
  have hb0 : Below w.heap.size w w0 := by rw [hw0]; exact (Below.refl _ _).alloc (Nat.le_refl _) _
  have ec := hw0 ▸ evC_new w 29 snm stx st ln rp fr ev ct ti (.slice am mo.length km) (.slice ad da.length kd) (.slice aw we.length kw) (.slice ap pk.length kp) (.slice aM M.length kM) (.slice aN N.length kN) (.slice aC C.length kC) (.slice aA A.length kA)
  rw [← heb] at ec
  obtain ⟨L, hL⟩ : ∃ L, L = evL (ruleT rp st fr ev ct ti mo da we pk) M N x x := ⟨_, rfl⟩
  have LO := Lib.hid (rlocal_any snm stx st ln rp fr ev ct ti _ _ _ _ _ _ _ _ mo da we pk M N C A x x w0 (hR0.below hb0) hok hbb)
  rw [← hL] at LO ⊢
  obtain ⟨q, hq⟩ : ∃ q, q = decide (L.length = 1) := ⟨_, rfl⟩
  rw [← hq]
  have HQ := Lib.hid hq
  clear hq
  have EC := Lib.hid ec; have B0 := Lib.hid hb0; have W0 := Lib.hid hw0; have EB := Lib.hid heb
  clear hR0 h1 h2 h3 h4 hM hN hC hA hw0 hb0 ec heb hds hL hok hbb
  go_enter Tryz.func24, Tryz.ntmps24
  go_upto_region 1 with fail
  rw [← W0.out]
  rw [← EB.out]
  have k0 := EC.out.k0; have k1 := EC.out.k1; have k2 := EC.out.k2; have k3 := EC.out.k3; have k4 := EC.out.k4; have k5 := EC.out.k5; have k6 := EC.out.k6; have k7 := EC.out.k7; have k8 := EC.out.k8; have k9 := EC.out.k9; have k10 := EC.out.k10; have k11 := EC.out.k11; have k12 := EC.out.k12; have k13 := EC.out.k13; have k14 := EC.out.k14; have k15 := EC.out.k15; have k16 := EC.out.k16
  go_wp2_with fail
  refine LO.out.mono ?_; rintro e w1 ⟨v, rfl, hv, hb1⟩
  obtain ⟨va, vc, rfl, -, -, -⟩ := intsR_open hv
  have H1 := Lib.hid hb1
  obtain ⟨n, hn⟩ : ∃ n, n = L.length := ⟨_, rfl⟩
  rw [← hn]
  have NE := Lib.hid hn
  clear hb1 hv hn k0 k1 k2 k3 k4 k5 k6 k7 k8 k9 k10 k11 k12 k13 k14 k15 k16
  go_wp2
  go_ret
  exact ⟨by show Ending.returned (Value.bool ((n : Int) == 1)) = Ending.returned (Value.bool q); rw [HQ.out, ← NE.out, show ((n : Int) == 1) = decide (n = 1) by rw [Bool.eq_iff_iff]; simp; omega], B0.out.trans (H1.out.mono B0.out.size)⟩

end Go.Proofs.YtkpmddlinlcobaaGreatDoor
