/- Texts joined into one (a claim has at most 60 files): alarm.Rings: its contract; Rings of an event that is once, one by one; what is known of rings that are told; chimesame.Rings of two lists that are the same. -/
import Derived.Test.YtgelojhpanbnaaaGreatDoorAlmB
import Derived.Test.YtgelojhpanbnaaaGreatDoorQ40
import Derived.Test.YtgelojhpanbnaaaGreatDoorQ14
namespace Go.Proofs.YtgelojhpanbnaaaGreatDoor
open Go.RowKit Go.Shelf
set_option linter.unusedSimpArgs false
set_option linter.unusedVariables false

/-- the fault of rings. -/
def ringE (E : Int) (n : Nat) : Int := if E ≠ 0 then E else manyE n

/-- what alarm.Rings answers. -/
def RingsP (nm : ByteArray) (E : Int) (R : List Rng) (w : World) (e : Ending) (w' : World) : Prop := ∃ v, e = .returned (.tuple #[v, errV E]) ∧ OwnR nm w.heap.size w' v (if E = 0 then R else []) ∧ Below w.heap.size w w'

set_option maxRecDepth 100000 in
set_option maxHeartbeats 8000000 in
theorem rings_any (nm tx : List UInt8) (st ln : Int) (rp : Bool) (fr ev ct ti : Int) (vm vd vw vp vM vN vC vA : Value) (mo da : List Int) (we : List (Int × Int)) (pk M N : List Int) (C : List (Int × Int)) (A : List Alm) (ah : Int) (vZ : Value) (Z : List (Int × Int)) (a b : Int) (w : World) (hw : Months w)
    (hR : EvR w vm vd vw vp vM vN vC vA mo da we pk M N C A) (hZ : PairsR w vZ Z) (hnm : nm.length ≤ 140737488351232) (htx : tx.length ≤ 140737488351232) (hcl : C.length ≤ 8796093022208) :
    Calls Tryz.prog 24 #[.agg #[.int .i64 ah, vZ], .agg #[.string (bs nm), .string (bs tx), .int .i64 st, .int .i64 ln, .bool rp, .int .i64 fr, .int .i64 ev, .int .i64 ct, .int .i64 ti, vm, vd, vw, vp, vM, vN, vC, vA], .int .i64 a, .int .i64 b] w
      (RingsP (bs nm) (ringE (betE (evF nm tx st ln rp fr ev ct ti mo da we pk M N C A) (zfault ah Z) a b) (ringsL ah Z (ruleT rp st fr ev ct ti mo da we pk) M N C A ln a (b - 1)).length) (ringsL ah Z (ruleT rp st fr ev ct ti mo da we pk) M N C A ln a (b - 1)) w) := by
  have hR0 := hR
  obtain ⟨h1, h2, h3, h4, hM, hN, hC, hA⟩ := hR
  obtain ⟨am, km, rfl, -, -, -⟩ := intsR_open h1
  obtain ⟨ad, kd, rfl, -, -, -⟩ := intsR_open h2
  obtain ⟨aw, kw, rfl, -, -, -⟩ := pairsR_open h3
  obtain ⟨ap, kp, rfl, -, -, -⟩ := intsR_open h4
  obtain ⟨aM, kM, rfl, -, -, -⟩ := intsR_open hM
  obtain ⟨aN, kN, rfl, -, -, -⟩ := intsR_open hN
  obtain ⟨aC, kC, rfl, -, kC2, hds⟩ := pairsR_open hC
  obtain ⟨aA, kA, rfl, -, -, -⟩ := almsR_open hA
  unfold maxLen at kC2
  obtain ⟨aZ, kZ, rfl, -, -, -⟩ := pairsR_open hZ
  obtain ⟨snm, hsnm⟩ : ∃ s, s = bs nm := ⟨_, rfl⟩
  obtain ⟨stx, hstx⟩ : ∃ s, s = bs tx := ⟨_, rfl⟩
  obtain ⟨eb, heb⟩ : ∃ x, x = w.heap.size := ⟨_, rfl⟩
  obtain ⟨wz, hwz⟩ : ∃ x, x = w.alloc (.cells #[.int .i64 ah, .slice aZ Z.length kZ] 33) := ⟨_, rfl⟩
  have hbz : Below w.heap.size w wz := by rw [hwz]; exact (Below.refl _ _).alloc (Nat.le_refl _) _
  have hsz : wz.heap.size = eb + 1 := by rw [hwz, heb]; simp
  have z0 : wz.cell? ⟨eb, 0, none⟩ = some (.int .i64 ah) := by rw [hwz, heb]; simp
  have z1 : wz.cell? ⟨eb, 1, none⟩ = some (.slice aZ Z.length kZ) := by rw [hwz, heb]; simp
  obtain ⟨w0, hw0⟩ : ∃ x, x = wz.alloc (.cells #[.string snm, .string stx, .int .i64 st, .int .i64 ln, .bool rp, .int .i64 fr, .int .i64 ev, .int .i64 ct, .int .i64 ti, .slice am mo.length km, .slice ad da.length kd, .slice aw we.length kw, .slice ap pk.length kp, .slice aM M.length kM, .slice aN N.length kN, .slice aC C.length kC, .slice aA A.length kA] 29) := ⟨_, rfl⟩
  have hb0 : Below wz.heap.size wz w0 := by rw [hw0]; exact (Below.refl _ _).alloc (Nat.le_refl _) _
  have ec := hw0 ▸ evC_new wz 29 snm stx st ln rp fr ev ct ti (.slice am mo.length km) (.slice ad da.length kd) (.slice aw we.length kw) (.slice ap pk.length kp) (.slice aM M.length kM) (.slice aN N.length kN) (.slice aC C.length kC) (.slice aA A.length kA)
  rw [hsz] at ec
  have z0 := cell_below hb0 z0; have z1 := cell_below hb0 z1
  have hbw : Below w.heap.size w w0 := hbz.trans (hb0.mono hbz.size)
  obtain ⟨F, hF⟩ : ∃ F, F = (evF nm tx st ln rp fr ev ct ti mo da we pk M N C A) := ⟨_, rfl⟩
  obtain ⟨ZF, hZF⟩ : ∃ F, F = zfault ah Z := ⟨_, rfl⟩
  obtain ⟨R, hRR⟩ : ∃ R, R = ringsL ah Z (ruleT rp st fr ev ct ti mo da we pk) M N C A ln a (b - 1) := ⟨_, rfl⟩
  have RK := Lib.hid (show Calls Tryz.prog 76 #[.agg #[.int .i64 ah, .slice aZ Z.length kZ], .agg #[.string snm, .string stx, .int .i64 st, .int .i64 ln, .bool rp, .int .i64 fr, .int .i64 ev, .int .i64 ct, .int .i64 ti, .slice am mo.length km, .slice ad da.length kd, .slice aw we.length kw, .slice ap pk.length kp, .slice aM M.length kM, .slice aN N.length kN, .slice aC C.length kC, .slice aA A.length kA]] w0 (fun e w' => e = .returned (errV (readyE F ZF)) ∧ Below w0.heap.size w0 w') by
    rw [hF, hZF, hsnm, hstx]
    exact ready_any nm tx st ln rp fr ev ct ti _ _ _ _ _ _ _ _ mo da we pk M N C A ah _ Z w0 (hR0.below hbw) (hZ.below hbw) hnm htx hcl)
  have TK := Lib.hid (show readyE F ZF = 0 → spanE a b = 0 → ∀ wx, Below w0.heap.size w0 wx → Calls Tryz.prog 91 #[.agg #[.int .i64 ah, .slice aZ Z.length kZ], .agg #[.string snm, .string stx, .int .i64 st, .int .i64 ln, .bool rp, .int .i64 fr, .int .i64 ev, .int .i64 ct, .int .i64 ti, .slice am mo.length km, .slice ad da.length kd, .slice aw we.length kw, .slice ap pk.length kp, .slice aM M.length kM, .slice aN N.length kN, .slice aC C.length kC, .slice aA A.length kA], .int .i64 a, .int .i64 (b - 1)] wx (SpanP snm R wx) from fun hr hs wx hbx => by
    obtain ⟨f0, z0⟩ := ready_ok hr
    obtain ⟨s1, s2, s3, s4⟩ := spanE_0 hs
    obtain ⟨t1, t2⟩ := timeB_yes s1
    obtain ⟨t3, t4⟩ := timeB_yes s2
    have hbw : Below w.heap.size w wx := hbw.trans (hbx.mono hbw.size)
    rw [hRR]
    exact span_any snm stx st ln rp fr ev ct ti _ _ _ _ _ _ _ _ mo da we pk M N C A ah _ Z a (b - 1) wx (hw.below hbw) (hR0.below hbw) (evF_facts (hF.symm.trans f0)) (hZ.below hbw) (hZF.symm.trans z0) (by omega) (by omega))
  have SK := Lib.hid (show ∀ wx, Calls Tryz.prog 77 #[.int .i64 a, .int .i64 b] wx (fun e w' => e = .returned (errV (spanE a b)) ∧ wx = w') from fun wx => stretch_any a b wx)
  rw [← hsnm, ← hstx, ← hF, ← hZF, ← hRR]
  obtain ⟨S, hS⟩ : ∃ S, S = spanE a b := ⟨_, rfl⟩
  have S01 := Lib.hid (show S = 0 ∨ S = 1 by rw [hS]; exact spanE_01 a b)
  have SB := Lib.hid (show S = 0 → -9000000000 ≤ b ∧ b ≤ 9000000000 from fun h => by
    obtain ⟨-, s2, -, -⟩ := spanE_0 (hS.symm.trans h)
    have := timeB_yes s2; omega)
  have BE := Lib.hid (show betE F ZF a b = if readyE F ZF ≠ 0 then readyE F ZF else S by rw [betE, hS])
  rw [← hS] at SK TK
  have EC := Lib.hid ec; have BW := Lib.hid hbw; have WZ := Lib.hid hwz; have W0 := Lib.hid hw0; have EB := Lib.hid heb
  have Z0 := Lib.hid z0; have Z1 := Lib.hid z1
  obtain ⟨RE, hRE⟩ : ∃ E, E = readyE F ZF := ⟨_, rfl⟩
  rw [← hRE] at RK TK BE
  clear hR0 h1 h2 h3 h4 hM hN hC hA hw hZ hwz hbz hsz hw0 hb0 ec hbw heb hds hF hZF hsnm hstx hnm htx hcl hRR hS hRE
  go_enter Tryz.func24, Tryz.ntmps24
  go_upto_region 1 with fail
  rw [← WZ.out, ← W0.out]
  rw [← EB.out]
  have k0 := EC.out.k0; have k1 := EC.out.k1; have k2 := EC.out.k2; have k3 := EC.out.k3; have k4 := EC.out.k4; have k5 := EC.out.k5; have k6 := EC.out.k6; have k7 := EC.out.k7; have k8 := EC.out.k8; have k9 := EC.out.k9; have k10 := EC.out.k10; have k11 := EC.out.k11; have k12 := EC.out.k12; have k13 := EC.out.k13; have k14 := EC.out.k14; have k15 := EC.out.k15; have k16 := EC.out.k16
  go_wp2_with fail
  refine RK.out.mono ?_; rintro e w1 ⟨rfl, hb1⟩
  have B1 := Lib.hid hb1
  clear hb1 z0 z1 k0 k1 k2 k3 k4 k5 k6 k7 k8 k9 k10 k11 k12 k13 k14 k15 k16
  by_cases h0 : RE ≠ 0
  · have E := Lib.hid (show errV RE = .iface 124 (.int .i64 RE) by rw [errV, if_neg h0])
    have LE := Lib.hid (show ringE (betE F ZF a b) R.length = RE by rw [BE.out, if_pos h0, ringE, if_pos h0])
    have H0 := Lib.hid h0
    rw [E.out]
    clear h0
    go_wp2
    go_ret2
    exact ⟨_, by rw [LE.out, E.out]; rfl, by rw [LE.out, if_neg H0.out]; exact World.ownsRow_nil _ _ _ _, BW.out.trans (B1.out.mono BW.out.size)⟩
  obtain rfl : RE = 0 := by omega
  rw [errV_0]
  have BE2 := Lib.hid (show betE F ZF a b = S by rw [BE.out, if_neg (by simp)])
  clear h0 BE
  go_wp2_with fail
  refine (SK.out _).mono ?_; rintro e w2 ⟨rfl, rfl⟩
  rcases S01.out with rfl | rfl
  · rw [errV_0]
    have E1 := Lib.hid (EC.out.below B1.out)
    have z0 := cell_below B1.out Z0.out
    have z1 := cell_below B1.out Z1.out
    have bb := SB.out rfl
    have wb : IntKind.i64.wrap (b - 1) = b - 1 := IntWalk.i64_in _ (by omega)
    have FE := Lib.hid (show ringE (betE F ZF a b) R.length = manyE R.length by rw [BE2.out, ringE, if_neg (by simp)])
    have k0 := E1.out.k0; have k1 := E1.out.k1; have k2 := E1.out.k2; have k3 := E1.out.k3; have k4 := E1.out.k4; have k5 := E1.out.k5; have k6 := E1.out.k6; have k7 := E1.out.k7; have k8 := E1.out.k8; have k9 := E1.out.k9; have k10 := E1.out.k10; have k11 := E1.out.k11; have k12 := E1.out.k12; have k13 := E1.out.k13; have k14 := E1.out.k14; have k15 := E1.out.k15; have k16 := E1.out.k16
    go_wp2_with fail
    refine (TK.out (by simp) (by simp) _ B1.out).mono ?_; rintro e w3 ⟨v, rfl, hv, hb3⟩
    have RV := Lib.hid hv
    have B3 := Lib.hid (B1.out.trans (hb3.mono B1.out.size))
    obtain ⟨ev2, hev⟩ : ∃ x, x = errV (manyE R.length) := ⟨_, rfl⟩
    rw [← hev]
    have EV := Lib.hid hev
    clear hv hb3 z0 z1 hev k0 k1 k2 k3 k4 k5 k6 k7 k8 k9 k10 k11 k12 k13 k14 k15 k16
    go_wp2
    go_ret2
    exact ⟨_, by rw [FE.out, ← EV.out]; rfl, by rw [FE.out]; exact World.ownsRow.mono RV.out (Nat.le_trans BW.out.size B1.out.size), BW.out.trans (B3.out.mono BW.out.size)⟩
  · have FE := Lib.hid (show ringE (betE F ZF a b) R.length = 1 by rw [BE2.out, ringE, if_pos (by decide)])
    have E := Lib.hid (show errV 1 = .iface 124 (.int .i64 1) by rfl)
    rw [E.out]
    go_wp2
    go_ret2
    exact ⟨_, by rw [FE.out]; rfl, by rw [FE.out]; exact World.ownsRow_nil _ _ _ _, BW.out.trans (B1.out.mono BW.out.size)⟩

/-- alarm.Rings of an event in a zone, at any later world. -/
def RngG (w0 : World) (zv ev : Value) (snm : ByteArray) (F ZF ah ln : Int) (Z : List (Int × Int)) (T M N : List Int) (C : List (Int × Int)) (A : List Alm) : Prop :=
  ∀ (lo hi : Int) (wx : World), Below w0.heap.size w0 wx → Calls Tryz.prog 24 #[zv, ev, .int .i64 lo, .int .i64 hi] wx (RingsP snm (ringE (betE F ZF lo hi) (ringsL ah Z T M N C A ln lo (hi - 1)).length) (ringsL ah Z T M N C A ln lo (hi - 1)) wx)

theorem rngG_mk (nm tx : List UInt8) (st ln : Int) (rp : Bool) (fr ev ct ti : Int) (vm vd vw vp vM vN vC vA : Value) (mo da : List Int) (we : List (Int × Int)) (pk M N : List Int) (C : List (Int × Int)) (A : List Alm) (ah : Int) (vZ : Value) (Z : List (Int × Int)) (w w0 : World) (hb0 : Below w.heap.size w w0) (hw : Months w)
    (hR : EvR w vm vd vw vp vM vN vC vA mo da we pk M N C A) (hZ : PairsR w vZ Z) (hnm : nm.length ≤ 140737488351232) (htx : tx.length ≤ 140737488351232) (hcl : C.length ≤ 8796093022208) :
    RngG w0 (.agg #[.int .i64 ah, vZ]) (.agg #[.string (bs nm), .string (bs tx), .int .i64 st, .int .i64 ln, .bool rp, .int .i64 fr, .int .i64 ev, .int .i64 ct, .int .i64 ti, vm, vd, vw, vp, vM, vN, vC, vA]) (bs nm) (evF nm tx st ln rp fr ev ct ti mo da we pk M N C A) (zfault ah Z) ah ln Z (ruleT rp st fr ev ct ti mo da we pk) M N C A := fun lo hi wx hbx => by
  have hbw : Below w.heap.size w wx := hb0.trans (hbx.mono hb0.size)
  exact rings_any nm tx st ln rp fr ev ct ti _ _ _ _ _ _ _ _ mo da we pk M N C A ah _ Z lo hi wx (hw.below hbw) (hR.below hbw) (hZ.below hbw) hnm htx hcl

end Go.Proofs.YtgelojhpanbnaaaGreatDoor

namespace Go.Proofs.YtgelojhpanbnaaaGreatDoor
open Go.RowKit Go.Shelf
set_option linter.unusedSimpArgs false
set_option linter.unusedVariables false

theorem turnsL_all {at_ b lo hi wh ix : Int} : ∀ {n : Nat}, (∀ k : Nat, k < n → timeB (at_ + k * b) = true ∧ lo ≤ at_ + k * b ∧ at_ + k * b ≤ hi) → turnsL at_ b lo hi wh ix n = (List.range n).map fun (k : Nat) => ((at_ + (k : Int) * b, wh, ix, (k : Int)) : Rng)
  | 0, _ => rfl
  | n + 1, h => by
    rw [turnsL_succ, turnsL_all (fun k hk => h k (by omega)), if_pos (h n (by omega)), List.range_succ, List.map_append]; rfl

/-- the rings of one alarm, turn by turn. -/
def turnsR (at_ b wh : Int) (n : Nat) : List Rng := (List.range n).map fun (k : Nat) => ((at_ + (k : Int) * b, wh, 0, (k : Int)) : Rng)

theorem turnsR_len (at_ b wh : Int) (n : Nat) : (turnsR at_ b wh n).length = n := by simp [turnsR]

theorem turnsR_at {at_ b wh : Int} {n k : Nat} (h : k < (turnsR at_ b wh n).length) : (turnsR at_ b wh n)[k] = (at_ + (k : Int) * b, wh, 0, (k : Int)) := by simp [turnsR]

theorem turnsR_ord {at_ b wh : Int} {n : Nat} (h : 0 ≤ b) : (turnsR at_ b wh n).Pairwise Lt4 := by
  rw [turnsR, List.pairwise_map]
  refine (List.pairwise_lt_range (n := n)).imp ?_
  intro i j hij
  have h1 : (i : Int) * b ≤ (j : Int) * b := Int.mul_le_mul_of_nonneg_right (by omega) h
  have h2 : (i : Int) < (j : Int) := by omega
  rcases Int.lt_or_eq_of_le h1 with h3 | h3
  · exact .inl (show at_ + (i : Int) * b < at_ + (j : Int) * b by omega)
  · exact .inr ⟨show at_ + (i : Int) * b = at_ + (j : Int) * b by omega, .inr ⟨rfl, .inr ⟨rfl, h2⟩⟩⟩

theorem rings_one {st ln lo hi : Int} {al : Alm} (h : almBad al = false) (ts : timeB st = true) (te : timeB (st + ln) = true) (h1 : lo - 300000 ≤ st) (h2 : st < hi + 300000)
    (hk : ∀ k : Nat, (k : Int) ≤ al.2.2.1 → timeB (almAt al st ln + k * al.2.2.2) = true ∧ lo ≤ almAt al st ln + k * al.2.2.2 ∧ almAt al st ln + k * al.2.2.2 ≤ hi) :
    ringsL 0 [] [st] [] [] [] [al] ln lo hi = turnsR (almAt al st ln) al.2.2.2 st (al.2.2.1 + 1).toNat := by
  have ok := alm_ok h
  have hz : MayZ 0 [] := mayZ_nil (by decide)
  have ht : tmsOf 0 [] [st] [] [] [] ln (lo - 300000) (hi + 300000) = [(st, st)] :=
    tmsOf_one hz (by simp) (oneT_nil.2 ⟨rfl, rfl, by simp [reallyC], ts, te⟩) (by omega) (by omega)
  have hu : ringsU 0 [] [st] [] [] [] [al] ln lo hi = turnsR (almAt al st ln) al.2.2.2 st (al.2.2.1 + 1).toNat := by
    rw [ringsU, ht, List.flatMap_cons, List.flatMap_nil, List.append_nil, almsL, almsL, List.append_nil]
    exact turnsL_all (fun k hk2 => hk k (by omega))
  refine ord_ext lt4_irr lt4_trans _ _ (ringsL_ord hz (by simp)) (turnsR_ord ok.2.2.2.2.1) fun r => ?_
  rw [ringsL, srtR, List.mem_mergeSort, hu]

theorem two_ringsU : ringsU 0 [] [66729179] [] [] [] [(-10, false, 1, 3), (0, true, 0, 0)] 60 66729000 66729999 = [(66729169, 66729179, 0, 0), (66729172, 66729179, 0, 1), (66729239, 66729179, 1, 0)] := by
  have ht : tmsOf 0 [] [66729179] [] [] [] 60 (66729000 - 300000) (66729999 + 300000) = [(66729179, 66729179)] :=
    tmsOf_one (mayZ_nil (by decide)) (by simp) (oneT_nil.2 ⟨rfl, rfl, by decide, by decide, by decide⟩) (by decide) (by decide)
  rw [ringsU, ht]
  decide

theorem two_rings : ringsL 0 [] [66729179] [] [] [] [(-10, false, 1, 3), (0, true, 0, 0)] 60 66729000 66729999 = [(66729169, 66729179, 0, 0), (66729172, 66729179, 0, 1), (66729239, 66729179, 1, 0)] := by
  refine ord_ext lt4_irr lt4_trans _ _ (ringsL_ord (mayZ_nil (by decide)) (by simp)) ?_ fun r => ?_
  · simp [Lt4]
  · rw [ringsL, srtR, List.mem_mergeSort, two_ringsU]

theorem ringE_0 {E : Int} {n : Nat} (h : 0 = ringE E n) : E = 0 ∧ n ≤ 400 := by
  unfold ringE at h
  by_cases h1 : E ≠ 0
  · rw [if_pos h1] at h; exact absurd h.symm h1
  · rw [if_neg h1] at h
    unfold manyE at h
    by_cases h2 : 400 < n
    · rw [if_pos h2] at h; cases h
    · exact ⟨by omega, by omega⟩

theorem ringE_mk {n : Nat} (h : n ≤ 400) : ringE 0 n = 0 := by rw [ringE, if_neg (by simp), manyE, if_neg (by omega)]

/-- what is known of the rings between two times, when they are told. -/
structure RngFacts (ah ln a b : Int) (Z : List (Int × Int)) (T M N : List Int) (C : List (Int × Int)) (A : List Alm) (R : List Rng) : Prop where
  ta : timeB a = true
  tb : timeB b = true
  le : a ≤ b
  span : b - a ≤ 1000000
  len : R.length ≤ 400
  lenA : A.length ≤ 4
  lnb : 0 ≤ ln ∧ ln ≤ 100000
  alm : ∀ x ∈ A, almBad x = false
  lo : ∀ r ∈ R, a ≤ r.1
  hi : ∀ r ∈ R, r.1 < b
  of : ∀ r ∈ R, ∃ (f : Int) (j k : Nat) (h : j < A.length), timeB f = true ∧ (k : Int) ≤ A[j].2.2.1 ∧ r.1 = almAt A[j] f ln + k * A[j].2.2.2 ∧ r.2.2.1 = j ∧ r.2.2.2 = k ∧ (r.2.1, f) ∈ tmsOf ah Z T M N C ln f (f + 1)
  up : ∀ (i : Nat) (h : i + 1 < R.length), Lt4 R[i] R[i + 1]
  split : ∀ c, a ≤ c → c ≤ b → ringsL ah Z T M N C A ln a (c - 1) ++ ringsL ah Z T M N C A ln c (b - 1) = R

theorem rng_facts {st ln : Int} {rp : Bool} {fr ev ct ti : Int} {mo da : List Int} {we : List (Int × Int)} {pk M N : List Int} {C : List (Int × Int)} {A : List Alm} {ah a b : Int} {Z : List (Int × Int)} {T : List Int} {R : List Rng} {F : Int}
    (hF : F = 0 → EvFacts st ln rp fr ev ct ti mo da we pk M N C A) (hR : R = ringsL ah Z T M N C A ln a (b - 1)) (hX : 0 = ringE (betE F (zfault ah Z) a b) R.length) : F = 0 ∧ zfault ah Z = 0 ∧ RngFacts ah ln a b Z T M N C A R := by
  obtain ⟨e1, n1⟩ := ringE_0 hX
  obtain ⟨f0, z0, t1, t2, t3, t4⟩ := betE_0 e1
  have ef := hF f0
  have mz := mayZ_of z0
  have hm : ∀ r ∈ R, _ := fun r hr => (ringsL_mem mz ef.upC ef.alm ef.ln).1 (by rw [hR] at hr; exact hr)
  refine ⟨f0, z0, t1, t2, t3, t4, n1, ef.lenA, ef.ln, ef.alm, fun r hr => (hm r hr).1.1, fun r hr => by have := (hm r hr).1.2; omega, fun r hr => ?_, fun i hi => ?_, fun c h1 h2 => ?_⟩
  · obtain ⟨-, h3, f, j, k, hj, h4, h5, h6, h7, h8, h9⟩ := hm r hr
    exact ⟨f, j, k, hj, (oneT_which h5).2.1, h6, h7, h8, h9, (tmsOf_mem mz ef.upC).2 ⟨h4, h5, Int.le_refl _, by show f < f + 1; omega⟩⟩
  · subst hR
    exact List.pairwise_iff_getElem.1 (ringsL_ord mz ef.upC) i (i + 1) (by omega) hi (by omega)
  · rw [hR]; exact ringsL_split mz ef.upC ef.alm ef.ln h1 (by omega)

end Go.Proofs.YtgelojhpanbnaaaGreatDoor

namespace Go.Proofs.YtgelojhpanbnaaaGreatDoor
open Go.RowKit Go.Shelf
set_option linter.unusedSimpArgs false
set_option linter.unusedVariables false

/-- a list of rings, as it lies. -/
def RngsR (nm : ByteArray) (w : World) (v : Value) (L : List Rng) : Prop := Reads w v 5 L.length (L.flatMap (encR nm))

theorem RngsR.below {nm : ByteArray} {w w' : World} {v : Value} {L : List Rng} (h : RngsR nm w v L) (hb : Below w.heap.size w w') : RngsR nm w' v L := Reads.below h hb

theorem OwnR.rngs {nm : ByteArray} {B : Nat} {w : World} {v : Value} {L : List Rng} (h : OwnR nm B w v L) : RngsR nm w v L := ownsRow_reads h

theorem rngsR_open {nm : ByteArray} {w : World} {v : Value} {L : List Rng} (h : RngsR nm w v L) : ∃ a cap, v = .slice a L.length cap ∧ L.length ≤ cap ∧ cap ≤ maxLen ∧
    (0 < L.length → ∃ b off, a = some ⟨b, off, none⟩ ∧ ∀ (i : Nat) (hi : i < L.length), w.cell? ⟨b, off + i * 5, none⟩ = some (.int .i64 L[i].1) ∧ w.cell? ⟨b, off + i * 5 + 1, none⟩ = some (.string nm) ∧ w.cell? ⟨b, off + i * 5 + 2, none⟩ = some (.int .i64 L[i].2.1) ∧ w.cell? ⟨b, off + i * 5 + 3, none⟩ = some (.int .i64 L[i].2.2.1) ∧ w.cell? ⟨b, off + i * 5 + 4, none⟩ = some (.int .i64 L[i].2.2.2)) := by
  obtain ⟨p, cap, rfl, k1, k2, k3, k4⟩ := h
  refine ⟨p, cap, rfl, k2, k3, fun hp => ?_⟩
  obtain ⟨b, off, rfl, hc⟩ := k4 hp
  have q : ∀ (i : Nat) (hi : i < L.length) (o : Nat) (ho : o < 5) (u : Value), (encR nm L[i])[o]? = some u → w.cell? ⟨b, off + i * 5 + o, none⟩ = some u := fun i hi o ho u hu => by
    rw [Nat.add_assoc]
    exact hc _ _ ((flatMap_at (enc := encR nm) (k := 5) (fun _ => rfl) L i o hi ho).trans hu)
  exact ⟨b, off, rfl, fun i hi => ⟨q i hi 0 (by omega) _ rfl, q i hi 1 (by omega) _ rfl, q i hi 2 (by omega) _ rfl, q i hi 3 (by omega) _ rfl, q i hi 4 (by omega) _ rfl⟩⟩

set_option maxHeartbeats 4000000 in
theorem rings_same (nm : ByteArray) (u v : Value) (L : List Rng) (w : World) (hu : RngsR nm w u L) (hv : RngsR nm w v L) :
    Calls Tryz.prog 27 #[u, v] w fun e w' => e = .returned (.bool true) ∧ Below w.heap.size w w' := by
  obtain ⟨p, cap, rfl, hc1, hc2, hcell⟩ := rngsR_open hu
  obtain ⟨q, caq, rfl, hd1, hd2, hdell⟩ := rngsR_open hv
  unfold maxLen at hc2 hd2
  have HC := Lib.hid hcell; have HD := Lib.hid hdell; clear hcell hdell hu hv
  go_enter Tryz.func27, Tryz.ntmps27
  go_wp2
  go_loopg [5] L.length (fun g i wr => ∃ k : Nat, k ≤ L.length ∧ i = .int .i64 k ∧ g = L.length - k ∧ ∃ n, wr = w.drewN n)
  case atStart => exact ⟨0, Nat.zero_le _, rfl, rfl, 0, rfl⟩
  case round =>
    obtain ⟨k, hk, rfl, hg, n, rfl⟩ := hrel
    have G := Lib.hid hg; clear hg
    by_cases hlt : k < L.length
    · obtain ⟨b1, off1, rfl, hcs⟩ := HC.out (by omega)
      obtain ⟨b2, off2, rfl, hds⟩ := HD.out (by omega)
      obtain ⟨c0, c1, c2, c3, c4⟩ := hcs k hlt
      obtain ⟨d0, d1, d2, d3, d4⟩ := hds k hlt
      obtain ⟨x, hx⟩ : ∃ x, x = L[k] := ⟨_, rfl⟩
      rw [← hx] at c0 c2 c3 c4 d0 d2 d3 d4
      obtain ⟨x1, x2, x3, x4⟩ := x
      simp only at c0 c2 c3 c4 d0 d2 d3 d4
      clear hx hcs hds
      have i1 : (0 : Int) ≤ (k : Int) := Int.natCast_nonneg _
      have i2 : (k : Int) < (L.length : Int) := by omega
      go_wp2
      go_quiet (fail)
      go_wp2
      go_roundg (L.length - (k + 1))
      case measure => rw [G.out]; omega
      case rel => exact ⟨k + 1, by omega, by go_num, rfl, _, rfl⟩
    · obtain rfl : k = L.length := by omega
      go_wp2
      go_ret
      exact ⟨rfl, below_drewN (Below.refl _ _) _⟩

end Go.Proofs.YtgelojhpanbnaaaGreatDoor
