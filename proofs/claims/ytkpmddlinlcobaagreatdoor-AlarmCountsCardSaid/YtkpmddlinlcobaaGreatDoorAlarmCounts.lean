/- The law AlarmCounts: an alarm of what is once rings once, and so many times again: the walk. -/
import Derived.Test.YtkpmddlinlcobaaGreatDoorRngN
namespace Go.Proofs.YtkpmddlinlcobaaGreatDoor
open Go.RowKit Go.Shelf
set_option linter.unusedSimpArgs false
set_option linter.unusedVariables false

theorem alms_oneH {w : World} {b : Nat} {al : Alm} (h0 : w.cell? ⟨b, 0, none⟩ = some (.int .i64 al.1)) (h1 : w.cell? ⟨b, 1, none⟩ = some (.bool al.2.1)) (h2 : w.cell? ⟨b, 2, none⟩ = some (.int .i64 al.2.2.1)) (h3 : w.cell? ⟨b, 3, none⟩ = some (.int .i64 al.2.2.2)) : AlmsR w (.slice (some ⟨b, 0, none⟩) 1 1) [al] :=
  ⟨_, 1, rfl, by simp [almV], by simp, by decide, fun _ => ⟨b, 0, rfl, fun j u hj => by
    match j, hj with
    | 0, hj => (simp [almV] at hj; subst hj; simpa using h0)
    | 1, hj => (simp [almV] at hj; subst hj; simpa using h1)
    | 2, hj => (simp [almV] at hj; subst hj; simpa using h2)
    | 3, hj => (simp [almV] at hj; subst hj; simpa using h3)⟩⟩

theorem counts_lit (st af : Int) (ae : Bool) (ar ab : Int) (w0 : World) : ∃ ob vA1, Value.pointer (some ⟨w0.heap.size + 1, 0, none⟩) = .pointer (some ⟨ob, 0, none⟩) ∧ EvC ((w0.alloc (.cells #[.int .i64 af, .bool ae, .int .i64 ar, .int .i64 ab] 31)).alloc (.cells #[.string { data := #[97] }, .string { data := #[] }, .int .i64 st, .int .i64 30, .bool false, .int .i64 0, .int .i64 0, .int .i64 0, .int .i64 0, .slice none 0 0, .slice none 0 0, .slice none 0 0, .slice none 0 0, .slice none 0 0, .slice none 0 0, .slice none 0 0, .slice (some ⟨w0.heap.size, 0, none⟩) 1 1] 29)) ob { data := #[97] } { data := #[] } st 30 false 0 0 0 0 (.slice none 0 0) (.slice none 0 0) (.slice none 0 0) (.slice none 0 0) (.slice none 0 0) (.slice none 0 0) (.slice none 0 0) vA1 ∧ AlmsR ((w0.alloc (.cells #[.int .i64 af, .bool ae, .int .i64 ar, .int .i64 ab] 31)).alloc (.cells #[.string { data := #[97] }, .string { data := #[] }, .int .i64 st, .int .i64 30, .bool false, .int .i64 0, .int .i64 0, .int .i64 0, .int .i64 0, .slice none 0 0, .slice none 0 0, .slice none 0 0, .slice none 0 0, .slice none 0 0, .slice none 0 0, .slice none 0 0, .slice (some ⟨w0.heap.size, 0, none⟩) 1 1] 29)) vA1 [(af, ae, ar, ab)] ∧ Below w0.heap.size w0 ((w0.alloc (.cells #[.int .i64 af, .bool ae, .int .i64 ar, .int .i64 ab] 31)).alloc (.cells #[.string { data := #[97] }, .string { data := #[] }, .int .i64 st, .int .i64 30, .bool false, .int .i64 0, .int .i64 0, .int .i64 0, .int .i64 0, .slice none 0 0, .slice none 0 0, .slice none 0 0, .slice none 0 0, .slice none 0 0, .slice none 0 0, .slice none 0 0, .slice (some ⟨w0.heap.size, 0, none⟩) 1 1] 29)) := by
  obtain ⟨y1, hy1⟩ : ∃ z, z = w0.alloc (.cells #[.int .i64 af, .bool ae, .int .i64 ar, .int .i64 ab] 31) := ⟨_, rfl⟩
  have s1 : y1.heap.size = w0.heap.size + 1 := by rw [hy1]; simp
  have c0 : y1.cell? ⟨w0.heap.size, 0, none⟩ = some (.int .i64 af) := by rw [hy1]; simp
  have c1 : y1.cell? ⟨w0.heap.size, 1, none⟩ = some (.bool ae) := by rw [hy1]; simp
  have c2 : y1.cell? ⟨w0.heap.size, 2, none⟩ = some (.int .i64 ar) := by rw [hy1]; simp
  have c3 : y1.cell? ⟨w0.heap.size, 3, none⟩ = some (.int .i64 ab) := by rw [hy1]; simp
  have b1 : Below w0.heap.size w0 y1 := by rw [hy1]; exact (Below.refl _ _).alloc (Nat.le_refl _) _
  rw [← hy1]
  obtain ⟨o, ho⟩ : ∃ o : Obj, o = .cells #[.string { data := #[97] }, .string { data := #[] }, .int .i64 st, .int .i64 30, .bool false, .int .i64 0, .int .i64 0, .int .i64 0, .int .i64 0, .slice none 0 0, .slice none 0 0, .slice none 0 0, .slice none 0 0, .slice none 0 0, .slice none 0 0, .slice none 0 0, .slice (some ⟨w0.heap.size, 0, none⟩) 1 1] 29 := ⟨_, rfl⟩
  have ec := evC_new y1 29 { data := #[97] } { data := #[] } st 30 false 0 0 0 0 (.slice none 0 0) (.slice none 0 0) (.slice none 0 0) (.slice none 0 0) (.slice none 0 0) (.slice none 0 0) (.slice none 0 0) (.slice (some ⟨w0.heap.size, 0, none⟩) 1 1)
  rw [← ho] at ec ⊢
  have b3 : Below y1.heap.size y1 (y1.alloc o) := (Below.refl y1.heap.size y1).alloc (Nat.le_refl _) o
  have i1 := alms_oneH (al := (af, ae, ar, ab)) (cell_below b3 c0) (cell_below b3 c1) (cell_below b3 c2) (cell_below b3 c3)
  rw [s1] at ec
  exact ⟨_, _, rfl, ec, i1, b1.trans (b3.mono (by omega))⟩

theorem counts_fact : evF [97] [] 700 0 false 0 0 0 0 [] [] [] [] [] [] [] [(0, false, 2, 5)] = 0 := by decide +kernel

theorem counts_three : ringsL 0 [] [700] [] [] [] [(0, false, 2, 5)] 0 1 1999 = [(700, 700, 0, 0), (705, 700, 0, 1), (710, 700, 0, 2)] := by
  rw [rings_one (by decide) (by decide) (by decide) (by decide) (by decide) (fun k hk => by
    have hk2 : k = 0 ∨ k = 1 ∨ k = 2 := by simp only at hk; omega
    rcases hk2 with rfl | rfl | rfl <;> decide)]
  rfl

theorem counts_call (vA : Value) (w : World) (hw : Months w) (hA : AlmsR w vA [(0, false, 2, 5)]) : Calls Tryz.prog 33 #[.agg #[.int .i64 0, .slice none 0 0], .agg #[.string { data := #[97] }, .string { data := #[] }, .int .i64 700, .int .i64 0, .bool false, .int .i64 0, .int .i64 0, .int .i64 0, .int .i64 0, .slice none 0 0, .slice none 0 0, .slice none 0 0, .slice none 0 0, .slice none 0 0, .slice none 0 0, .slice none 0 0, vA], .int .i64 1, .int .i64 2000] w
      (RingsP (bs [97]) 0 [(700, 700, 0, 0), (705, 700, 0, 1), (710, 700, 0, 2)] w) := by
  have h := rings_any [97] [] 700 0 false 0 0 0 0 (.slice none 0 0) (.slice none 0 0) (.slice none 0 0) (.slice none 0 0) (.slice none 0 0) (.slice none 0 0) (.slice none 0 0) vA [] [] [] [] [] [] [] [(0, false, 2, 5)] 0 (.slice none 0 0) [] 1 2000 w hw ⟨intsR_nil _, intsR_nil _, reads_nil _ _, intsR_nil _, intsR_nil _, intsR_nil _, reads_nil _ _, hA⟩ (reads_nil _ _) (by decide) (by decide) (by decide)
  rw [counts_fact, show ruleT false 700 0 0 0 0 [] [] [] [] = [700] from rfl, show (2000 : Int) - 1 = 1999 by decide, counts_three, show ringE (betE 0 (zfault 0 []) 1 2000) [((700, 700, 0, 0) : Rng), (705, 700, 0, 1), (710, 700, 0, 2)].length = 0 by decide] at h
  exact h

theorem counts_plain {st af : Int} {ae : Bool} {ar ab : Int} (hs : 500000 ≤ st ∧ st ≤ 150000000) {F : Int} (hF : F = evF [97] [] st 30 false 0 0 0 0 [] [] [] [] [] [] [] [(af, ae, ar, ab)]) : ∃ (R : List Rng) (at_ : Int),
    (F = 0 → almBad (af, ae, ar, ab) = false ∧ R = turnsR at_ ab st (ar + 1).toNat) ∧ ringE (betE F (zfault 0 []) (st - 400000) (st + 400000)) R.length = F ∧
    R = ringsL 0 [] (ruleT false st 0 0 0 0 [] [] [] []) [] [] [] [(af, ae, ar, ab)] 30 (st - 400000) (st + 400000 - 1) := by
  refine ⟨ringsL 0 [] (ruleT false st 0 0 0 0 [] [] [] []) [] [] [] [(af, ae, ar, ab)] 30 (st - 400000) (st + 400000 - 1), almAt (af, ae, ar, ab) st 30, ?_, ?_, rfl⟩
  all_goals
    have key : F = 0 → almBad (af, ae, ar, ab) = false ∧ ringsL 0 [] (ruleT false st 0 0 0 0 [] [] [] []) [] [] [] [(af, ae, ar, ab)] 30 (st - 400000) (st + 400000 - 1) = turnsR (almAt (af, ae, ar, ab) st 30) ab st (ar + 1).toNat := fun h => by
      have ef := evF_facts (hF.symm.trans h)
      have hb := ef.alm _ List.mem_cons_self
      have ok := alm_ok hb
      simp only at ok
      refine ⟨hb, ?_⟩
      have hd : st - 100000 ≤ almAt (af, ae, ar, ab) st 30 ∧ almAt (af, ae, ar, ab) st 30 ≤ st + 100030 := by unfold almAt; simp only; split <;> omega
      rw [show ruleT false st 0 0 0 0 [] [] [] [] = [st] from rfl]
      refine rings_one hb (timeB_mk (by omega) (by omega)) (timeB_mk (by omega) (by omega)) (by omega) (by omega) (fun k hk => ?_)
      simp only at hk
      have h0 : 0 ≤ (k : Int) * ab := Int.mul_nonneg (by omega) (by omega)
      have h1 : (k : Int) * ab ≤ 5 * 10000 := Int.mul_le_mul (by omega) (by omega) (by omega) (by omega)
      exact ⟨timeB_mk (by simp only; omega) (by simp only; omega), by simp only; omega, by simp only; omega⟩
  · exact key
  · by_cases h0 : F = 0
    · obtain ⟨hb, hk⟩ := key h0
      have ok := alm_ok hb
      simp only at ok
      rw [hk, turnsR_len, h0, show zfault 0 [] = 0 by decide, betE_mk (timeB_mk (by omega) (by omega)) (timeB_mk (by omega) (by omega)) (by omega) (by omega)]
      exact ringE_mk (by omega)
    · rw [betE, readyE, if_pos h0, if_pos h0, ringE, if_pos h0]

set_option maxRecDepth 100000 in
set_option maxHeartbeats 16000000 in
theorem alarmCounts_any (st af : Int) (ae : Bool) (ar ab : Int) (w : World) (hw : Months w) (hst : (Lit.int .i64 st).wf = true) :
    Calls Tryz.prog 7 #[.int .i64 st, .agg #[.int .i64 af, .bool ae, .int .i64 ar, .int .i64 ab]] w fun e w' => e = .returned (.bool true) ∧ Below w.heap.size w w' := by
  obtain ⟨eb, heb⟩ : ∃ x, x = w.heap.size := ⟨_, rfl⟩
  obtain ⟨w0, hw0⟩ : ∃ x, x = w.alloc (.cells #[.int .i64 af, .bool ae, .int .i64 ar, .int .i64 ab] 31) := ⟨_, rfl⟩
  have hb0 : Below w.heap.size w w0 := by rw [hw0]; exact (Below.refl _ _).alloc (Nat.le_refl _) _
  have a0 : w0.cell? ⟨eb, 0, none⟩ = some (.int .i64 af) := by rw [hw0, heb]; simp
  have a1 : w0.cell? ⟨eb, 1, none⟩ = some (.bool ae) := by rw [hw0, heb]; simp
  have a2 : w0.cell? ⟨eb, 2, none⟩ = some (.int .i64 ar) := by rw [hw0, heb]; simp
  have a3 : w0.cell? ⟨eb, 3, none⟩ = some (.int .i64 ab) := by rw [hw0, heb]; simp
  have A2 := Lib.hid a2; have A3 := Lib.hid a3
  have HW := Lib.hid (hw.below hb0); have B0 := Lib.hid hb0; have W0 := Lib.hid hw0; have EB := Lib.hid heb
  clear hw hw0 hb0 heb
  go_enter Tryz.func7, Tryz.ntmps7
  go_upto_region 1 with fail
  rw [← W0.out]
  rw [← EB.out]
  go_cut [5] (fun s5 wx => ∃ ob vA1, s5 = .pointer (some ⟨ob, 0, none⟩) ∧ EvC wx ob { data := #[97] } { data := #[] } st 30 false 0 0 0 0 (.slice none 0 0) (.slice none 0 0) (.slice none 0 0) (.slice none 0 0) (.slice none 0 0) (.slice none 0 0) (.slice none 0 0) vA1 ∧ AlmsR wx vA1 [(af, ae, ar, ab)] ∧ Below w0.heap.size w0 wx)
  case first =>
    go_wp2
    go_meet
    exact counts_lit st af ae ar ab w0
  case rest =>
  clear a0 a1 a2 a3
  obtain ⟨ob, vA1, rfl, ec1, hA1, hb1⟩ := hcut
  obtain ⟨w1, rfl⟩ : ∃ x, x = wc := ⟨_, rfl⟩
  have B1 := Lib.hid hb1
  have EC := Lib.hid ec1; have AR := Lib.hid hA1
  obtain ⟨aA, kA, rfl, -, -, -⟩ := almsR_open hA1
  have M1 := Lib.hid (HW.out.below hb1)
  clear hb1 hA1 ec1
  go_upto_region 2 with fail
  go_cut [6, 7] (fun s6 s7 wx => (∃ g c, s6 = .slice (some ⟨g, 0, none⟩) 3 c ∧ wx.cell? ⟨g, 10, none⟩ = some (.int .i64 710)) ∧ s7 = .nilIface ∧ Below w1.heap.size w1 wx)
  case first =>
    obtain ⟨y1, hy1⟩ : ∃ z, z = w1.alloc (.cells #[.int .i64 0, .bool false, .int .i64 2, .int .i64 5] 31) := ⟨_, rfl⟩
    have b1 : Below w1.heap.size w1 y1 := by rw [hy1]; exact (Below.refl _ _).alloc (Nat.le_refl _) _
    have LC := Lib.hid (counts_call _ y1 (M1.out.below b1) (alms_oneH (b := w1.heap.size) (by rw [hy1]; simp) (by rw [hy1]; simp) (by rw [hy1]; simp) (by rw [hy1]; simp)))
    have Y1 := Lib.hid hy1; have BY := Lib.hid b1
    clear hy1 b1
    go_wp2_with fail
    rw [← Y1.out]
    refine LC.out.mono ?_; rintro e w2 ⟨v2, rfl, hv2, hb2⟩
    rw [if_pos rfl] at hv2
    obtain ⟨va, vc, rfl, -, -, hcs⟩ := owns_cells hv2
    obtain ⟨g, rfl, -, hc⟩ := hcs (by decide)
    have C0 := Lib.hid (show w2.cell? ⟨g, 10, none⟩ = some (.int .i64 710) from hc 10 _ rfl)
    have B2 := Lib.hid hb2
    rw [errV_0]
    clear hcs hc hv2 hb2
    go_wp2
    go_meet
    exact ⟨⟨_, _, rfl, C0.out⟩, rfl, BY.out.trans (B2.out.mono BY.out.size)⟩
  case rest =>
  obtain ⟨⟨g2, c2, rfl, hc0⟩, rfl, hb2⟩ := hcut
  obtain ⟨w2, rfl⟩ : ∃ x, x = wc := ⟨_, rfl⟩
  have B2 := Lib.hid hb2
  clear hb2
  go_upto_region 5 with fail
  clear hc0
  by_cases g1 : st < 500000
  · have d1 : decide (st < 500000) = true := decide_eq_true g1
    clear g1
    go_wp2
    go_ret
    exact ⟨rfl, B0.out.trans ((B1.out.trans (B2.out.mono B1.out.size)).mono B0.out.size)⟩
  have d1 : decide (st < 500000) = false := decide_eq_false g1
  by_cases g2 : 150000000 < st
  · have d2 : decide (150000000 < st) = true := decide_eq_true g2
    clear g1 g2
    go_wp2
    go_ret
    exact ⟨rfl, B0.out.trans ((B1.out.trans (B2.out.mono B1.out.size)).mono B0.out.size)⟩
  have d2 : decide (150000000 < st) = false := decide_eq_false g2
  have wa : IntKind.i64.wrap (st - 400000) = st - 400000 := IntWalk.i64_in _ (by omega)
  have wb : IntKind.i64.wrap (st + 400000) = st + 400000 := IntWalk.i64_in _ (by omega)
  obtain ⟨F, hF⟩ : ∃ F, F = evF [97] [] st 30 false 0 0 0 0 [] [] [] [] [] [] [] [(af, ae, ar, ab)] := ⟨_, rfl⟩
  obtain ⟨R, at_, hr1, hr2, hr3⟩ := counts_plain (F := F) ⟨by omega, by omega⟩ hF
  have CK := Lib.hid (show ∀ wx, Below w1.heap.size w1 wx → Calls Tryz.prog 16 #[.agg #[.string { data := #[97] }, .string { data := #[] }, .int .i64 st, .int .i64 30, .bool false, .int .i64 0, .int .i64 0, .int .i64 0, .int .i64 0, .slice none 0 0, .slice none 0 0, .slice none 0 0, .slice none 0 0, .slice none 0 0, .slice none 0 0, .slice none 0 0, .slice aA [(af, ae, ar, ab)].length kA]] wx (fun e w' => e = .returned (errV F) ∧ Below wx.heap.size wx w') from fun wx hbx => by
    rw [hF]
    exact check_any [97] [] st 30 false 0 0 0 0 _ _ _ _ _ _ _ _ [] [] [] [] [] [] [] [(af, ae, ar, ab)] wx (intsR_nil _) (intsR_nil _) (reads_nil _ _) (intsR_nil _) (intsR_nil _) (intsR_nil _) (reads_nil _ _) (AR.out.below hbx) (by decide) (by decide) (by decide))
  have RC := Lib.hid (show ∀ wx, Below w1.heap.size w1 wx → Calls Tryz.prog 33 #[.agg #[.int .i64 0, .slice none 0 0], .agg #[.string { data := #[97] }, .string { data := #[] }, .int .i64 st, .int .i64 30, .bool false, .int .i64 0, .int .i64 0, .int .i64 0, .int .i64 0, .slice none 0 0, .slice none 0 0, .slice none 0 0, .slice none 0 0, .slice none 0 0, .slice none 0 0, .slice none 0 0, .slice aA [(af, ae, ar, ab)].length kA], .int .i64 (st - 400000), .int .i64 (st + 400000)] wx (RingsP (bs [97]) F R wx) from fun wx hbx => by
    have h := rings_any [97] [] st 30 false 0 0 0 0 _ _ _ _ _ _ _ _ [] [] [] [] [] [] [] [(af, ae, ar, ab)] 0 (.slice none 0 0) [] (st - 400000) (st + 400000) wx (M1.out.below hbx) ⟨intsR_nil _, intsR_nil _, reads_nil _ _, intsR_nil _, intsR_nil _, intsR_nil _, reads_nil _ _, AR.out.below hbx⟩ (reads_nil _ _) (by decide) (by decide) (by decide)
    rw [← hF, ← hr3, hr2] at h
    exact h)
  have R1 := Lib.hid hr1
  have E2 := Lib.hid (EC.out.below B2.out)
  clear g1 g2 hr1 hr2 hr3 hF
  go_upto_region 7 with fail
  clear d1 d2
  have k0 := E2.out.k0; have k1 := E2.out.k1; have k2 := E2.out.k2; have k3 := E2.out.k3; have k4 := E2.out.k4; have k5 := E2.out.k5; have k6 := E2.out.k6; have k7 := E2.out.k7; have k8 := E2.out.k8; have k9 := E2.out.k9; have k10 := E2.out.k10; have k11 := E2.out.k11; have k12 := E2.out.k12; have k13 := E2.out.k13; have k14 := E2.out.k14; have k15 := E2.out.k15; have k16 := E2.out.k16
  go_cut [8, 9] (fun s8 s9 wx => ∃ v, s8 = v ∧ s9 = errV F ∧ OwnR (bs [97]) w2.heap.size wx v (if F = 0 then R else []) ∧ Below w2.heap.size w2 wx)
  case first => as_aux_lemma =>
    go_wp2_with fail
    refine (RC.out _ B2.out).mono ?_; rintro e w3 ⟨v, rfl, hv, hb⟩
    have HV := Lib.hid hv; have HB := Lib.hid hb
    clear hv hb k0 k1 k2 k3 k4 k5 k6 k7 k8 k9 k10 k11 k12 k13 k14 k15 k16
    go_wp2
    go_meet
    exact ⟨_, rfl, rfl, HV.out, HB.out⟩
  case rest =>
  clear wa wb k0 k1 k2 k3 k4 k5 k6 k7 k8 k9 k10 k11 k12 k13 k14 k15 k16 E2 RC
  obtain ⟨v3, rfl, rfl, hv3, hb3⟩ := hcut
  obtain ⟨w3, rfl⟩ : ∃ x, x = wc := ⟨_, rfl⟩
  have B3 := Lib.hid (B2.out.trans (hb3.mono B2.out.size))
  clear hb3
  by_cases h0 : F ≠ 0
  · have E := Lib.hid (show errV F = .iface 119 (.int .i64 F) by rw [errV, if_neg h0])
    rw [E.out]
    rw [E.out] at CK
    have E3 := Lib.hid (EC.out.below B3.out)
    have k0 := E3.out.k0; have k1 := E3.out.k1; have k2 := E3.out.k2; have k3 := E3.out.k3; have k4 := E3.out.k4; have k5 := E3.out.k5; have k6 := E3.out.k6; have k7 := E3.out.k7; have k8 := E3.out.k8; have k9 := E3.out.k9; have k10 := E3.out.k10; have k11 := E3.out.k11; have k12 := E3.out.k12; have k13 := E3.out.k13; have k14 := E3.out.k14; have k15 := E3.out.k15; have k16 := E3.out.k16
    clear h0 hv3
    go_wp2_with fail
    refine (CK.out _ B3.out).mono ?_; rintro e w4 ⟨rfl, hb4⟩
    have B4 := Lib.hid (B3.out.trans (hb4.mono B3.out.size))
    clear hb4 k0 k1 k2 k3 k4 k5 k6 k7 k8 k9 k10 k11 k12 k13 k14 k15 k16
    go_wp2
    go_ret
    exact ⟨rfl, B0.out.trans ((B1.out.trans (B4.out.mono B1.out.size)).mono B0.out.size)⟩
  obtain rfl : F = 0 := by omega
  rw [errV_0]
  rw [if_pos rfl] at hv3
  obtain ⟨hbad, hRt⟩ := R1.out rfl
  have ok := alm_ok hbad
  simp only at ok
  obtain ⟨n, hn⟩ : ∃ n, n = (ar + 1).toNat := ⟨_, rfl⟩
  rw [← hn] at hRt
  have hn2 : ar + 1 = (n : Int) := by omega
  have hn6 : n ≤ 6 := by omega
  have hl : R.length = n := by rw [hRt, turnsR_len]
  obtain ⟨va, vc, rfl, hm, -, hcs⟩ := owns_cells hv3
  unfold maxLen at hm
  have HD := Lib.hid (show 0 < n → ∃ g, va = some ⟨g, 0, none⟩ ∧ ∀ (k : Nat) (hk : k < n), w3.cell? ⟨g, k * 5, none⟩ = some (.int .i64 (at_ + (k : Int) * ab)) ∧ w3.cell? ⟨g, k * 5 + 4, none⟩ = some (.int .i64 (k : Int)) from fun hp => by
    obtain ⟨g, e1, -, q⟩ := hcs (by omega)
    refine ⟨g, e1, fun k hk => ⟨q (k * 5) _ ?_, q (k * 5 + 4) _ ?_⟩⟩
    · have h5 := flatMap_at (enc := encR (bs [97])) (k := 5) (fun _ => rfl) R k 0 (by omega) (by omega)
      subst hRt
      rw [turnsR_at] at h5; simpa [encR] using h5
    · have h5 := flatMap_at (enc := encR (bs [97])) (k := 5) (fun _ => rfl) R k 4 (by omega) (by omega)
      subst hRt
      rw [turnsR_at] at h5; simpa [encR] using h5)
  rw [hl]
  have a2 := cell_below (B1.out.trans (B3.out.mono B1.out.size)) A2.out
  have A33 := Lib.hid (cell_below (B1.out.trans (B3.out.mono B1.out.size)) A3.out)
  have s1 : IntKind.i64.wrap (ar + 1) = (n : Int) := by rw [hn2]; exact IntWalk.i64_in _ (by omega)
  have d0 : ((n : Int) != (n : Int)) = false := by simp
  have OK := Lib.hid ok
  clear hbad hRt ok hn hn2 hl hcs hv3 h0 R1 CK
  go_wp2_with fail
  clear a2
  go_loopg [10] n (fun g iv wr => ∃ k : Nat, k ≤ n ∧ iv = .int .i64 k ∧ g = n - k ∧ Below w3.heap.size w3 wr)
  case atStart => exact ⟨0, Nat.zero_le _, rfl, rfl, Below.refl _ _⟩
  case round =>
    obtain ⟨k, hk, rfl, hg, hb⟩ := hrel
    have G := Lib.hid hg
    have BR := Lib.hid hb
    clear hg
    by_cases hlt : k < n
    · obtain ⟨g3, rfl, hcs⟩ := HD.out (by omega)
      have q0 := cell_below hb (hcs k hlt).1
      have q4 := cell_below hb (hcs k hlt).2
      have a3 := cell_below hb A33.out
      obtain ⟨x, hx⟩ : ∃ x, x = at_ + (k : Int) * ab := ⟨_, rfl⟩
      rw [← hx] at q0
      have i0 : (0 : Int) ≤ (k : Int) := Int.natCast_nonneg _
      have i2 : (k : Int) < (n : Int) := by omega
      have e0 : ((k : Int) != (k : Int)) = false := by simp
      go_upto_region 15 with fail
      go_cut [97] (fun s97 wx => s97 = .bool false ∧ Below wr.heap.size wr wx)
      case first => as_aux_lemma =>
        by_cases k0 : 0 < k
        · have p0 := cell_below hb (hcs (k - 1) (by omega)).1
          obtain ⟨p, hp⟩ : ∃ p, p = at_ + ((k - 1 : Nat) : Int) * ab := ⟨_, rfl⟩
          rw [← hp] at p0
          have hd : x - p = ab := by
            have h1 : (k : Int) = ((k - 1 : Nat) : Int) + 1 := by omega
            rw [hx, hp, h1, Int.add_mul]; omega
          have s1 : IntKind.i64.wrap (x - p) = ab := by rw [hd]; exact IntWalk.i64_in _ (by have := OK.out; omega)
          have d1 : (ab != ab) = false := by simp
          have d4 : decide (0 < k) = true := decide_eq_true k0
          have d5 : decide ((0 : Int) < (k : Int)) = true := decide_eq_true (by omega)
          have s2 : IntKind.i64.wrap ((k : Int) - 1) = (k : Int) - 1 := IntWalk.i64_in _ (by omega)
          have s3 : (0 : Int) ≤ (k : Int) - 1 := by omega
          have s4 : (1 : Int) ≤ (k : Int) := by omega
          have s5 : ((k : Int) - 1).toNat = k - 1 := by omega
          have s6 : (k : Int) - 1 < (n : Int) := by omega
          clear hx hp hd hcs k0
          go_quiet (fail)
          go_wp2
          go_meet
          exact ⟨by first | rfl | simp, below_drewN (Below.refl _ _) _⟩
        · have d4 : decide (0 < k) = false := decide_eq_false k0
          have d5 : decide ((0 : Int) < (k : Int)) = false := decide_eq_false (by omega)
          clear k0 hx hcs
          go_quiet (fail)
          go_wp2
          go_meet
          exact ⟨by first | rfl | simp, below_drewN (Below.refl _ _) _⟩
      case rest =>
      obtain ⟨rfl, hbx⟩ := hcut
      have B5 := Lib.hid (BR.out.trans (hbx.mono BR.out.size))
      clear hbx q0 q4 a3 hx hcs hb
      go_wp2
      go_roundg (n - (k + 1))
      case measure => rw [G.out]; omega
      case rel => exact ⟨k + 1, by omega, by go_num, rfl, B5.out⟩
    · obtain rfl : k = n := by omega
      have i2 : ¬ (k : Int) < (k : Int) := by omega
      clear hb
      go_wp2
      go_ret
      exact ⟨rfl, B0.out.trans ((B1.out.trans ((B3.out.trans (BR.out.mono B3.out.size)).mono B1.out.size)).mono B0.out.size)⟩

end Go.Proofs.YtkpmddlinlcobaaGreatDoor
