/- The law MonthHolds: on a leaf each day of the month stands once, one behind the other, below its weekday: the walk. Conditions: the table of months, the powers of ten, the library's ErrSyntax and the type error's handle lie as they are laid. -/
import Derived.Test.YtdkcgggnkhbkkaaDoorMonthRows
import Derived.Test.YtdkcgggnkhbkkaaDoorMonB
import Derived.Test.YtdkcgggnkhbkkaaDoorErr
import Derived.Test.YtdkcgggnkhbkkaaDoorRefA
namespace Go.Proofs.YtdkcgggnkhbkkaaDoor
open Go.RowKit Go.Shelf
set_option linter.unusedSimpArgs false
set_option linter.unusedVariables false

/-- the day that is next ahead of a place. -/
def nextD (fi sz q : Int) : Int := max 1 (min (q - fi + 1) (sz + 1))

theorem leaf_fact : ∃ r, marksL 2026 11 [] = [32, 32, 32, 32, 32, 32, 32, 32, 32, 32, 32, 32, 32, 32, 32, 32, 32, 32, 32, 32, 49] :: r ∧ r.length = 5 := by
  have e0 : marksE 2026 11 [] = 0 := by rw [marksE_nil]; decide
  have n0 : Cal.num 2026 11 1 = 46326 := by decide
  have d0 : Cal.dim 2026 11 = 30 := by decide
  have m0 : Cal.mondayI 46326 = 46320 := by decide
  have r0 : rowsN 46326 30 = 6 := by decide
  have h1 : Lib.decDigits 1 = [49] := Lib.decDigits_one (by omega)
  rw [marksL_ok e0, n0, d0, leafL, r0, leafTo]
  refine ⟨[1, 2, 3, 4, 5].map fun (i : Nat) => rowTo 46326 30 [] (Cal.mondayI 46326 + 7 * (i : Int)) 7, ?_, by simp⟩
  · rw [show List.range 6 = 0 :: [1, 2, 3, 4, 5] from rfl, List.map_cons]
    congr 1
    rw [m0, rowTo]
    simp [List.range, List.range.loop, cellL, dayT, inB, h1, List.replicate]

set_option maxRecDepth 100000 in
set_option maxHeartbeats 4000000 in
theorem monthHolds_any (y m : Int) (w : World) (hw : Months w) (hP : PowT w) (hS : SynT w) (hE : ErrT w) (_ : (Lit.int .i64 y).wf = true) (_ : (Lit.int .i64 m).wf = true) :
    Calls Tryd.prog 10 #[.int .i64 y, .int .i64 m] w fun e w' => e = .returned (.bool true) ∧ Below w.heap.size w w' := by
  have E0 := Lib.hid (show marksE 2026 11 [] = 0 by rw [marksE_nil]; decide)
  obtain ⟨r0, hr0, hr5⟩ := leaf_fact
  have L0 := Lib.hid hr0
  have R5 := Lib.hid hr5
  have MW := Lib.hid hw; have PT := Lib.hid hP; have ST := Lib.hid hS; have ER := Lib.hid hE
  clear hw hP hS hE hr0 hr5
  go_enter Tryd.func10, Tryd.ntmps10
  go_wp2_with fail
  refine (leaf_any 2026 11 _ MW.out).mono ?_; rintro e w1 ⟨v1, rfl, hv1, hb1⟩
  rw [L0.out] at hv1
  obtain ⟨a1, c1, rfl, -, -, hcell⟩ := strsR_open hv1
  obtain ⟨b1, off1, rfl, hcs⟩ := hcell (by simp)
  have c0 := hcs 0 (by simp)
  have c0b : w1.cell? ⟨b1, off1, none⟩ = some (.string { data := #[32, 32, 32, 32, 32, 32, 32, 32, 32, 32, 32, 32, 32, 32, 32, 32, 32, 32, 32, 32, 49] }) := c0
  clear hcs hcell c0
  rw [E0.out, errV_0]
  have hlen : ([32, 32, 32, 32, 32, 32, 32, 32, 32, 32, 32, 32, 32, 32, 32, 32, 32, 32, 32, 32, 49] :: r0 : List (List UInt8)).length = 6 := by rw [List.length_cons, R5.out]
  rw [hlen]
  have MW := Lib.hid (MW.out.below hb1); have PT := Lib.hid (PT.out.below hb1); have ST := Lib.hid (ST.out.below hb1); have ER := Lib.hid (ER.out.below hb1)
  have B := Lib.hid hb1
  clear hv1 hb1 hlen
  go_upto_region 4 with fail
  clear c0b
  by_cases hM : Cal.monthB y m = false
  · have E := Lib.hid (show errV (marksE y m []) = .iface 108 (.int .i64 1) by rw [marksE_nil, if_pos hM]; rfl)
    have HM := Lib.hid hM
    clear hM
    go_wp2_with fail
    refine (leaf_any y m _ MW.out).mono ?_; rintro e w2 ⟨v2, rfl, hv2, hb2⟩
    rw [E.out]
    have B := Lib.hid (B.out.trans (hb2.mono B.out.size))
    clear hv2 hb2
    go_wp2_with fail
    refine (rdays_no y m _ HM.out).mono ?_; rintro e w3 ⟨rfl, rfl⟩
    go_wp2
    go_ret
    exact ⟨rfl, B.out⟩
  have e1 : marksE y m [] = 0 := by rw [marksE_nil, if_neg hM]
  have E := Lib.hid (show errV (marksE y m []) = .nilIface by rw [e1]; rfl)
  have hM2 : Cal.monthB y m = true := by simpa using hM
  have hdt : Cal.dateB y m 1 = true := Cal.date_mk hM2 (by omega) (by have := Cal.dim_bd y m; omega)
  have hn := (Cal.num_bd hdt).2.2
  have hnm : Cal.num y m 1 + Cal.dim y m ≤ 109574 := by
    have h9 := (Cal.num_bd (Cal.date_mk (d := Cal.dim y m) hM2 (by have := Cal.dim_bd y m; omega) (Int.le_refl _))).2.2.2
    unfold Cal.num at h9 ⊢; omega
  have hdb := Cal.dim_bd y m
  have ML := Lib.hid (marksL_ok e1)
  have HM := Lib.hid hM2; have HD := Lib.hid hdt
  obtain ⟨sz, hsz⟩ : ∃ s, s = Cal.dim y m := ⟨_, rfl⟩
  obtain ⟨fi, hfi⟩ : ∃ s, s = Cal.num y m 1 := ⟨_, rfl⟩
  rw [← hsz] at hdb ML; rw [← hfi] at hn ML; rw [← hsz, ← hfi] at hnm
  obtain ⟨f1, f2⟩ := hn
  obtain ⟨s1, s2⟩ := hdb
  have SZ := Lib.hid hsz; have FI := Lib.hid hfi
  obtain ⟨mo, hmo⟩ : ∃ m, m = Cal.mondayI fi := ⟨_, rfl⟩
  have MO := Lib.hid hmo
  have m1 : fi - 6 ≤ mo ∧ mo ≤ fi ∧ (mo - 1) % 7 = 0 := by rw [hmo, Cal.mondayI]; omega
  obtain ⟨m1, m2, m3⟩ := m1
  obtain ⟨N, hN⟩ : ∃ N, N = rowsN fi sz := ⟨_, rfl⟩
  have NB := rowsN_bd f1 s1 s2
  rw [← hN] at NB
  obtain ⟨N1, N2⟩ := NB
  have RL := Lib.hid (show ∀ j : Nat, j < N ↔ mo + 7 * (j : Int) < fi + sz by intro j; rw [hN, hmo]; exact rows_lt f1 s1 j)
  have NN := Lib.hid hN
  have M3 := Lib.hid m3
  clear hM hM2 hdt hsz hfi e1 hmo hN m3
  go_wp2_with fail
  refine (leaf_any y m _ MW.out).mono ?_; rintro e w2 ⟨v2, rfl, hv2, hb2⟩
  rw [E.out]
  rw [ML.out] at hv2
  have MW := Lib.hid (MW.out.below hb2); have PT := Lib.hid (PT.out.below hb2); have ST := Lib.hid (ST.out.below hb2); have ER := Lib.hid (ER.out.below hb2)
  have B := Lib.hid (B.out.trans (hb2.mono B.out.size))
  have V2 := Lib.hid hv2
  clear hb2
  obtain ⟨a2, c2, rfl, -, k2, -⟩ := strsR_open hv2
  unfold maxLen at k2
  have hlen : (leafL fi sz []).length = N := by rw [leafL_len]; exact NN.out.symm
  rw [hlen] at V2 ⊢
  clear hv2 hlen
  go_wp2_with fail
  refine (days_yes y m _ MW.out HM.out).mono ?_; rintro e w3 ⟨rfl, rfl⟩
  rw [← SZ.out]
  go_wp2_with fail
  refine (of_yes y m 1 _ MW.out HD.out).mono ?_; rintro e w3 ⟨rfl, hb3⟩
  rw [← FI.out]
  have MW := Lib.hid (MW.out.below hb3); have PT := Lib.hid (PT.out.below hb3); have ST := Lib.hid (ST.out.below hb3); have ER := Lib.hid (ER.out.below hb3)
  have V3 := Lib.hid (V2.out.below hb3)
  have B := Lib.hid (B.out.trans (hb3.mono B.out.size))
  clear hb3 V2
  go_wp2
  go_loopg [12, 13] N (fun g xv iv wr => ∃ (i : Nat) (x : Int), iv = .int .i64 i ∧ xv = .int .i64 x ∧ Hid (x = nextD fi sz (mo + 7 * (i : Int))) ∧ i ≤ N ∧ g = N - i ∧ Below w3.heap.size w3 wr)
  case atStart => exact ⟨0, 1, rfl, rfl, Lib.hid (by rw [nextD]; simp; omega), Nat.zero_le _, rfl, Below.refl _ _⟩
  case round =>
    obtain ⟨i, x, rfl, rfl, XE, hi, hg, hb⟩ := hrel
    have G := Lib.hid hg; have BW := Lib.hid hb
    clear hg hb
    have x1 : 1 ≤ x ∧ x ≤ 32 := by have := XE.out; unfold nextD at this; omega
    obtain ⟨x1, x2⟩ := x1
    have i1 : (0 : Int) ≤ (i : Int) := Int.natCast_nonneg _
    by_cases hlt : i < N
    · have hlt2 : (i : Int) < (N : Int) := by omega
      obtain ⟨wo, rfl⟩ : ∃ wo, wo = wr := ⟨_, rfl⟩
      go_wp2
      go_loopg [12, 14] 7 (fun g xv kv wx => ∃ (k : Nat) (x : Int), kv = .int .i64 k ∧ xv = .int .i64 x ∧ Hid (x = nextD fi sz (mo + 7 * (i : Int) + (k : Int))) ∧ k ≤ 7 ∧ g = 7 - k ∧ Below wo.heap.size wo wx)
      case atStart => exact ⟨0, x, rfl, rfl, Lib.hid (by rw [XE.out]; simp), by omega, rfl, Below.refl _ _⟩
      case round =>
        obtain ⟨k, z, rfl, rfl, ZE, hk, hg, hb⟩ := hrel
        have G2 := Lib.hid hg
        have BX := Lib.hid (BW.out.trans (hb.mono BW.out.size))
        have BO := Lib.hid hb
        clear hg hb
        have k1 : (0 : Int) ≤ (k : Int) := Int.natCast_nonneg _
        have z1 : 1 ≤ z ∧ z ≤ 32 := by have := ZE.out; unfold nextD at this; omega
        obtain ⟨z1, z2⟩ := z1
        by_cases hk7 : k < 7
        · have hk72 : (k : Int) < 7 := by omega
          obtain ⟨q, hq⟩ : ∃ q, q = mo + 7 * (i : Int) + (k : Int) := ⟨_, rfl⟩
          have QE := Lib.hid hq
          have hqb : fi - 6 ≤ q ∧ q ≤ fi + sz + 7 := by have := (RL.out i).1 hlt; omega
          obtain ⟨qb1, qb2⟩ := hqb
          have CL := cellF_leaf (D := []) s2 (i := i) (k := k) (by rw [← NN.out]; exact hlt) hk7 (fi := fi)
          rw [← MO.out, ← hq] at CL
          obtain ⟨CY, CN⟩ := cellQ_leaf (fi := fi) (q := q) (D := []) s2
          by_cases hin : fi ≤ q ∧ q < fi + sz
          · have zq : z = q - fi + 1 := by have := ZE.out; unfold nextD at this; omega
            have C1 := Lib.hid (show cellF (leafL fi sz []) (i : Int) (k : Int) = (z, 0) by rw [CL, CY hin, zq])
            have ZN := Lib.hid (show z + 1 = nextD fi sz (mo + 7 * (i : Int) + ((k + 1 : Nat) : Int)) by have := QE.out; unfold nextD; push_cast; omega)
            have WD := Lib.hid (show (fi + z - 1 - 1) % 7 + 1 = (k : Int) + 1 by have := M3.out; have := QE.out; omega)
            have g1 : 1 ≤ fi + z - 1 := by omega
            have g2 : fi + z - 1 ≤ 109573 := by omega
            clear CL CY CN hq hin zq qb1 qb2
            go_wp2_with fail
            refine (mcell_any _ (leafL fi sz []) i k _ (V3.out.below BX.out) (PT.out.below BX.out) (ST.out.below BX.out)).mono ?_; rintro e w4 ⟨rfl, hb4⟩
            rw [C1.out, show errV ((z, 0) : Int × Int).2 = .nilIface from rfl]
            have BY := Lib.hid (BO.out.trans (hb4.mono BO.out.size))
            clear hb4
            go_wp2_with fail
            refine (weekday_yes (fi + z - 1) _ g1 g2).mono ?_; rintro e w5 ⟨rfl, rfl⟩
            rw [WD.out]
            go_wp2
            go_roundg (7 - (k + 1))
            case measure => rw [G2.out]; omega
            case rel => exact ⟨k + 1, z + 1, by go_num, rfl, ZN, by omega, rfl, BY.out⟩
          · have C1 := Lib.hid (CL.trans (CN hin rfl))
            have zq : z = nextD fi sz q := by rw [hq]; exact ZE.out
            have ZN := Lib.hid (show z = nextD fi sz (mo + 7 * (i : Int) + ((k + 1 : Nat) : Int)) by have := QE.out; unfold nextD at zq ⊢; push_cast; omega)
            have tt : decide (1 < z) = false ∨ (decide (1 < z) = true ∧ decide (z ≤ sz) = false) := by
              simp only [decide_eq_true_eq, decide_eq_false_iff_not]; unfold nextD at zq; omega
            clear CL CY CN hq hin zq qb1 qb2
            rcases tt with t1 | ⟨t1, t2⟩
            all_goals
              go_wp2_with fail
              refine (mcell_any _ (leafL fi sz []) i k _ (V3.out.below BX.out) (PT.out.below BX.out) (ST.out.below BX.out)).mono ?_; rintro e w4 ⟨rfl, hb4⟩
              rw [C1.out, show errV ((0, 5) : Int × Int).2 = .iface 108 (.int .i64 5) from rfl]
              have BY := Lib.hid (BO.out.trans (hb4.mono BO.out.size))
              have EY := Lib.hid ((ER.out.below BX.out).below hb4)
              clear hb4
              go_wp2_with fail
              refine (error_same 5 _ EY.out).mono ?_; rintro e w5 ⟨rfl, hb5⟩
              have BZ := Lib.hid (BY.out.trans (hb5.mono BY.out.size))
              clear hb5
              go_wp2
              go_roundg (7 - (k + 1))
              case measure => rw [G2.out]; omega
              case rel => exact ⟨k + 1, z, by go_num, rfl, ZN, by omega, rfl, BZ.out⟩
        · obtain rfl : k = 7 := by omega
          have t1 : decide ((7 : Int) < 7) = false := rfl
          have XN := Lib.hid (show z = nextD fi sz (mo + 7 * ((i + 1 : Nat) : Int)) by rw [ZE.out]; congr 1; push_cast; omega)
          go_wp2
          go_roundg (N - (i + 1))
          case measure => rw [G.out]; omega
          case rel => exact ⟨i + 1, z, by go_num, rfl, XN, by omega, rfl, BX.out⟩
    · obtain rfl : i = N := by omega
      have XN : x = sz + 1 := by
        have := XE.out; have h := mt (RL.out i).2 hlt; unfold nextD at this; omega
      obtain rfl := XN
      go_wp2
      go_ret
      exact ⟨rfl, B.out.trans (BW.out.mono B.out.size)⟩

end Go.Proofs.YtdkcgggnkhbkkaaDoor
