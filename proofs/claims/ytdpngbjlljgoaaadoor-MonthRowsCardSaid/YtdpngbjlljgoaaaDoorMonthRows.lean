/- The contract of month.Leaf; the law MonthRows: a leaf has as many lines as the month touches weeks, each as long: the walk. Condition: the table of months lies as it is laid. -/
import Derived.Test.YtdpngbjlljgoaaaDoorMonA
import Derived.Deep.DeepCutAuto
import Derived.Deep.CutBlock
import Derived.Outline
namespace Go.Proofs.YtdpngbjlljgoaaaDoor
open Go.RowKit Go.Shelf
set_option linter.unusedSimpArgs false
set_option linter.unusedVariables false

theorem marksE_nil (y m : Int) : marksE y m [] = if Cal.monthB y m = false then 1 else 0 := by
  unfold marksE
  by_cases h : Cal.monthB y m = false
  · rw [if_pos h, if_pos h]
  · rw [if_neg h, if_neg h, if_neg (by simp), if_neg (by simp), if_neg (by rw [risesB_yes List.Pairwise.nil]; decide)]

theorem marksL_ok {y m : Int} {D : List Int} (h : marksE y m D = 0) : marksL y m D = leafL (Cal.num y m 1) (Cal.dim y m) D := by rw [marksL, if_pos h]

set_option maxHeartbeats 1000000 in
theorem leaf_any (y m : Int) (w : World) (hw : Months w) :
    Calls Tryd.prog 33 #[.int .i64 y, .int .i64 m] w (MarksP y m [] w) := by
  have hk := marks_any y m (.slice none 0 0) [] w hw (intsR_nil w)
  have HK := Lib.hid hk; clear hk hw
  go_enter Tryd.func33, Tryd.ntmps33
  go_wp2_with fail
  refine HK.out.mono ?_; rintro e w1 ⟨v, rfl, hv, hb⟩
  obtain ⟨E, hE⟩ : ∃ E, E = errV (marksE y m []) := ⟨_, rfl⟩
  rw [← hE]
  have EE := Lib.hid hE; have V := Lib.hid hv; have B := Lib.hid hb
  clear hE hv hb
  go_wp2
  refine bodyPost_ret (results_tmp2 rfl _ _ _) rfl ?_
  exact ⟨v, by rw [← EE.out]; rfl, V.out, B.out⟩

theorem leafL_len (fi sz : Int) (D : List Int) : (leafL fi sz D).length = rowsN fi sz := leafTo_len ..

theorem leafL_row {fi sz : Int} {D : List Int} (h : sz ≤ 31) {k : Nat} (hk : k < (leafL fi sz D).length) : (leafL fi sz D)[k].length = 21 := by
  simp only [leafL, leafTo, List.getElem_map]
  rw [rowTo_len h]

set_option maxRecDepth 100000 in
set_option maxHeartbeats 2000000 in
theorem monthRows_any (y m : Int) (w : World) (hw : Months w) (_ : (Lit.int .i64 y).wf = true) (_ : (Lit.int .i64 m).wf = true) :
    Calls Tryd.prog 6 #[.int .i64 y, .int .i64 m] w fun e w' => e = .returned (.bool true) ∧ Below w.heap.size w w' := by
  have e0 : marksE 2027 2 [] = 0 := by rw [marksE_nil]; decide
  have E0 := Lib.hid e0
  have L0 := Lib.hid (show (marksL 2027 2 []).length = 4 by rw [marksL_ok e0, leafL_len]; decide)
  have MW := Lib.hid hw
  clear e0 hw
  go_enter Tryd.func6, Tryd.ntmps6
  go_wp2_with fail
  refine (leaf_any 2027 2 _ MW.out).mono ?_; rintro e w1 ⟨v1, rfl, hv1, hb1⟩
  obtain ⟨a1, c1, rfl, -, -, -⟩ := strsR_open hv1
  rw [E0.out, L0.out, errV_0]
  have MW := Lib.hid (MW.out.below hb1)
  have B := Lib.hid hb1
  clear hv1 hb1
  by_cases hM : Cal.monthB y m = false
  · have E := Lib.hid (show errV (marksE y m []) = .iface 113 (.int .i64 1) by rw [marksE_nil, if_pos hM]; rfl)
    have hno := Cal.month_no hM
    clear hM
    go_wp2_with fail
    refine (leaf_any y m _ MW.out).mono ?_; rintro e w2 ⟨v2, rfl, hv2, hb2⟩
    rw [E.out]
    have B := Lib.hid (B.out.trans (hb2.mono B.out.size))
    clear hv2 hb2
    have hh : decide (y < 1900) = true ∨ (decide (y < 1900) = false ∧ decide (2199 < y) = true) ∨ (decide (y < 1900) = false ∧ decide (2199 < y) = false ∧ decide (m < 1) = true) ∨ (decide (y < 1900) = false ∧ decide (2199 < y) = false ∧ decide (m < 1) = false ∧ decide (12 < m) = true) := by
      simp only [decide_eq_true_eq, decide_eq_false_iff_not]; omega
    clear hno
    rcases hh with t1 | ⟨t1, t2⟩ | ⟨t1, t2, t3⟩ | ⟨t1, t2, t3, t4⟩
    all_goals
      go_wp2
      go_ret
      exact ⟨rfl, B.out⟩
  · have e1 : marksE y m [] = 0 := by rw [marksE_nil, if_neg hM]
    have E := Lib.hid (show errV (marksE y m []) = .nilIface by rw [e1]; rfl)
    have hM2 : Cal.monthB y m = true := by simpa using hM
    have hdt : Cal.dateB y m 1 = true := Cal.date_mk hM2 (by omega) (by have := Cal.dim_bd y m; omega)
    have hn := (Cal.num_bd hdt).2.2
    have hdb := Cal.dim_bd y m
    have hrb := rowsN_bd hn.1 hdb.1 hdb.2
    obtain ⟨L, hL⟩ : ∃ L, L = marksL y m [] := ⟨_, rfl⟩
    have hlen : 4 ≤ L.length ∧ L.length ≤ 6 := by rw [hL, marksL_ok e1, leafL_len]; exact hrb
    have RW := Lib.hid (show ∀ k (hk : k < L.length), L[k].length = 21 by
      rw [hL, marksL_ok e1]; exact fun k hk => leafL_row hdb.2 hk)
    have LE := Lib.hid hL
    obtain ⟨l1, l2⟩ := hlen
    clear e1 hM hM2 hdt hn hdb hrb hL
    go_wp2_with fail
    refine (leaf_any y m _ MW.out).mono ?_; rintro e w2 ⟨v2, rfl, hv2, hb2⟩
    rw [E.out]
    rw [← LE.out] at hv2
    obtain ⟨a2, c2, rfl, -, k2, hcell⟩ := strsR_open hv2
    unfold maxLen at k2
    have HC := Lib.hid hcell
    have B := Lib.hid (B.out.trans (hb2.mono B.out.size))
    clear hv2 hb2 hcell
    have t1 : decide ((4 : Int) ≤ (L.length : Int)) = true := decide_eq_true (by omega)
    have t1b : decide (4 ≤ L.length) = true := decide_eq_true l1
    have t2 : decide ((L.length : Int) ≤ 6) = true := decide_eq_true (by omega)
    have t2b : decide (L.length ≤ 6) = true := decide_eq_true l2
    go_wp2
    go_loopg [9] L.length (fun g iv wr => ∃ k n : Nat, k ≤ L.length ∧ iv = .int .i64 k ∧ g = L.length - k ∧ wr = w2.drewN n)
    case atStart => exact ⟨0, 0, Nat.zero_le _, rfl, rfl, rfl⟩
    case round =>
      obtain ⟨k, n, hk, rfl, hg, rfl⟩ := hrel
      have G := Lib.hid hg; clear hg
      by_cases hlt : k < L.length
      · obtain ⟨b1, off1, rfl, hcs⟩ := HC.out (by omega)
        have c0 := hcs k hlt
        obtain ⟨x, hx⟩ : ∃ x, x = bs L[k] := ⟨_, rfl⟩
        rw [← hx] at c0
        have xz : ((x.size : Int) == 21) = true := by rw [beq_iff_eq, hx, bs_size, RW.out k hlt]; rfl
        have xz2 : ((x.size : Int) != 21) = false := by simp [bne, xz]
        clear hcs hx
        have i1 : (0 : Int) ≤ (k : Int) := Int.natCast_nonneg _
        have i2 : (k : Int) < (L.length : Int) := by omega
        go_wp2
        go_roundg (L.length - (k + 1))
        case measure => rw [G.out]; omega
        case rel => exact ⟨k + 1, _, by omega, by go_num, rfl, rfl⟩
      · obtain rfl : k = L.length := by omega
        go_wp2
        go_ret
        exact ⟨rfl, B.out.trans (below_drewN (Below.refl _ _) _)⟩

end Go.Proofs.YtdpngbjlljgoaaaDoor
