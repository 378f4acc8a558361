/- The contracts of strings.Repeat at a blank and of strconv.Itoa at small numbers, of month.Marks and month.Leaf. Condition: the table of months lies as it is laid. -/
import Derived.Test.YtdkcgggnkhbkkaaGreatDoorMonM
import Derived.Test.YtdkcgggnkhbkkaaGreatDoorShMonth
import Derived.Test.YtdkcgggnkhbkkaaGreatDoorLineB
import Derived.Test.YtdkcgggnkhbkkaaGreatDoorWeekA
import Derived.Test.YtdkcgggnkhbkkaaGreatDoorRuleB
import Derived.Test.YtdkcgggnkhbkkaaGreatDoorPerE
namespace Go.Proofs.YtdkcgggnkhbkkaaGreatDoor
open Go.RowKit Go.Shelf
set_option linter.unusedSimpArgs false
set_option linter.unusedVariables false

theorem itoa_sm (x : Int) (w : World) (h0 : 0 ≤ x) (h1 : x < 100) :
    Calls Tryz.prog 78 #[.int .i64 x] w fun e w' => e = .returned (.string (bs (Lib.decDigits x.toNat))) ∧ w = w' := by
  have h := Tryz.strconv_Itoa_small x.toNat (by omega) w
  rw [show ((x.toNat : Nat) : Int) = x by omega] at h
  exact h.mono fun e w' ⟨h1, h2⟩ => ⟨h1, h2.symm⟩

set_option maxRecDepth 100000 in
set_option maxHeartbeats 2000000 in
theorem rep_two (w : World) : Calls Tryz.prog 90 #[.string { data := #[32] }, .int .i64 2] w fun e w' => e = .returned (.string (bs [32, 32])) ∧ w = w' := by
  have hm := Tryz.bits_Mul 1 2 (by decide) (by decide) w
  have hp := fun s w => Tryz.strings_HasPrefix s { data := #[32] } w
  go_enter Tryz.func90, Tryz.ntmps90
  go_wp2_with fail
  refine hm.mono ?_; rintro e w1 ⟨rfl, h1⟩
  subst h1
  go_wp2_with fail
  refine (hp _ _).mono ?_; rintro e w2 ⟨rfl, h2⟩
  subst h2
  go_wp2
  go_ret
  exact ⟨rfl, rfl⟩

set_option maxRecDepth 100000 in
theorem rep_any (x : Int) (w : World) (h0 : 0 ≤ x) (h1 : x ≤ 2) :
    Calls Tryz.prog 90 #[.string { data := #[32] }, .int .i64 x] w fun e w' => e = .returned (.string (bs (List.replicate x.toNat 32))) ∧ w = w' := by
  obtain rfl | rfl | rfl : x = 0 ∨ x = 1 ∨ x = 2 := by omega
  · go_enter Tryz.func90, Tryz.ntmps90
    go_wp2
    go_ret
    exact ⟨rfl, rfl⟩
  · go_enter Tryz.func90, Tryz.ntmps90
    go_wp2
    go_ret
    exact ⟨rfl, rfl⟩
  · exact rep_two w

/-- is a day none of a month? -/
def outM (fi sz n : Int) : Bool := decide (n < fi) || decide (fi + sz ≤ n)

theorem outM_pred (fi sz : Int) (b1 b2 : Nat) (w : World) (h1 : 1 ≤ fi) (h2 : fi ≤ 109573) (h3 : 28 ≤ sz) (h4 : sz ≤ 31) (c1 : w.cell? ⟨b1, 0, none⟩ = some (.int .i64 fi)) (c2 : w.cell? ⟨b2, 0, none⟩ = some (.int .i64 sz)) :
    PredAt Tryz.prog 86 #[.pointer (some ⟨b1, 0, none⟩), .pointer (some ⟨b2, 0, none⟩)] (Value.int .i64) (outM fi sz) w := fun W n hb => by
  show Calls Tryz.prog 86 #[.int .i64 n, .pointer (some ⟨b1, 0, none⟩), .pointer (some ⟨b2, 0, none⟩)] W _
  have d1 := cell_below hb c1
  have d2 := cell_below hb c2
  clear c1 c2 hb
  by_cases g1 : n < fi
  · have e : outM fi sz n = true := by simp [outM, g1]
    have t : decide (n < fi) = true := decide_eq_true g1
    rw [e]; clear e g1
    go_enter Tryz.func86, Tryz.ntmps86
    go_wp2
    go_ret
    exact ⟨rfl, 0, rfl⟩
  · by_cases g2 : fi + sz ≤ n
    · have e : outM fi sz n = true := by simp [outM, g2]
      have t : decide (n < fi) = false := decide_eq_false g1
      have t2 : decide (fi + sz ≤ n) = true := decide_eq_true g2
      rw [e]; clear e g1 g2
      go_enter Tryz.func86, Tryz.ntmps86
      go_wp2
      go_ret
      exact ⟨rfl, 0, rfl⟩
    · have e : outM fi sz n = false := by simp [outM]; omega
      have t : decide (n < fi) = false := decide_eq_false g1
      have t2 : decide (fi + sz ≤ n) = false := decide_eq_false g2
      rw [e]; clear e g1 g2
      go_enter Tryz.func86, Tryz.ntmps86
      go_wp2
      go_ret
      exact ⟨rfl, 0, rfl⟩

theorem contM_any (fi sz : Int) (b1 b2 : Nat) (v : Value) (D : List Int) (w : World) (hD : IntsR w v D) (h1 : 1 ≤ fi) (h2 : fi ≤ 109573) (h3 : 28 ≤ sz) (h4 : sz ≤ 31) (c1 : w.cell? ⟨b1, 0, none⟩ = some (.int .i64 fi)) (c2 : w.cell? ⟨b2, 0, none⟩ = some (.int .i64 sz)) :
    Calls Tryz.prog 51 #[v, .func (.func 86) #[] #[.pointer (some ⟨b1, 0, none⟩), .pointer (some ⟨b2, 0, none⟩)]] w fun e w' => e = .returned (.bool (D.any (outM fi sz))) ∧ Below w.heap.size w w' := by
  obtain ⟨a, cap, rfl, k1, k2, hc⟩ := intsR_open hD
  by_cases h0 : D.length = 0
  · have : D = [] := List.length_eq_zero_iff.1 h0
    subst this
    exact (Tryz.slices_ContainsFunc_empty (α := Int) a cap _ w).mono fun e w' ⟨e1, e2⟩ => ⟨e1, by rw [e2]; exact Below.refl _ _⟩
  · obtain ⟨b, off, rfl, hcs⟩ := hc (by omega)
    have eg : ∀ args w, (callFunc 86 args).run Tryz.prog w = .ok (.enter 86 args) w := enters_of Tryz.func86 (by kernel_rfl) rfl
    refine (Tryz.slices_ContainsFunc (α := Int) (Value.int .i64) (outM fi sz) 86 _ eg b off D.length cap D w (outM_pred fi sz b1 b2 w h1 h2 h3 h4 c1 c2) (Nat.le_refl _) (by unfold maxLen at k2; omega) (fun j hj => by rw [hcs j hj]; simp [hj])).mono ?_
    rintro e w' ⟨rfl, q, rfl⟩
    exact ⟨by rw [List.take_length], below_drewN (Below.refl _ _) _⟩

/-- what is wrong with marks. -/
def marksE (y m : Int) (D : List Int) : Int :=
  if Cal.monthB y m = false then 1 else if 100 < D.length then 4 else if D.any (outM (Cal.num y m 1) (Cal.dim y m)) = true then 1 else if risesB D = false then 7 else 0

/-- a leaf with marks; none where something is wrong. -/
def marksL (y m : Int) (D : List Int) : List (List UInt8) := if marksE y m D = 0 then leafL (Cal.num y m 1) (Cal.dim y m) D else []

def MarksP (y m : Int) (D : List Int) (w : World) (e : Ending) (w' : World) : Prop :=
  ∃ v, e = .returned (.tuple #[v, errV (marksE y m D)]) ∧ StrsR w' v (marksL y m D) ∧ Below w.heap.size w w'

theorem strsR_nil (w : World) : StrsR w (.slice none 0 0) [] := reads_nil w 1

theorem marks_err {y m : Int} {D : List Int} {w w' : World} {c : Int} (h : marksE y m D = c) (hc : c ≠ 0) (hb : Below w.heap.size w w') : MarksP y m D w (.returned (.tuple #[.slice none 0 0, .iface 80 (.int .i64 c)])) w' :=
  ⟨_, by rw [h, errV, if_neg hc], by rw [marksL, h, if_neg hc]; exact strsR_nil w', hb⟩

set_option maxRecDepth 100000 in
set_option maxHeartbeats 8000000 in
theorem marks_any (y m : Int) (vd : Value) (D : List Int) (w : World) (hw : Months w) (hD : IntsR w vd D) :
    Calls Tryz.prog 37 #[.int .i64 y, .int .i64 m, vd] w (MarksP y m D w) := by
  obtain ⟨i0, hi0, hz0, hz1, hz2⟩ := info_parts stringInfo
  obtain ⟨ad, kd, rfl, k1, k2, -⟩ := intsR_open hD
  unfold maxLen at k2
  have IR := Lib.hid hD; clear hD
  by_cases hM : Cal.monthB y m = false
  · have E := Lib.hid (show marksE y m D = 1 by rw [marksE, if_pos hM])
    have HM := Lib.hid hM; clear hM
    go_enter Tryz.func37, Tryz.ntmps37
    go_wp2_with fail
    refine (days_no y m _ HM.out).mono ?_; rintro e w1 ⟨rfl, rfl⟩
    go_wp2
    go_ret2
    exact marks_err E.out (by decide) ((Below.refl _ _).alloc (Nat.le_refl _) _)
  have hM2 : Cal.monthB y m = true := by simpa using hM
  have hdt : Cal.dateB y m 1 = true := Cal.date_mk hM2 (by omega) (by have := Cal.dim_bd y m; omega)
  have hn := (Cal.num_bd hdt).2.2
  have hdb := Cal.dim_bd y m
  have MN := Lib.hid (show Cal.monthB y m = false → False from hM)
  have HM := Lib.hid hM2; have HD := Lib.hid hdt; have MW := Lib.hid hw
  obtain ⟨sz, hsz⟩ : ∃ s, s = Cal.dim y m := ⟨_, rfl⟩
  obtain ⟨fi, hfi⟩ : ∃ s, s = Cal.num y m 1 := ⟨_, rfl⟩
  rw [← hsz] at hdb; rw [← hfi] at hn
  obtain ⟨f1, f2⟩ := hn
  obtain ⟨s1, s2⟩ := hdb
  have SZ := Lib.hid hsz; have FI := Lib.hid hfi
  clear hM hM2 hdt hsz hfi hw
  go_enter Tryz.func37, Tryz.ntmps37
  go_wp2_with fail
  refine (days_yes y m _ MW.out HM.out).mono ?_; rintro e w1 ⟨rfl, rfl⟩
  rw [← SZ.out]
  go_wp2_with fail
  refine (of_yes y m 1 _ (MW.out.alloc _) HD.out).mono ?_; rintro e w2 ⟨rfl, hb2⟩
  rw [← FI.out]
  have B2 := Lib.hid (((Below.refl w.heap.size w).alloc (Nat.le_refl _) (.cells #[.int .i64 sz] 3)).trans (hb2.mono (by simp)))
  have d8 : w2.cell? ⟨w.heap.size, 0, none⟩ = some (.int .i64 sz) := cell_below hb2 (by simp)
  have h28 : w.heap.size < w2.heap.size := by have := hb2.size; simp at this; omega
  clear hb2
  obtain ⟨b8, hb8⟩ : ∃ b, b = w.heap.size := ⟨_, rfl⟩
  rw [← hb8] at d8 h28
  have H8 := Lib.hid hb8
  obtain ⟨w3, hw3⟩ : ∃ w3, w3 = w2.alloc (.cells #[.int .i64 fi] 3) := ⟨_, rfl⟩
  obtain ⟨b10, hb10⟩ : ∃ b, b = w2.heap.size := ⟨_, rfl⟩
  have d10 : w3.cell? ⟨b10, 0, none⟩ = some (.int .i64 fi) := by rw [hw3, hb10]; simp
  have d8 : w3.cell? ⟨b8, 0, none⟩ = some (.int .i64 sz) := by rw [hw3, World.cell?_alloc_lt _ _ ⟨b8, 0, none⟩ h28]; exact d8
  have B3 := Lib.hid (show Below w.heap.size w w3 by rw [hw3]; exact B2.out.alloc B2.out.size _)
  have IR3 := Lib.hid (IR.out.below B3.out)
  have W3 := Lib.hid hw3; have B10 := Lib.hid hb10
  clear hb8 hw3 hb10 h28 B2
  by_cases hl : 100 < D.length
  · have E := Lib.hid (show marksE y m D = 4 by rw [marksE, if_neg MN.out, if_pos hl])
    have t1 : decide ((100 : Int) < (D.length : Int)) = true := decide_eq_true (by omega)
    have t2 : decide (100 < D.length) = true := decide_eq_true hl
    clear hl
    go_wp2
    go_ret2
    rw [← W3.out]
    exact marks_err E.out (by decide) B3.out
  have t1 : decide ((100 : Int) < (D.length : Int)) = false := decide_eq_false (by omega)
  have t2 : decide (100 < D.length) = false := decide_eq_false hl
  by_cases ho : D.any (outM fi sz) = true
  · have E := Lib.hid (show marksE y m D = 1 by rw [marksE, if_neg MN.out, if_neg hl, ← FI.out, ← SZ.out, if_pos ho])
    have HO := Lib.hid ho
    clear hl ho
    go_wp2_with fail
    rw [← W3.out, ← B10.out, ← H8.out]
    refine (contM_any fi sz b10 b8 _ D _ IR3.out f1 f2 s1 s2 d10 d8).mono ?_; rintro e w4 ⟨rfl, hb4⟩
    rw [HO.out]
    have B4 := Lib.hid (B3.out.trans (hb4.mono B3.out.size)); clear hb4
    go_wp2
    go_ret2
    exact marks_err E.out (by decide) B4.out
  have HO := Lib.hid (show D.any (outM fi sz) = false by simpa using ho)
  go_wp2_with fail
  rw [← W3.out, ← B10.out, ← H8.out]
  refine (contM_any fi sz b10 b8 _ D _ IR3.out f1 f2 s1 s2 d10 d8).mono ?_; rintro e w4 ⟨rfl, hb4⟩
  rw [HO.out]
  have B4 := Lib.hid (B3.out.trans (hb4.mono B3.out.size))
  have IR4 := Lib.hid (IR3.out.below hb4)
  have C10 := Lib.hid (cell_below hb4 d10)
  have C8 := Lib.hid (cell_below hb4 d8)
  clear hb4 d10 d8
  by_cases hr : risesB D = false
  · have E := Lib.hid (show marksE y m D = 7 by rw [marksE, if_neg MN.out, if_neg hl, ← FI.out, ← SZ.out, if_neg ho, if_pos hr])
    have HR := Lib.hid hr
    clear hl ho hr t1 t2
    go_wp2
    go_loopg [11] (D.length - 1) (fun g iv wr => ∃ (k n : Nat), 1 ≤ k ∧ iv = .int .i64 k ∧ g = D.length - k ∧ (k ≤ D.length ∨ k = 1) ∧ Hid ((D.take k).Pairwise (· < ·)) ∧ wr = w4.drewN n)
    case atStart => exact ⟨1, 0, Nat.le_refl _, rfl, rfl, .inr rfl, Lib.hid (by cases D <;> simp), rfl⟩
    case round =>
      obtain ⟨k, n, hk1, rfl, hg, hk2, PW, rfl⟩ := hrel
      have G := Lib.hid hg; clear hg
      by_cases hlt : k < D.length
      · obtain ⟨a9, c9, e9, _, _, hds⟩ := intsR_open IR4.out
        obtain ⟨b1, off1, e8, hcs⟩ := hds (by omega)
        cases e9; subst e8
        have u0 := hcs k hlt
        have u1 := hcs (k - 1) (by omega)
        obtain ⟨x, hx⟩ : ∃ x, x = D[k] := ⟨_, rfl⟩
        obtain ⟨z, hz⟩ : ∃ z, z = D[k - 1] := ⟨_, rfl⟩
        rw [← hx] at u0; rw [← hz] at u1
        have X := Lib.hid hx; have Z := Lib.hid hz
        clear hcs hds hx hz
        have i1 : (0 : Int) ≤ (k : Int) - 1 := by omega
        have i1b : (1 : Int) ≤ (k : Int) := by omega
        have i2 : (k : Int) < (D.length : Int) := by omega
        have i2b : (k : Int) - 1 < (D.length : Int) := by omega
        have i3 : IntKind.i64.wrap ((k : Int) - 1) = (k : Int) - 1 := IntWalk.i64_in _ (by omega)
        have i4 : ((k : Int) - 1).toNat = k - 1 := by omega
        by_cases hxz : x ≤ z
        · have j1 : decide (x ≤ z) = true := decide_eq_true hxz
          clear hxz
          go_wp2
          go_quiet (fail)
          go_wp2
          go_ret2
          exact marks_err E.out (by decide) (B4.out.trans (below_drewN (Below.refl _ _) _))
        · have j1 : decide (x ≤ z) = false := decide_eq_false hxz
          have NX := Lib.hid (pw_snoc hlt (by omega) PW.out (by rw [← X.out, ← Z.out]; omega))
          clear hxz
          go_wp2
          go_quiet (fail)
          go_wp2
          go_roundg (D.length - (k + 1))
          case measure => rw [G.out]; omega
          case rel => exact ⟨k + 1, _, by omega, by go_num, rfl, .inl (by omega), NX, rfl⟩
      · have PD := Lib.hid (show D.Pairwise (· < ·) by have := PW.out; rwa [List.take_of_length_le (by omega)] at this)
        exact absurd (risesB_yes PD.out) (by rw [HR.out]; decide)
  · have HR := Lib.hid hr
    clear t1 t2
    go_wp2
    go_loopg [11] (D.length - 1) (fun g iv wr => ∃ (k n : Nat), 1 ≤ k ∧ iv = .int .i64 k ∧ g = D.length - k ∧ (k ≤ D.length ∨ k = 1) ∧ Hid ((D.take k).Pairwise (· < ·)) ∧ wr = w4.drewN n)
    case atStart => exact ⟨1, 0, Nat.le_refl _, rfl, rfl, .inr rfl, Lib.hid (by cases D <;> simp), rfl⟩
    case round =>
      obtain ⟨k, n, hk1, rfl, hg, hk2, PW, rfl⟩ := hrel
      have G := Lib.hid hg; clear hg
      by_cases hlt : k < D.length
      · obtain ⟨a9, c9, e9, _, _, hds⟩ := intsR_open IR4.out
        obtain ⟨b1, off1, e8, hcs⟩ := hds (by omega)
        cases e9; subst e8
        have u0 := hcs k hlt
        have u1 := hcs (k - 1) (by omega)
        obtain ⟨x, hx⟩ : ∃ x, x = D[k] := ⟨_, rfl⟩
        obtain ⟨z, hz⟩ : ∃ z, z = D[k - 1] := ⟨_, rfl⟩
        rw [← hx] at u0; rw [← hz] at u1
        have X := Lib.hid hx; have Z := Lib.hid hz
        clear hcs hds hx hz
        have i1 : (0 : Int) ≤ (k : Int) - 1 := by omega
        have i1b : (1 : Int) ≤ (k : Int) := by omega
        have i2 : (k : Int) < (D.length : Int) := by omega
        have i2b : (k : Int) - 1 < (D.length : Int) := by omega
        have i3 : IntKind.i64.wrap ((k : Int) - 1) = (k : Int) - 1 := IntWalk.i64_in _ (by omega)
        have i4 : ((k : Int) - 1).toNat = k - 1 := by omega
        by_cases hxz : x ≤ z
        · have j1 : decide (x ≤ z) = true := decide_eq_true hxz
          exact absurd (risesB_no hlt (by omega) (by rw [← X.out, ← Z.out]; exact hxz)) HR.out
        · have j1 : decide (x ≤ z) = false := decide_eq_false hxz
          have NX := Lib.hid (pw_snoc hlt (by omega) PW.out (by rw [← X.out, ← Z.out]; omega))
          clear hxz
          go_wp2
          go_quiet (fail)
          go_wp2
          go_roundg (D.length - (k + 1))
          case measure => rw [G.out]; omega
          case rel => exact ⟨k + 1, _, by omega, by go_num, rfl, .inl (by omega), NX, rfl⟩
      · have PD := Lib.hid (show D.Pairwise (· < ·) by have := PW.out; rwa [List.take_of_length_le (by omega)] at this)
        have B5 := Lib.hid (B4.out.trans (below_drewN (Below.refl _ _) n))
        have C10 := Lib.hid (cell_below (below_drewN (Below.refl _ w4) n) C10.out)
        have C8 := Lib.hid (cell_below (below_drewN (Below.refl _ w4) n) C8.out)
        have IR5 := Lib.hid (IR4.out.below (below_drewN (Below.refl _ _) n))
        obtain ⟨w5, hw5⟩ : ∃ w5, w5 = w4.drewN n := ⟨_, rfl⟩
        rw [← hw5] at B5 C10 C8 IR5 ⊢
        clear hw5
        have c10 := C10.out
        have c8 := C8.out
        go_wp2_with fail
        refine (monday_any fi _ f1 (by omega)).mono ?_; rintro e w6 ⟨rfl, rfl⟩
        obtain ⟨mo, hmo⟩ : ∃ m, m = Cal.mondayI fi := ⟨_, rfl⟩
        rw [← hmo]
        have MO := Lib.hid hmo
        have m1 : fi - 6 ≤ mo ∧ mo ≤ fi := by rw [hmo, Cal.mondayI]; omega
        obtain ⟨m1, m2⟩ := m1
        clear hmo c10 c8
        obtain ⟨N, hN⟩ : ∃ N, N = rowsN fi sz := ⟨_, rfl⟩
        have NB := rowsN_bd f1 s1 s2
        rw [← hN] at NB
        obtain ⟨N1, N2⟩ := NB
        have RL := Lib.hid (show ∀ j : Nat, j < N ↔ mo + 7 * (j : Int) < fi + sz by intro j; rw [hN, MO.out]; exact rows_lt f1 s1 j)
        have NN := Lib.hid hN; clear hN
        go_wp2
        go_loopg [12, 13] N (fun g ov nv wr => ∃ (j : Nat) (n : Int), nv = .int .i64 n ∧ Hid (n = mo + 7 * (j : Int)) ∧ j ≤ N ∧ g = N - j ∧ wr.ownsRow w5.heap.size 9 1 ov j (strs (leafTo fi sz D j)) ∧ Below w5.heap.size w5 wr)
        case atStart => exact ⟨0, mo, rfl, Lib.hid (by simp), Nat.zero_le _, rfl, World.ownsRow_nil _ _ _ _, Below.refl _ _⟩
        case round =>
          obtain ⟨j, n, rfl, NE, hj, hg, hown, hb⟩ := hrel
          have G := Lib.hid hg
          have n1 : fi - 6 ≤ n ∧ n ≤ fi + sz + 7 := by
            have := NE.out
            by_cases h : j < N
            · have := (RL.out j).1 h; omega
            · have h2 := (RL.out (j - 1)).1 (by omega)
              omega
          obtain ⟨n1, n2⟩ := n1
          have hbs := hb.size
          have c10 := cell_below hb C10.out
          have c8 := cell_below hb C8.out
          by_cases hlt : j < N
          · have z : decide (n < fi + sz) = true := decide_eq_true (by have := NE.out; have := (RL.out j).1 hlt; omega)
            have OW := Lib.hid hown; have BW := Lib.hid hb
            obtain ⟨wo, rfl⟩ : ∃ wo, wo = wr := ⟨_, rfl⟩
            clear hown hb hg
            go_wp2
            clear c10 c8
            go_loopg [15] 7 (fun g kv wx => ∃ (i : Nat) (q : Int), kv = .int .i64 q ∧ Hid (q = n + (i : Int)) ∧ i ≤ 7 ∧ g = 7 - i ∧ BldR wx wo.heap.size wo.heap.size (rowTo fi sz D n i) ∧ Below wo.heap.size wo wx)
            case atStart => exact ⟨0, n, rfl, Lib.hid (by simp), by omega, rfl, bldR_new wo, (Below.refl _ _).alloc (Nat.le_refl _) _⟩
            case round =>
              obtain ⟨i, q, rfl, QE, hi, hg, hI, hb⟩ := hrel
              have G3 := Lib.hid hg; have I := Lib.hid hI; have BX := Lib.hid hb
              have q1 : n ≤ q ∧ q ≤ n + 7 := by have := QE.out; omega
              obtain ⟨q1, q2⟩ := q1
              have hbx := hb.size
              have c10 := cell_below hb (cell_below BW.out C10.out)
              have c8 := cell_below hb (cell_below BW.out C8.out)
              have IRX := Lib.hid ((IR5.out.below BW.out).below hb)
              clear hg hI hb
              by_cases hq : i < 7
              · have zq : decide (q < n + 7) = true := decide_eq_true (by have := QE.out; omega)
                have RS := Lib.hid (rowTo_succ fi sz D n i)
                have RLn := Lib.hid (rowTo_len (fi := fi) (n := n) (D := D) s2 i)
                have TL := Lib.hid (dayT_len (fi := fi) (k := q) s2)
                obtain ⟨T, hT⟩ : ∃ T, T = bs (dayT fi sz q) := ⟨_, rfl⟩
                have TE := Lib.hid hT
                have tz : T.size ≤ 2 := by rw [hT, bs_size]; exact TL.out
                have TZ := Lib.hid (show T.size = (dayT fi sz q).length by rw [hT, bs_size])
                obtain ⟨sg, hsg⟩ : ∃ sg, sg = inB D q := ⟨_, rfl⟩
                have SG := Lib.hid hsg
                clear hT hsg
                by_cases hin : fi ≤ q ∧ q < fi + sz
                · obtain ⟨g1, g2⟩ := hin
                  have t1 : decide (fi ≤ q) = true := decide_eq_true g1
                  have t2 : decide (q < fi + sz) = true := decide_eq_true g2
                  have TI := Lib.hid (show bs (Lib.decDigits (q - fi + 1).toNat) = T by rw [TE.out, dayT, if_pos ⟨g1, g2⟩])
                  go_wp2_with fail
                  refine (itoa_sm (q - fi + 1) _ (by omega) (by omega)).mono ?_; rintro e w7 ⟨rfl, rfl⟩
                  rw [TI.out]
                  have hrep : (0 : Int) ≤ 2 - (T.size : Int) := by omega
                  go_wp2_with fail
                  refine (scont_any _ D q _ IRX.out).mono ?_; rintro e w8 ⟨rfl, hb8⟩
                  rw [← SG.out]
                  have BX := Lib.hid (BX.out.trans (hb8.mono BX.out.size))
                  have I := Lib.hid (I.out.below hb8)
                  clear hb8
                  cases sg
                  all_goals
                    go_wp2_with fail
                    refine (rep_any (2 - (T.size : Int)) _ (by omega) (by omega)).mono ?_; rintro e w9 ⟨rfl, rfl⟩
                    have RZ : (bs (List.replicate (2 - (T.size : Int)).toNat 32)).size ≤ 2 := by rw [bs_size, List.length_replicate]; omega
                    have RE := Lib.hid (show (2 - (T.size : Int)).toNat = 2 - (dayT fi sz q).length by rw [← TZ.out]; omega)
                    obtain ⟨R, hR⟩ : ∃ R, R = bs (List.replicate (2 - (T.size : Int)).toNat 32) := ⟨_, rfl⟩
                    rw [← hR] at RZ ⊢
                    have RR := Lib.hid hR
                    clear hR
                    go_wp2_with fail
                    first
                      | rw [show ({ data := #[32] } : ByteArray) ++ R ++ T = bs (cellL fi sz D q) by
                          rw [RR.out, RE.out, TE.out, show ({ data := #[32] } : ByteArray) = bs [32] from rfl, bs_append, bs_append, cellL, ← SG.out]; rfl]
                      | rw [show ({ data := #[42] } : ByteArray) ++ R ++ T = bs (cellL fi sz D q) by
                          rw [RR.out, RE.out, TE.out, show ({ data := #[42] } : ByteArray) = bs [42] from rfl, bs_append, bs_append, cellL, ← SG.out]; rfl]
                    refine (bwrite_any wo.heap.size wo.heap.size _ (cellL fi sz D q) _ I.out (by rw [RLn.out, cellL_len s2]; omega) BX.out.size).mono ?_
                    rintro e w10 ⟨rfl, hI2, hb10⟩
                    have I2 := Lib.hid (show BldR w10 wo.heap.size wo.heap.size (rowTo fi sz D n (i + 1)) by rw [RS.out, ← QE.out]; exact hI2)
                    have B2 := Lib.hid (BX.out.trans hb10)
                    clear hI2 hb10
                    go_wp2
                    go_roundg (7 - (i + 1))
                    case measure => rw [G3.out]; omega
                    case rel => exact ⟨i + 1, q + 1, by first | rfl | go_num, Lib.hid (by rw [QE.out]; omega), by omega, rfl, I2.out, B2.out⟩
                · have TI := Lib.hid (show T = { data := #[] } by rw [TE.out, dayT, if_neg hin]; rfl)
                  have tt : decide (fi ≤ q) = false ∨ (decide (fi ≤ q) = true ∧ decide (q < fi + sz) = false) := by
                    by_cases g1 : fi ≤ q
                    · exact .inr ⟨decide_eq_true g1, decide_eq_false (fun h => hin ⟨g1, h⟩)⟩
                    · exact .inl (decide_eq_false g1)
                  clear hin
                  rcases tt with t1 | ⟨t1, t2⟩
                  · have T0 : T.size = 0 := by rw [TI.out]; rfl
                    go_wp2_with fail
                    refine (scont_any _ D q _ IRX.out).mono ?_; rintro e w8 ⟨rfl, hb8⟩
                    rw [← SG.out]
                    have BX := Lib.hid (BX.out.trans (hb8.mono BX.out.size))
                    have I := Lib.hid (I.out.below hb8)
                    clear hb8
                    cases sg
                    all_goals
                      go_wp2_with fail
                      refine (rep_any 2 _ (by omega) (by omega)).mono ?_; rintro e w9 ⟨rfl, rfl⟩
                      have RZ : (bs (List.replicate (2 : Int).toNat 32)).size ≤ 2 := by rw [bs_size, List.length_replicate]; omega
                      have RE := Lib.hid (show (2 : Int).toNat = 2 - (dayT fi sz q).length by rw [← TZ.out, TI.out]; rfl)
                      obtain ⟨R, hR⟩ : ∃ R, R = bs (List.replicate (2 : Int).toNat 32) := ⟨_, rfl⟩
                      rw [← hR] at RZ ⊢
                      have RR := Lib.hid hR
                      clear hR
                      go_wp2_with fail
                      first
                        | rw [show ({ data := #[32] } : ByteArray) ++ R ++ { data := #[] } = bs (cellL fi sz D q) by
                            rw [← TI.out, RR.out, RE.out, TE.out, show ({ data := #[32] } : ByteArray) = bs [32] from rfl, bs_append, bs_append, cellL, ← SG.out]; rfl]
                        | rw [show ({ data := #[42] } : ByteArray) ++ R ++ { data := #[] } = bs (cellL fi sz D q) by
                            rw [← TI.out, RR.out, RE.out, TE.out, show ({ data := #[42] } : ByteArray) = bs [42] from rfl, bs_append, bs_append, cellL, ← SG.out]; rfl]
                      refine (bwrite_any wo.heap.size wo.heap.size _ (cellL fi sz D q) _ I.out (by rw [RLn.out, cellL_len s2]; omega) BX.out.size).mono ?_
                      rintro e w10 ⟨rfl, hI2, hb10⟩
                      have I2 := Lib.hid (show BldR w10 wo.heap.size wo.heap.size (rowTo fi sz D n (i + 1)) by rw [RS.out, ← QE.out]; exact hI2)
                      have B2 := Lib.hid (BX.out.trans hb10)
                      clear hI2 hb10
                      go_wp2
                      go_roundg (7 - (i + 1))
                      case measure => rw [G3.out]; omega
                      case rel => exact ⟨i + 1, q + 1, by first | rfl | go_num, Lib.hid (by rw [QE.out]; omega), by omega, rfl, I2.out, B2.out⟩
                  · have T0 : T.size = 0 := by rw [TI.out]; rfl
                    go_wp2_with fail
                    refine (scont_any _ D q _ IRX.out).mono ?_; rintro e w8 ⟨rfl, hb8⟩
                    rw [← SG.out]
                    have BX := Lib.hid (BX.out.trans (hb8.mono BX.out.size))
                    have I := Lib.hid (I.out.below hb8)
                    clear hb8
                    cases sg
                    all_goals
                      go_wp2_with fail
                      refine (rep_any 2 _ (by omega) (by omega)).mono ?_; rintro e w9 ⟨rfl, rfl⟩
                      have RZ : (bs (List.replicate (2 : Int).toNat 32)).size ≤ 2 := by rw [bs_size, List.length_replicate]; omega
                      have RE := Lib.hid (show (2 : Int).toNat = 2 - (dayT fi sz q).length by rw [← TZ.out, TI.out]; rfl)
                      obtain ⟨R, hR⟩ : ∃ R, R = bs (List.replicate (2 : Int).toNat 32) := ⟨_, rfl⟩
                      rw [← hR] at RZ ⊢
                      have RR := Lib.hid hR
                      clear hR
                      go_wp2_with fail
                      first
                        | rw [show ({ data := #[32] } : ByteArray) ++ R ++ { data := #[] } = bs (cellL fi sz D q) by
                            rw [← TI.out, RR.out, RE.out, TE.out, show ({ data := #[32] } : ByteArray) = bs [32] from rfl, bs_append, bs_append, cellL, ← SG.out]; rfl]
                        | rw [show ({ data := #[42] } : ByteArray) ++ R ++ { data := #[] } = bs (cellL fi sz D q) by
                            rw [← TI.out, RR.out, RE.out, TE.out, show ({ data := #[42] } : ByteArray) = bs [42] from rfl, bs_append, bs_append, cellL, ← SG.out]; rfl]
                      refine (bwrite_any wo.heap.size wo.heap.size _ (cellL fi sz D q) _ I.out (by rw [RLn.out, cellL_len s2]; omega) BX.out.size).mono ?_
                      rintro e w10 ⟨rfl, hI2, hb10⟩
                      have I2 := Lib.hid (show BldR w10 wo.heap.size wo.heap.size (rowTo fi sz D n (i + 1)) by rw [RS.out, ← QE.out]; exact hI2)
                      have B2 := Lib.hid (BX.out.trans hb10)
                      clear hI2 hb10
                      go_wp2
                      go_roundg (7 - (i + 1))
                      case measure => rw [G3.out]; omega
                      case rel => exact ⟨i + 1, q + 1, by first | rfl | go_num, Lib.hid (by rw [QE.out]; omega), by omega, rfl, I2.out, B2.out⟩
              · obtain rfl : i = 7 := by omega
                have zq : decide (q < n + 7) = false := decide_eq_false (by have := QE.out; omega)
                clear hq
                go_wp2_with fail
                refine (bstring_any wo.heap.size wo.heap.size _ _ I.out).mono ?_; rintro e w9 ⟨rfl, _, hb9⟩
                obtain ⟨T, hT⟩ : ∃ T, T = bs (rowTo fi sz D n 7) := ⟨_, rfl⟩
                rw [← hT]
                have TE := Lib.hid hT
                have BB := Lib.hid (BX.out.trans hb9)
                have hown := own_kept OW.out BB.out
                have LS := Lib.hid (leafTo_succ fi sz D j)
                have hbs9 := BB.out.size
                clear hT hb9 c10 c8
                go_wp2_with (at_builtin; refine wpList_append_lies _ rfl _ _ 66 rfl w5.heap.size 9 i0 _ 1 16 Tryz.underlying66 hi0 hz0 hz1 hz2 rfl (by decide) _ _ _ rfl (hown.alloc _) ⟨w9.heap.size, 0, none⟩ 1 1 [.string T] rfl rfl ?c1 ?c2 (by decide) (by unfold maxLen; omega) (by omega) (by simp; omega) _ rfl ?_)
                case c1 => exact cell_one_new _ _ _
                case c2 => intro u hu; simp at hu; subst hu; rfl
                intro g cap w1 hown1 hgrow1 hat1 hlt1
                have hb1 : Below w5.heap.size w5 w1 := (((BW.out.trans (BB.out.mono hbs)).alloc (by omega) _)).grown hgrow1 (by simp; omega) (ownBlock_ge hown)
                have O := Lib.hid (show w1.ownsRow w5.heap.size 9 1 (.slice (some ⟨g, 0, none⟩) (j + 1) cap) (j + 1) (strs (leafTo fi sz D (j + 1))) by
                  rw [LS.out, strs_snoc, ← MO.out, ← NE.out, ← TE.out]; exact hown1)
                have B := Lib.hid hb1
                clear hown1 hb1 hgrow1 hat1 hown
                go_wp2
                go_roundg (N - (j + 1))
                case measure => rw [G.out]; omega
                case rel => exact ⟨j + 1, n + 7, by first | rfl | go_num, Lib.hid (by rw [NE.out]; omega), by omega, rfl, O.out, B.out⟩
          · obtain rfl : j = N := by omega
            have z : decide (n < fi + sz) = false := decide_eq_false (by have := NE.out; have h := mt (RL.out j).2 hlt; omega)
            have E := Lib.hid (show marksE y m D = 0 by rw [marksE, if_neg MN.out, if_neg hl, ← FI.out, ← SZ.out, if_neg ho, if_neg hr])
            have OS := Lib.hid (show StrsR wr _ (marksL y m D) by
              rw [marksL, if_pos E.out, ← FI.out, ← SZ.out, leafL, ← NN.out]
              exact strsR_of_owns (L := leafTo fi sz D j) (by rw [leafTo_len]; exact hown))
            have B := Lib.hid (B5.out.trans (hb.mono B5.out.size))
            clear hown hb
            go_wp2
            go_ret2
            exact ⟨_, by rw [E.out]; rfl, OS.out, B.out⟩

end Go.Proofs.YtdkcgggnkhbkkaaGreatDoor
