/- Contracts of clock's texts of times: two, PrintDate, Print, shaped, number, ParseDate, Parse. Conditions: the table of months, the library's powers of ten lie as they are laid. -/
import Derived.Test.YtiihkdefhhdfnaaGreatDoorClkM
import Derived.Test.YtiihkdefhhdfnaaGreatDoorClockA
import Derived.Test.YtiihkdefhhdfnaaGreatDoorDayD
import Derived.Test.YtiihkdefhhdfnaaGreatDoorSl
import Derived.Test.YtiihkdefhhdfnaaGreatDoorShClk
import Derived.Lib.AppendIntMem
import Derived.Lib.AtoiBound
import Derived.Lib.SmallJoins
import Derived.Lib.ConvBytes
import Derived.Laws.BytesArg
import Derived.Laws.BytesString
import Derived.Deep.DeepCutAuto
import Derived.Deep.CutBlock
import Derived.Deep.LoopGhost
import Derived.Deep.QuietTactic
import Derived.Deep.RegionHeld3
import Derived.BigQuiet
import Derived.IntWalk
import Derived.Outline
import Derived.Lib.QuietBelow
namespace Go.Proofs.YtiihkdefhhdfnaaGreatDoor
open Go.RowKit Go.Shelf
set_option linter.unusedSimpArgs false
set_option linter.unusedVariables false

theorem bs_get (l : List UInt8) (k : Nat) (h : k < l.length) (h2 : k < (bs l).size) : (bs l)[k] = l[k] := by
  rfl

theorem bs_arr (l : List UInt8) : (bs l).data.toList = l := by simp [bs]

/-- the library's powers of ten. -/
def PowT (w : World) : Prop := Lib.TabIs Tryz.prog w "internal/strconv.uint64pow10" .u64 Lib.pow10Tab

theorem PowT.below {w w' : World} (h : PowT w) (hb : Below w.heap.size w w') : PowT w' :=
  Go.Joins.tab_stays (g := 5) (by kernel_rfl) h hb (Nat.le_refl _)

theorem itoa_any (n : Int) (w : World) (hP : PowT w) (h0 : -9223372036854775808 ≤ n) (h1 : n ≤ 9223372036854775807) :
    Calls Tryz.prog 37 #[.int .i64 n] w fun e w' => e = .returned (.string (bs (Lib.itoa n))) ∧ Below w.heap.size w w' := by
  refine (Tryz.strconv_Itoa n h0 h1 w hP).mono ?_
  rintro e w' ⟨rfl, k, os, rfl⟩
  exact ⟨rfl, Go.Lib.below_grow _ _ (Nat.le_refl _) _ _⟩

theorem itoa_sm (x : Int) (w : World) (h0 : 0 ≤ x) (h1 : x < 100) :
    Calls Tryz.prog 37 #[.int .i64 x] w fun e w' => e = .returned (.string (bs (Lib.decDigits x.toNat))) ∧ w = w' := by
  have h := Tryz.strconv_Itoa_small x.toNat (by omega) w
  rw [show ((x.toNat : Nat) : Int) = x by omega] at h
  exact h.mono fun e w' ⟨h1, h2⟩ => ⟨h1, h2.symm⟩

set_option maxHeartbeats 1000000 in
theorem two_any (n : Int) (w : World) (h0 : 0 ≤ n) (h1 : n < 100) :
    Calls Tryz.prog 28 #[.int .i64 n] w fun e w' => e = .returned (.string (bs (d2 n.toNat))) ∧ w = w' := by
  have I := Lib.hid (itoa_sm (n / 10) w (by omega) (by omega))
  have J := Lib.hid (itoa_sm (n % 10) w (by omega) (by omega))
  have E := Lib.hid (show Lib.decDigits (n / 10).toNat ++ Lib.decDigits (n % 10).toNat = d2 n.toNat by
    rw [show (n / 10).toNat = n.toNat / 10 by omega, show (n % 10).toNat = n.toNat % 10 by omega]; exact two_dec (by omega))
  go_enter Tryz.func28, Tryz.ntmps28
  go_wp2_with fail
  refine I.out.mono ?_; rintro e w1 ⟨rfl, rfl⟩
  obtain ⟨x, hx⟩ : ∃ x, x = bs (Lib.decDigits (n / 10).toNat) := ⟨_, rfl⟩
  have xz : x.size ≤ 20 := by rw [hx, bs_size]; exact dec20 (by omega)
  rw [← hx]
  have X := Lib.hid hx; clear hx
  go_wp2_with fail
  refine J.out.mono ?_; rintro e w1 ⟨rfl, rfl⟩
  obtain ⟨y, hy⟩ : ∃ y, y = bs (Lib.decDigits (n % 10).toNat) := ⟨_, rfl⟩
  have yz : y.size ≤ 20 := by rw [hy, bs_size]; exact dec20 (by omega)
  rw [← hy]
  have Y := Lib.hid hy; clear hy
  go_wp2
  go_ret
  exact ⟨by rw [← E.out, ← bs_append, ← X.out, ← Y.out]; rfl, rfl⟩

theorem two_grow (n : Int) (w : World) (h0 : 0 ≤ n) (h1 : n < 100) (X : ByteArray) (hX : X = bs (d2 n.toNat)) (d : Nat) (os : Array Obj) :
    Calls Tryz.prog 28 #[.int .i64 n] (Go.Sort.grow (redrawn w d) os) fun e w'' => e = .returned (.string X) ∧ ∃ p : Regrown, w'' = Go.Sort.grow (redrawn w p.d) p.os :=
  Calls.regrown_of ((two_any n _ h0 h1).mono fun e w' h => ⟨by rw [h.1, hX], by rw [h.2]; exact Below.refl _ _⟩)

theorem itoa_grow (n : Int) (w : World) (hP : PowT w) (h0 : -9223372036854775808 ≤ n) (h1 : n ≤ 9223372036854775807) (X : ByteArray) (hX : X = bs (Lib.itoa n)) (d : Nat) (os : Array Obj) :
    Calls Tryz.prog 37 #[.int .i64 n] (Go.Sort.grow (redrawn w d) os) fun e w'' => e = .returned (.string X) ∧ ∃ p : Regrown, w'' = Go.Sort.grow (redrawn w p.d) p.os :=
  Calls.regrown_of ((itoa_any n _ (hP.below (below_regrown w d os)) h0 h1).mono fun e w' h => ⟨by rw [h.1, hX], h.2⟩)

set_option maxRecDepth 100000 in
set_option maxHeartbeats 2000000 in
theorem pdate_any (y m d : Int) (w : World) (hP : PowT w) (y0 : 1000 ≤ y) (y1 : y < 10000) (m0 : 0 ≤ m) (m1 : m < 100) (d0 : 0 ≤ d) (d1 : d < 100) :
    Calls Tryz.prog 27 #[.agg #[.int .i64 y, .int .i64 m, .int .i64 d]] w fun e w' => e = .returned (.string (bs (dateT y.toNat m.toNat d.toNat))) ∧ Below w.heap.size w w' := by
  have PT := Lib.hid hP
  clear hP
  go_enter Tryz.func27, Tryz.ntmps27
  go_wp2
  obtain ⟨w0, hw0⟩ : ∃ w0, w0 = w.alloc (.cells #[.int .i64 y, .int .i64 m, .int .i64 d] 23) := ⟨_, rfl⟩
  rw [← hw0]
  have hb0 : Below w.heap.size w w0 := by rw [hw0]; exact (Below.refl _ _).alloc (Nat.le_refl _) _
  have c0 : w0.cell? ⟨w.heap.size, 0, none⟩ = some (.int .i64 y) := by rw [hw0]; simp
  have c1 : w0.cell? ⟨w.heap.size, 1, none⟩ = some (.int .i64 m) := by rw [hw0]; simp
  have c2 : w0.cell? ⟨w.heap.size, 2, none⟩ = some (.int .i64 d) := by rw [hw0]; simp
  have k0 := cell_regrown c0
  have k1 := cell_regrown c1
  have k2 := cell_regrown c2
  obtain ⟨Y, hY⟩ : ∃ x, x = bs (Lib.itoa y) := ⟨_, rfl⟩
  obtain ⟨M, hM⟩ : ∃ x, x = bs (d2 m.toNat) := ⟨_, rfl⟩
  obtain ⟨D, hD⟩ : ∃ x, x = bs (d2 d.toNat) := ⟨_, rfl⟩
  have yz : Y.size ≤ 20 := by rw [hY, bs_size, show y = ((y.toNat : Nat) : Int) by omega, Lib.itoa_nonneg]; exact dec20 (by omega)
  have mz : M.size ≤ 20 := by rw [hM, bs_size, d2_len]; omega
  have dz : D.size ≤ 20 := by rw [hD, bs_size, d2_len]; omega
  have cI := itoa_grow y w0 (PT.out.below hb0) (by omega) (by omega) Y hY
  have cM := two_grow m w0 m0 m1 M hM
  have cD := two_grow d w0 d0 d1 D hD
  have E := Lib.hid (show bs (dateT y.toNat m.toNat d.toNat) = (((Y ++ { data := #[45] }) ++ M) ++ { data := #[45] }) ++ D by
    rw [hY, hM, hD, show ({ data := #[45] } : ByteArray) = bs [45] from rfl, bs_append, bs_append, bs_append, bs_append]
    congr 1
    rw [dateT, ← year_dec (by omega) (by omega)]
    conv => rhs; rw [show y = ((y.toNat : Nat) : Int) by omega, Lib.itoa_nonneg]
    simp)
  have HB := Lib.hid hb0
  have z1 : ¬ 9223372036854775807 < Y.size + 1 := by omega
  have z2 : ¬ 9223372036854775807 < Y.size + 1 + M.size := by omega
  have z3 : ¬ 9223372036854775807 < Y.size + 1 + M.size + 1 := by omega
  have z4 : ¬ 9223372036854775807 < Y.size + 1 + M.size + 1 + D.size := by omega
  clear c0 c1 c2 hY hM hD hw0 hb0
  refine wp_region_quiet_below (by kernel_rfl) (by kernel_rfl) ?_
  repeat (quiet_step (first | exact cI _ _ | exact cM _ _ | exact cD _ _))
  refine wpQuiet_nil ?_
  intro _ hw'
  obtain ⟨⟨dq, osq⟩, hw''⟩ := hw'
  subst hw''
  go_wp2
  go_ret
  exact ⟨by rw [E.out]; rfl, HB.out.trans ((below_regrown w0 dq osq).mono HB.out.size)⟩

end Go.Proofs.YtiihkdefhhdfnaaGreatDoor
