/- Contracts of event.Name, of the check of a text, of event.rises, empty, Alarm. Condition: texts below 2^47. -/
import Derived.Test.YtkpmddlinlcobaaDoorEvA
import Derived.Laws.AppendOwn
namespace Go.Proofs.YtkpmddlinlcobaaDoor
open Go.RowKit
set_option linter.unusedSimpArgs false
set_option linter.unusedVariables false

theorem bytesR_new (w : World) (t : TypeId) (l : List UInt8) (h : l.length ≤ 140737488351232) :
    BytesR (Lib.bytesWorld w t (bs l)) (.slice (some ⟨w.heap.size, 0, none⟩) l.length (grownCap w l.length 0 t)) l := by
  refine ⟨_, _, rfl, by simp [byV], grownCap_ge _ _ _ _, grownCap_le_maxLen _ _ _ _ (by unfold maxLen; omega), fun h0 => ⟨_, 0, rfl, fun j v hv => ?_⟩⟩
  have hj : j < l.length := by
    have := (List.getElem?_eq_some_iff.1 hv).1
    simpa [byV] using this
  rw [Nat.zero_add, Lib.bytesWorld_cell w _ _ j (by rw [bs_size]; exact hj)]
  have e : (byV l)[j]? = some (.int .u8 (l[j].toNat : Int)) := by simp [byV, hj]
  rw [e] at hv
  cases hv
  simp [bs, hj]

/-- is a text a name? -/
def nameB (l : List UInt8) : Bool := !l.isEmpty && decide (l.length ≤ 8) && !l.any (fun c : UInt8 => nameOut (c.toNat : Int))

set_option maxHeartbeats 2000000 in
theorem name_any (l : List UInt8) (w : World) (hl : l.length ≤ 140737488351232) :
    Calls Tryd.prog 11 #[.string (bs l)] w fun e w' => e = .returned (.bool (nameB l)) ∧ Below w.heap.size w w' := by
  have hcv := Lib.run_convert_string_bytes (P := Tryd.prog) w 9 43 5 (bs l) Tryd.underlying9 Tryd.underlying43 Tryd.underlying5
  have hN := bytesR_new w 5 l hl
  have hB : Below w.heap.size w (Lib.bytesWorld w 5 (bs l)) := Joins.below_bytesWorld _ w _ _ (Nat.le_refl _)
  rw [bs_size] at hcv
  obtain ⟨cap, hcap⟩ : ∃ cap, cap = grownCap w l.length 0 5 := ⟨_, rfl⟩
  obtain ⟨wb, hwb⟩ : ∃ wb, wb = Lib.bytesWorld w 5 (bs l) := ⟨_, rfl⟩
  rw [← hcap, ← hwb] at hcv hN
  rw [← hwb] at hB
  have NR := Lib.hid hN; have BW := Lib.hid hB
  have LT := Lib.hid (show (bs l).toList = l from bs_toList l)
  have LZ := Lib.hid (bs_size l)
  clear hcap hwb hN hB
  obtain ⟨s, hs⟩ : ∃ s, s = bs l := ⟨_, rfl⟩
  rw [← hs] at hcv LT LZ ⊢
  clear hs
  by_cases h0 : l = []
  · have E := Lib.hid (show nameB l = false by simp [nameB, h0])
    have q1 : s.toList.isEmpty = true := by rw [LT.out, h0]; rfl
    have q2 : s.toList = [] := by rw [LT.out, h0]
    clear h0
    go_enter Tryd.func11, Tryd.ntmps11
    go_wp2
    go_ret
    exact ⟨by rw [E.out]; rfl, Below.refl _ _⟩
  have q1 : s.toList.isEmpty = false := by rw [LT.out]; simpa using h0
  have q2 : ¬ s.toList = [] := by rw [LT.out]; exact h0
  by_cases h8 : l.length ≤ 8
  · have t1 : decide ((s.size : Int) ≤ 8) = true := decide_eq_true (by have := LZ.out; omega)
    have t1b : decide (s.size ≤ 8) = true := decide_eq_true (by have := LZ.out; omega)
    obtain ⟨b, hb⟩ : ∃ b, b = l.any (fun c : UInt8 => nameOut (c.toNat : Int)) := ⟨_, rfl⟩
    have E := Lib.hid (show nameB l = !b by
      rw [nameB, hb, show l.isEmpty = false by simpa using h0, decide_eq_true h8]; rfl)
    have BE := Lib.hid hb
    clear h0 h8 hb
    go_enter Tryd.func11, Tryd.ntmps11
    go_wp2_with fail
    refine (contEvN_any _ l _ NR.out).mono ?_; rintro e w2 ⟨rfl, hb2⟩
    rw [← BE.out]
    have B2 := Lib.hid (BW.out.trans (hb2.mono BW.out.size))
    clear hb2 hcv
    go_wp2
    go_ret
    exact ⟨by rw [E.out]; rfl, B2.out⟩
  · have t1 : decide ((s.size : Int) ≤ 8) = false := decide_eq_false (by have := LZ.out; omega)
    have t1b : decide (s.size ≤ 8) = false := decide_eq_false (by have := LZ.out; omega)
    have E := Lib.hid (show nameB l = false by simp [nameB, h8])
    clear h0 h8
    go_enter Tryd.func11, Tryd.ntmps11
    go_wp2
    go_ret
    exact ⟨by rw [E.out]; rfl, Below.refl _ _⟩

theorem evrises_any (v : Value) (L : List Int) (w : World) (hL : IntsR w v L) :
    Calls Tryd.prog 20 #[v] w fun e w' => e = .returned (.bool (risesB L)) ∧ Below w.heap.size w w' := by
  obtain ⟨a, cap, rfl, hc1, hc2, hcell⟩ := intsR_open hL
  unfold maxLen at hc2
  have HC := Lib.hid hcell; clear hcell hL
  go_enter Tryd.func20, Tryd.ntmps20
  go_wp2
  go_loopg [3] L.length (fun g i wr => ∃ k : Nat, 1 ≤ k ∧ k ≤ L.length + 1 ∧ i = .int .i64 k ∧ Hid ((L.take k).Pairwise (· < ·)) ∧ g = L.length + 1 - k ∧ Below w.heap.size w wr)
  case atStart => exact ⟨1, by omega, by omega, rfl, Lib.hid (by cases L <;> simp), by omega, Below.refl _ _⟩
  case round =>
    obtain ⟨k, hk1, hk, rfl, hS, hg, hb⟩ := hrel
    have G := Lib.hid hg; clear hg
    by_cases hlt : k < L.length
    · obtain ⟨b, off, rfl, hcs⟩ := HC.out (by omega)
      have hkm : k - 1 < L.length := by omega
      have c0 := cell_below hb (hcs k hlt)
      have d0 := cell_below hb (hcs (k - 1) hkm)
      obtain ⟨x, hx⟩ : ∃ x, x = L[k] := ⟨_, rfl⟩
      obtain ⟨p, hp⟩ : ∃ p, p = L[k - 1] := ⟨_, rfl⟩
      rw [← hx] at c0; rw [← hp] at d0
      have X := Lib.hid hx; have P := Lib.hid hp; have B := Lib.hid hb
      clear hx hp hcs hb
      have i1 : (0 : Int) ≤ (k : Int) := Int.natCast_nonneg _
      have i2 : (k : Int) < (L.length : Int) := by omega
      by_cases he : p < x
      · have E := Lib.hid (pw_snoc hlt (by omega) hS.out (by rw [← X.out, ← P.out]; exact he))
        have t1 : decide (x ≤ p) = false := decide_eq_false (by omega)
        clear he
        go_wp2
        have s1 : IntKind.i64.wrap ((k : Int) - 1) = (k : Int) - 1 := IntWalk.i64_in _ (by omega)
        have s2 : (0 : Int) ≤ (k : Int) - 1 := by omega
        have s3 : (1 : Int) ≤ (k : Int) := by omega
        have s4 : ((k : Int) - 1).toNat = k - 1 := by omega
        have s5 : (k : Int) - 1 < (L.length : Int) := by omega
        go_quiet (fail)
        clear s1 s2 s3 s4 s5
        go_wp2
        go_roundg (L.length + 1 - (k + 1))
        case measure => rw [G.out]; omega
        case rel => exact ⟨k + 1, by omega, by omega, by go_num, E, rfl, below_drewN B.out _⟩
      · have E := Lib.hid (risesB_no hlt (by omega) (by rw [← X.out, ← P.out]; omega))
        have t1 : decide (x ≤ p) = true := decide_eq_true (by omega)
        clear he
        go_wp2
        have s1 : IntKind.i64.wrap ((k : Int) - 1) = (k : Int) - 1 := IntWalk.i64_in _ (by omega)
        have s2 : (0 : Int) ≤ (k : Int) - 1 := by omega
        have s3 : (1 : Int) ≤ (k : Int) := by omega
        have s4 : ((k : Int) - 1).toNat = k - 1 := by omega
        have s5 : (k : Int) - 1 < (L.length : Int) := by omega
        go_quiet (fail)
        clear s1 s2 s3 s4 s5
        go_wp2
        go_ret
        exact ⟨by rw [E.out]; rfl, below_drewN B.out _⟩
    · have E := Lib.hid (risesB_yes (L := L) (by have := hS.out; rwa [List.take_of_length_le (by omega)] at this))
      have B := Lib.hid hb
      have hge : ¬ (k : Int) < (L.length : Int) := by omega
      clear hS hb
      go_wp2
      go_ret
      exact ⟨by rw [E.out]; rfl, B.out⟩

/-- how many there are in four lists, as a machine adds. -/
def sumW (a b c d : Nat) : Int := wrap64 (wrap64 (wrap64 ((a : Int) + (b : Int)) + (c : Int)) + (d : Int))
/-- is a rule empty? -/
def emptyB (fr ev ct ti : Int) (a b c d : Nat) : Bool := fr == 0 && ev == 0 && ct == 0 && ti == 0 && sumW a b c d == 0

set_option maxHeartbeats 2000000 in
theorem empty_any (fr ev ct ti : Int) (vm vd vw vp : Value) (mo da : List Int) (we : List (Int × Int)) (pk : List Int) (w : World) (h1 : IntsR w vm mo) (h2 : IntsR w vd da) (h3 : PairsR w vw we) (h4 : IntsR w vp pk) :
    Calls Tryd.prog 14 #[.agg #[.int .i64 fr, .int .i64 ev, .int .i64 ct, .int .i64 ti, vm, vd, vw, vp]] w fun e w' => e = .returned (.bool (emptyB fr ev ct ti mo.length da.length we.length pk.length)) ∧ Below w.heap.size w w' := by
  obtain ⟨a1, c1, rfl, -, k1, -⟩ := intsR_open h1
  obtain ⟨a2, c2, rfl, -, k2, -⟩ := intsR_open h2
  obtain ⟨a3, c3, rfl, -, k3, -⟩ := pairsR_open h3
  obtain ⟨a4, c4, rfl, -, k4, -⟩ := intsR_open h4
  clear k1 k2 k3 k4 h1 h2 h3 h4
  have HB := fun o => Lib.hid (show Below w.heap.size w (w.alloc o) from (Below.refl _ _).alloc (Nat.le_refl _) _)
  by_cases e1 : (fr == 0) = true
  rotate_left
  · have t : (fr == 0) = false := by simpa using e1
    have E := Lib.hid (show emptyB fr ev ct ti mo.length da.length we.length pk.length = false by simp [emptyB, t])
    clear e1
    go_enter Tryd.func14, Tryd.ntmps14
    go_wp2
    go_ret
    exact ⟨by rw [E.out]; rfl, (HB _).out⟩
  by_cases e2 : (ev == 0) = true
  rotate_left
  · have t : (ev == 0) = false := by simpa using e2
    have E := Lib.hid (show emptyB fr ev ct ti mo.length da.length we.length pk.length = false by simp [emptyB, t])
    clear e2
    go_enter Tryd.func14, Tryd.ntmps14
    go_wp2
    go_ret
    exact ⟨by rw [E.out]; rfl, (HB _).out⟩
  by_cases e3 : (ct == 0) = true
  rotate_left
  · have t : (ct == 0) = false := by simpa using e3
    have E := Lib.hid (show emptyB fr ev ct ti mo.length da.length we.length pk.length = false by simp [emptyB, t])
    clear e3
    go_enter Tryd.func14, Tryd.ntmps14
    go_wp2
    go_ret
    exact ⟨by rw [E.out]; rfl, (HB _).out⟩
  by_cases e4 : (ti == 0) = true
  rotate_left
  · have t : (ti == 0) = false := by simpa using e4
    have E := Lib.hid (show emptyB fr ev ct ti mo.length da.length we.length pk.length = false by simp [emptyB, t])
    clear e4
    go_enter Tryd.func14, Tryd.ntmps14
    go_wp2
    go_ret
    exact ⟨by rw [E.out]; rfl, (HB _).out⟩
  have E := Lib.hid (show emptyB fr ev ct ti mo.length da.length we.length pk.length = (sumW mo.length da.length we.length pk.length == 0) by simp only [emptyB, e1, e2, e3, e4, Bool.true_and])
  go_enter Tryd.func14, Tryd.ntmps14
  go_wp2
  go_ret
  exact ⟨by rw [E.out]; rfl, (HB _).out⟩

/-- the fault of an alarm. -/
def almE (o r b : Int) : Int :=
  if o < -100000 ∨ 100000 < o ∨ r < 0 ∨ 5 < r ∨ (0 < r ∧ (b < 1 ∨ 10000 < b)) ∨ (r = 0 ∧ b ≠ 0) then 1 else 0

set_option maxHeartbeats 2000000 in
theorem alarm_any (o r b : Int) (en : Bool) (w : World) :
    Calls Tryd.prog 21 #[.agg #[.int .i64 o, .bool en, .int .i64 r, .int .i64 b]] w fun e w' => e = .returned (errV (almE o r b)) ∧ Below w.heap.size w w' := by
  have HB := fun o => Lib.hid (show Below w.heap.size w (w.alloc o) from (Below.refl _ _).alloc (Nat.le_refl _) _)
  by_cases h : o < -100000 ∨ 100000 < o ∨ r < 0 ∨ 5 < r ∨ (0 < r ∧ (b < 1 ∨ 10000 < b)) ∨ (r = 0 ∧ b ≠ 0)
  · have E := Lib.hid (show almE o r b = 1 by rw [almE, if_pos h])
    have tt : decide (o < -100000) = true ∨
      (decide (o < -100000) = false ∧ decide (100000 < o) = true) ∨
      (decide (o < -100000) = false ∧ decide (100000 < o) = false ∧ decide (r < 0) = true) ∨
      (decide (o < -100000) = false ∧ decide (100000 < o) = false ∧ decide (r < 0) = false ∧ decide (5 < r) = true) ∨
      (decide (o < -100000) = false ∧ decide (100000 < o) = false ∧ decide (r < 0) = false ∧ decide (5 < r) = false ∧ decide (0 < r) = true ∧ decide (b < 1) = true) ∨
      (decide (o < -100000) = false ∧ decide (100000 < o) = false ∧ decide (r < 0) = false ∧ decide (5 < r) = false ∧ decide (0 < r) = true ∧ decide (b < 1) = false ∧ decide (10000 < b) = true) ∨
      (decide (o < -100000) = false ∧ decide (100000 < o) = false ∧ decide (r < 0) = false ∧ decide (5 < r) = false ∧ decide (0 < r) = false ∧ (r == 0) = true ∧ (b == 0) = false ∧ (b != 0) = true) := by
      simp only [decide_eq_true_eq, decide_eq_false_iff_not, beq_iff_eq, beq_eq_false_iff_ne, bne_iff_ne, ne_eq]; omega
    clear h
    rcases tt with t1 | ⟨t1, t2⟩ | ⟨t1, t2, t3⟩ | ⟨t1, t2, t3, t4⟩ | ⟨t1, t2, t3, t4, t5, t6⟩ | ⟨t1, t2, t3, t4, t5, t6, t7⟩ | ⟨t1, t2, t3, t4, t5, t6, t7, t8⟩
    all_goals
      go_enter Tryd.func21, Tryd.ntmps21
      go_wp2
      go_ret
      exact ⟨by rw [E.out]; rfl, (HB _).out⟩
  · have E := Lib.hid (show almE o r b = 0 by rw [almE, if_neg h])
    have t1 : decide (o < -100000) = false := decide_eq_false (by omega)
    have t2 : decide (100000 < o) = false := decide_eq_false (by omega)
    have t3 : decide (r < 0) = false := decide_eq_false (by omega)
    have t4 : decide (5 < r) = false := decide_eq_false (by omega)
    have tt : (decide (0 < r) = true ∧ decide (b < 1) = false ∧ decide (10000 < b) = false ∧ (r == 0) = false) ∨ (decide (0 < r) = false ∧ (r == 0) = true ∧ (b == 0) = true ∧ (b != 0) = false) := by
      simp only [decide_eq_true_eq, decide_eq_false_iff_not, beq_iff_eq, beq_eq_false_iff_ne, bne_eq_false_iff_eq, ne_eq]; omega
    clear h
    rcases tt with ⟨t5, t6, t7, t8⟩ | ⟨t5, t6, t7, t8⟩
    all_goals
      go_enter Tryd.func21, Tryd.ntmps21
      go_wp2
      go_ret
      exact ⟨by rw [E.out]; rfl, (HB _).out⟩

end Go.Proofs.YtkpmddlinlcobaaDoor
