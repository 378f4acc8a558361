/- Contracts of event.Name, rises, empty, Alarm, and of slices.ContainsFunc at event.Check's closures. Condition: texts below 2^46. (printed by gen_eva.py) -/
import Derived.Test.YtkpmddlinlcobaaDoorRuleB
import Derived.Test.YtkpmddlinlcobaaDoorLineA
import Derived.Test.YtkpmddlinlcobaaDoorClockA
import Derived.Deep.LoopGhost
import Derived.Deep.DeepCutAuto
import Derived.Deep.CutBlock
import Derived.Outline
namespace Go.Proofs.YtkpmddlinlcobaaDoor
open Go.RowKit
set_option linter.unusedSimpArgs false
set_option linter.unusedVariables false

/-- A slice of bytes that reads as a list. -/
def BytesR (w : World) (v : Value) (L : List UInt8) : Prop := Reads w v 1 L.length (byV L)

theorem BytesR.below {w w' : World} {v : Value} {L : List UInt8} (h : BytesR w v L) (hb : Below w.heap.size w w') : BytesR w' v L := Reads.below h hb

theorem bytesR_open {w : World} {v : Value} {L : List UInt8} (h : BytesR w v L) : ∃ a cap, v = .slice a L.length cap ∧ L.length ≤ cap ∧ cap ≤ maxLen ∧
    (0 < L.length → ∃ b off, a = some ⟨b, off, none⟩ ∧ ∀ j (hj : j < L.length), w.cell? ⟨b, off + j, none⟩ = some (.int .u8 (L[j].toNat : Int))) := by
  obtain ⟨a, cap, h1, _, h3, h4, h5⟩ := h
  refine ⟨a, cap, h1, h3, h4, fun hn => ?_⟩
  obtain ⟨b, off, h6, h7⟩ := h5 hn
  exact ⟨b, off, h6, fun j hj => h7 j _ (by simp [byV, hj])⟩

/-- is a byte none of a name? -/
def nameOut (n : Int) : Bool := decide (n < 97) || decide (122 < n)
/-- is a byte none of a text? -/
def textOut (n : Int) : Bool := decide (n < 32) || decide (126 < n)
/-- is a number no time? -/
def badT (n : Int) : Bool := !timeB n
/-- is a change to no time? -/
def badC (s : Int × Int) : Bool := s.2 != 0 && !timeB s.2

theorem nameOut_any (n : Int) (w : World) (h0 : 0 ≤ n) (h1 : n < 256) :
    Calls Tryd.prog 30 #[.int .u8 n] w fun e w' => e = .returned (.bool (nameOut n)) ∧ w = w' := by
  by_cases h2 : n < 97
  · have E := Lib.hid (show nameOut n = true by simp [nameOut, h2])
    go_enter Tryd.func30, Tryd.ntmps30
    go_wp2
    go_ret
    exact ⟨by rw [E.out]; rfl, rfl⟩
  by_cases h3 : 122 < n
  · have E := Lib.hid (show nameOut n = true by simp [nameOut, h3])
    go_enter Tryd.func30, Tryd.ntmps30
    go_wp2
    go_ret
    exact ⟨by rw [E.out]; rfl, rfl⟩
  · have E := Lib.hid (show nameOut n = false by simp [nameOut]; omega)
    go_enter Tryd.func30, Tryd.ntmps30
    go_wp2
    go_ret
    exact ⟨by rw [E.out]; rfl, rfl⟩

theorem textOut_any (n : Int) (w : World) (h0 : 0 ≤ n) (h1 : n < 256) :
    Calls Tryd.prog 13 #[.int .u8 n] w fun e w' => e = .returned (.bool (textOut n)) ∧ w = w' := by
  by_cases h2 : n < 32
  · have E := Lib.hid (show textOut n = true by simp [textOut, h2])
    go_enter Tryd.func13, Tryd.ntmps13
    go_wp2
    go_ret
    exact ⟨by rw [E.out]; rfl, rfl⟩
  by_cases h3 : 126 < n
  · have E := Lib.hid (show textOut n = true by simp [textOut, h3])
    go_enter Tryd.func13, Tryd.ntmps13
    go_wp2
    go_ret
    exact ⟨by rw [E.out]; rfl, rfl⟩
  · have E := Lib.hid (show textOut n = false by simp [textOut]; omega)
    go_enter Tryd.func13, Tryd.ntmps13
    go_wp2
    go_ret
    exact ⟨by rw [E.out]; rfl, rfl⟩

theorem badT_any (n : Int) (w : World) :
    Calls Tryd.prog 10 #[.int .i64 n] w fun e w' => e = .returned (.bool (badT n)) ∧ w = w' := by
  obtain ⟨t, ht⟩ : ∃ t, t = timeB n := ⟨_, rfl⟩
  have E := Lib.hid (show badT n = !t by rw [badT, ht])
  have T := Lib.hid ht
  clear ht
  go_enter Tryd.func10, Tryd.ntmps10
  go_wp2_with fail
  refine (valid_any n _).mono ?_; rintro e w1 ⟨rfl, rfl⟩
  rw [← T.out]
  go_wp2
  go_ret
  exact ⟨by rw [E.out]; rfl, rfl⟩

theorem badC_any (x y : Int) (b : Nat) (w : World) (hc : w.cell? ⟨b, 0, none⟩ = some (.func (.func 10) #[] #[])) :
    Calls Tryd.prog 19 #[.agg #[.int .i64 x, .int .i64 y], .pointer (some ⟨b, 0, none⟩)] w fun e w' => e = .returned (.bool (badC (x, y))) ∧ Below w.heap.size w w' := by
  have HB := Lib.hid (show Below w.heap.size w (w.alloc (.cells #[.int .i64 x, .int .i64 y] 48)) from (Below.refl _ _).alloc (Nat.le_refl _) _)
  have hlt : b < w.heap.size := World.block_lt_of_cell? w _ hc
  by_cases h : y = 0
  · have E := Lib.hid (show badC (x, y) = false by simp [badC, h])
    have t1 : (y == 0) = true := by simpa using h
    have t2 : (y != 0) = false := by simp [bne, t1]
    clear h
    go_enter Tryd.func19, Tryd.ntmps19
    go_wp2
    go_ret
    exact ⟨by rw [E.out]; rfl, HB.out⟩
  · have t1 : (y == 0) = false := by simpa using h
    have t2 : (y != 0) = true := by simp [bne, t1]
    have E := Lib.hid (show badC (x, y) = badT y by simp [badC, badT, h])
    clear h
    go_enter Tryd.func19, Tryd.ntmps19
    go_wp2_with fail
    refine (badT_any y _).mono ?_; rintro e w1 ⟨rfl, rfl⟩
    obtain ⟨t, ht⟩ : ∃ t, t = badT y := ⟨_, rfl⟩
    rw [← ht]
    have T := Lib.hid ht
    clear ht
    go_wp2
    go_ret
    exact ⟨by rw [E.out, ← T.out]; rfl, HB.out⟩

theorem idxEvN_any (v : Value) (L : List UInt8) (w : World) (hL : BytesR w v L) :
    Calls Tryd.prog 31 #[v, .func (.func 30) #[] #[]] w (IdxSays (L.any (fun c : UInt8 => nameOut (c.toNat : Int))) w) := by
  obtain ⟨a, cap, rfl, hc1, hc2, hcell⟩ := bytesR_open hL
  unfold maxLen at hc2
  have HC := Lib.hid hcell; clear hcell hL
  go_enter Tryd.func31, Tryd.ntmps31
  go_wp2
  go_loopg [8] L.length (fun g i wr => ∃ k : Nat, k ≤ L.length ∧ i = .int .i64 k ∧ Hid ((L.take k).any (fun c : UInt8 => nameOut (c.toNat : Int)) = false) ∧ g = L.length - k ∧ Below w.heap.size w wr)
  case atStart => exact ⟨0, Nat.zero_le _, rfl, Lib.hid (by simp), rfl, Below.refl _ _⟩
  case round =>
    obtain ⟨k, hk, rfl, hS, hg, hb⟩ := hrel
    have G := Lib.hid hg; clear hg
    have B := Lib.hid hb
    by_cases hlt : k < L.length
    · obtain ⟨b, off, rfl, hcs⟩ := HC.out (by omega)
      have c0 := cell_below hb (hcs k hlt)
      obtain ⟨x, hx⟩ : ∃ x : Int, x = (L[k].toNat : Int) := ⟨_, rfl⟩
      have x0 : 0 ≤ x := by omega
      have x1 : x < 256 := by have := L[k].toNat_lt; omega
      rw [← hx] at c0
      have X := Lib.hid hx; clear hx hcs hb
      by_cases he : nameOut x = true
      · have E := Lib.hid (any_yes (p := (fun c : UInt8 => nameOut (c.toNat : Int))) hlt (show (fun c : UInt8 => nameOut (c.toNat : Int)) L[k] = true by show nameOut (L[k].toNat : Int) = _; rw [← X.out]; exact he))
        have V := Lib.hid he
        clear he
        go_wp2_with fail
        refine (nameOut_any x _ x0 x1).mono ?_; rintro e w2 ⟨rfl, rfl⟩
        rw [V.out]
        have B2 := B
        go_wp2
        go_ret
        exact ⟨k, rfl, by rw [E.out]; simp, B2.out⟩
      · have he' : nameOut x = false := by simpa using he
        have E := Lib.hid (any_no (p := (fun c : UInt8 => nameOut (c.toNat : Int))) hlt hS.out (show (fun c : UInt8 => nameOut (c.toNat : Int)) L[k] = false by show nameOut (L[k].toNat : Int) = _; rw [← X.out]; exact he'))
        have V := Lib.hid he'
        clear he he'
        go_wp2_with fail
        refine (nameOut_any x _ x0 x1).mono ?_; rintro e w2 ⟨rfl, rfl⟩
        rw [V.out]
        have B2 := B
        go_wp2
        go_roundg (L.length - (k + 1))
        case measure => rw [G.out]; omega
        case rel => exact ⟨k + 1, by omega, by go_num, E, rfl, B2.out⟩
    · obtain rfl : k = L.length := by omega
      have E := Lib.hid (show L.any (fun c : UInt8 => nameOut (c.toNat : Int)) = false by have := hS.out; rwa [List.take_length] at this)
      clear hS hb
      go_wp2
      go_ret
      exact ⟨-1, rfl, by rw [E.out]; simp, B.out⟩

theorem contEvN_any (v : Value) (L : List UInt8) (w : World) (hL : BytesR w v L) :
    Calls Tryd.prog 12 #[v, .func (.func 30) #[] #[]] w fun e w' => e = .returned (.bool (L.any (fun c : UInt8 => nameOut (c.toNat : Int)))) ∧ Below w.heap.size w w' := by
  go_enter Tryd.func12, Tryd.ntmps12
  go_wp2_with fail
  refine (idxEvN_any v L _ hL).mono ?_
  rintro e w1 ⟨r, rfl, hr, hb⟩
  have R := Lib.hid hr; clear hr
  go_wp2
  go_ret
  exact ⟨ret_bool R.out, hb⟩

theorem idxEvT_any (v : Value) (L : List UInt8) (w : World) (hL : BytesR w v L) :
    Calls Tryd.prog 31 #[v, .func (.func 13) #[] #[]] w (IdxSays (L.any (fun c : UInt8 => textOut (c.toNat : Int))) w) := by
  obtain ⟨a, cap, rfl, hc1, hc2, hcell⟩ := bytesR_open hL
  unfold maxLen at hc2
  have HC := Lib.hid hcell; clear hcell hL
  go_enter Tryd.func31, Tryd.ntmps31
  go_wp2
  go_loopg [8] L.length (fun g i wr => ∃ k : Nat, k ≤ L.length ∧ i = .int .i64 k ∧ Hid ((L.take k).any (fun c : UInt8 => textOut (c.toNat : Int)) = false) ∧ g = L.length - k ∧ Below w.heap.size w wr)
  case atStart => exact ⟨0, Nat.zero_le _, rfl, Lib.hid (by simp), rfl, Below.refl _ _⟩
  case round =>
    obtain ⟨k, hk, rfl, hS, hg, hb⟩ := hrel
    have G := Lib.hid hg; clear hg
    have B := Lib.hid hb
    by_cases hlt : k < L.length
    · obtain ⟨b, off, rfl, hcs⟩ := HC.out (by omega)
      have c0 := cell_below hb (hcs k hlt)
      obtain ⟨x, hx⟩ : ∃ x : Int, x = (L[k].toNat : Int) := ⟨_, rfl⟩
      have x0 : 0 ≤ x := by omega
      have x1 : x < 256 := by have := L[k].toNat_lt; omega
      rw [← hx] at c0
      have X := Lib.hid hx; clear hx hcs hb
      by_cases he : textOut x = true
      · have E := Lib.hid (any_yes (p := (fun c : UInt8 => textOut (c.toNat : Int))) hlt (show (fun c : UInt8 => textOut (c.toNat : Int)) L[k] = true by show textOut (L[k].toNat : Int) = _; rw [← X.out]; exact he))
        have V := Lib.hid he
        clear he
        go_wp2_with fail
        refine (textOut_any x _ x0 x1).mono ?_; rintro e w2 ⟨rfl, rfl⟩
        rw [V.out]
        have B2 := B
        go_wp2
        go_ret
        exact ⟨k, rfl, by rw [E.out]; simp, B2.out⟩
      · have he' : textOut x = false := by simpa using he
        have E := Lib.hid (any_no (p := (fun c : UInt8 => textOut (c.toNat : Int))) hlt hS.out (show (fun c : UInt8 => textOut (c.toNat : Int)) L[k] = false by show textOut (L[k].toNat : Int) = _; rw [← X.out]; exact he'))
        have V := Lib.hid he'
        clear he he'
        go_wp2_with fail
        refine (textOut_any x _ x0 x1).mono ?_; rintro e w2 ⟨rfl, rfl⟩
        rw [V.out]
        have B2 := B
        go_wp2
        go_roundg (L.length - (k + 1))
        case measure => rw [G.out]; omega
        case rel => exact ⟨k + 1, by omega, by go_num, E, rfl, B2.out⟩
    · obtain rfl : k = L.length := by omega
      have E := Lib.hid (show L.any (fun c : UInt8 => textOut (c.toNat : Int)) = false by have := hS.out; rwa [List.take_length] at this)
      clear hS hb
      go_wp2
      go_ret
      exact ⟨-1, rfl, by rw [E.out]; simp, B.out⟩

theorem contEvT_any (v : Value) (L : List UInt8) (w : World) (hL : BytesR w v L) :
    Calls Tryd.prog 12 #[v, .func (.func 13) #[] #[]] w fun e w' => e = .returned (.bool (L.any (fun c : UInt8 => textOut (c.toNat : Int)))) ∧ Below w.heap.size w w' := by
  go_enter Tryd.func12, Tryd.ntmps12
  go_wp2_with fail
  refine (idxEvT_any v L _ hL).mono ?_
  rintro e w1 ⟨r, rfl, hr, hb⟩
  have R := Lib.hid hr; clear hr
  go_wp2
  go_ret
  exact ⟨ret_bool R.out, hb⟩

theorem idxEvI_any (v : Value) (L : List Int) (w : World) (hL : IntsR w v L) :
    Calls Tryd.prog 42 #[v, .func (.func 10) #[] #[]] w (IdxSays (L.any badT) w) := by
  obtain ⟨a, cap, rfl, hc1, hc2, hcell⟩ := intsR_open hL
  unfold maxLen at hc2
  have HC := Lib.hid hcell; clear hcell hL
  go_enter Tryd.func42, Tryd.ntmps42
  go_wp2
  go_loopg [8] L.length (fun g i wr => ∃ k : Nat, k ≤ L.length ∧ i = .int .i64 k ∧ Hid ((L.take k).any badT = false) ∧ g = L.length - k ∧ Below w.heap.size w wr)
  case atStart => exact ⟨0, Nat.zero_le _, rfl, Lib.hid (by simp), rfl, Below.refl _ _⟩
  case round =>
    obtain ⟨k, hk, rfl, hS, hg, hb⟩ := hrel
    have G := Lib.hid hg; clear hg
    have B := Lib.hid hb
    by_cases hlt : k < L.length
    · obtain ⟨b, off, rfl, hcs⟩ := HC.out (by omega)
      have c0 := cell_below hb (hcs k hlt)
      obtain ⟨x, hx⟩ : ∃ x, x = L[k] := ⟨_, rfl⟩
      rw [← hx] at c0
      have X := Lib.hid hx; clear hx hcs hb
      by_cases he : badT x = true
      · have E := Lib.hid (any_yes (p := badT) hlt (show badT L[k] = true by show badT L[k] = _; rw [← X.out]; exact he))
        have V := Lib.hid he
        clear he
        go_wp2_with fail
        refine (badT_any x _).mono ?_; rintro e w2 ⟨rfl, rfl⟩
        rw [V.out]
        have B2 := B
        go_wp2
        go_ret
        exact ⟨k, rfl, by rw [E.out]; simp, B2.out⟩
      · have he' : badT x = false := by simpa using he
        have E := Lib.hid (any_no (p := badT) hlt hS.out (show badT L[k] = false by show badT L[k] = _; rw [← X.out]; exact he'))
        have V := Lib.hid he'
        clear he he'
        go_wp2_with fail
        refine (badT_any x _).mono ?_; rintro e w2 ⟨rfl, rfl⟩
        rw [V.out]
        have B2 := B
        go_wp2
        go_roundg (L.length - (k + 1))
        case measure => rw [G.out]; omega
        case rel => exact ⟨k + 1, by omega, by go_num, E, rfl, B2.out⟩
    · obtain rfl : k = L.length := by omega
      have E := Lib.hid (show L.any badT = false by have := hS.out; rwa [List.take_length] at this)
      clear hS hb
      go_wp2
      go_ret
      exact ⟨-1, rfl, by rw [E.out]; simp, B.out⟩

theorem contEvI_any (v : Value) (L : List Int) (w : World) (hL : IntsR w v L) :
    Calls Tryd.prog 16 #[v, .func (.func 10) #[] #[]] w fun e w' => e = .returned (.bool (L.any badT)) ∧ Below w.heap.size w w' := by
  go_enter Tryd.func16, Tryd.ntmps16
  go_wp2_with fail
  refine (idxEvI_any v L _ hL).mono ?_
  rintro e w1 ⟨r, rfl, hr, hb⟩
  have R := Lib.hid hr; clear hr
  go_wp2
  go_ret
  exact ⟨ret_bool R.out, hb⟩

theorem idxEvC_any (v : Value) (L : List (Int × Int)) (fb : Nat) (w : World) (hL : PairsR w v L) (hf : w.cell? ⟨fb, 0, none⟩ = some (.func (.func 10) #[] #[])) :
    Calls Tryd.prog 44 #[v, .func (.func 19) #[] #[.pointer (some ⟨fb, 0, none⟩)]] w (IdxSays (L.any badC) w) := by
  obtain ⟨a, cap, rfl, hc1, hc2, hcell⟩ := pairsR_open hL
  unfold maxLen at hc2
  have HC := Lib.hid hcell; clear hcell hL
  have HF := Lib.hid hf; clear hf
  go_enter Tryd.func44, Tryd.ntmps44
  go_wp2
  go_loopg [8] L.length (fun g i wr => ∃ k : Nat, k ≤ L.length ∧ i = .int .i64 k ∧ Hid ((L.take k).any badC = false) ∧ g = L.length - k ∧ Below w.heap.size w wr)
  case atStart => exact ⟨0, Nat.zero_le _, rfl, Lib.hid (by simp), rfl, Below.refl _ _⟩
  case round =>
    obtain ⟨k, hk, rfl, hS, hg, hb⟩ := hrel
    have G := Lib.hid hg; clear hg
    have B := Lib.hid hb
    by_cases hlt : k < L.length
    · obtain ⟨b, off, rfl, hcs⟩ := HC.out (by omega)
      have c0 := cell_below hb (hcs k hlt).1
      have c1 := cell_below hb (hcs k hlt).2
      have cf := Lib.hid (cell_below hb HF.out)
      obtain ⟨x, hx⟩ : ∃ x, x = L[k].1 := ⟨_, rfl⟩
      obtain ⟨y, hy⟩ : ∃ y, y = L[k].2 := ⟨_, rfl⟩
      rw [← hx] at c0; rw [← hy] at c1
      have XY := Lib.hid (show L[k] = (x, y) by rw [hx, hy])
      clear hx hy hcs hb
      by_cases he : badC (x, y) = true
      · have E := Lib.hid (any_yes (p := badC) hlt (show badC L[k] = true by show badC L[k] = _; rw [XY.out]; exact he))
        have V := Lib.hid he
        clear he
        go_wp2_with fail
        refine (badC_any x y fb _ cf.out).mono ?_; rintro e w2 ⟨rfl, hb2⟩
        rw [V.out]
        have B2 := Lib.hid (B.out.trans (hb2.mono B.out.size)); clear hb2
        go_wp2
        go_ret
        exact ⟨k, rfl, by rw [E.out]; simp, B2.out⟩
      · have he' : badC (x, y) = false := by simpa using he
        have E := Lib.hid (any_no (p := badC) hlt hS.out (show badC L[k] = false by show badC L[k] = _; rw [XY.out]; exact he'))
        have V := Lib.hid he'
        clear he he'
        go_wp2_with fail
        refine (badC_any x y fb _ cf.out).mono ?_; rintro e w2 ⟨rfl, hb2⟩
        rw [V.out]
        have B2 := Lib.hid (B.out.trans (hb2.mono B.out.size)); clear hb2
        go_wp2
        go_roundg (L.length - (k + 1))
        case measure => rw [G.out]; omega
        case rel => exact ⟨k + 1, by omega, by go_num, E, rfl, B2.out⟩
    · obtain rfl : k = L.length := by omega
      have E := Lib.hid (show L.any badC = false by have := hS.out; rwa [List.take_length] at this)
      clear hS hb
      go_wp2
      go_ret
      exact ⟨-1, rfl, by rw [E.out]; simp, B.out⟩

theorem contEvC_any (v : Value) (L : List (Int × Int)) (fb : Nat) (w : World) (hL : PairsR w v L) (hf : w.cell? ⟨fb, 0, none⟩ = some (.func (.func 10) #[] #[])) :
    Calls Tryd.prog 18 #[v, .func (.func 19) #[] #[.pointer (some ⟨fb, 0, none⟩)]] w fun e w' => e = .returned (.bool (L.any badC)) ∧ Below w.heap.size w w' := by
  go_enter Tryd.func18, Tryd.ntmps18
  go_wp2_with fail
  refine (idxEvC_any v L fb _ hL hf).mono ?_
  rintro e w1 ⟨r, rfl, hr, hb⟩
  have R := Lib.hid hr; clear hr hf
  go_wp2
  go_ret
  exact ⟨ret_bool R.out, hb⟩

end Go.Proofs.YtkpmddlinlcobaaDoor
