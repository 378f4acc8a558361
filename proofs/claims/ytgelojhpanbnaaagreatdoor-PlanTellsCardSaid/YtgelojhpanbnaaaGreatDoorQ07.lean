/- Texts joined into one (a claim has at most 60 files): Contracts of event.Name, rises, empty, Alarm, and of slices.ContainsFunc at event.Check's closures; Contracts of event.Name, of the check of a text, of event.rises, empty, Alarm; Contract of slices.Concat at three lists of numbers (of at most 100 each). -/
import Derived.Test.YtgelojhpanbnaaaGreatDoorQ04
import Derived.Test.YtgelojhpanbnaaaGreatDoorQ06
import Derived.Deep.LoopGhost
import Derived.Deep.DeepCutAuto
import Derived.Deep.CutBlock
import Derived.Outline
import Derived.Laws.AppendOwn
import Derived.Test.YtgelojhpanbnaaaGreatDoorQ05
import Derived.Test.YtgelojhpanbnaaaGreatDoorShGrowI
namespace Go.Proofs.YtgelojhpanbnaaaGreatDoor
open Go.RowKit
set_option linter.unusedSimpArgs false
set_option linter.unusedVariables false

def BytesR (w : World) (v : Value) (L : List UInt8) : Prop := Reads w v 1 L.length (byV L)

theorem BytesR.below {w w' : World} {v : Value} {L : List UInt8} (h : BytesR w v L) (hb : Below w.heap.size w w') : BytesR w' v L := Reads.below h hb

theorem bytesR_open {w : World} {v : Value} {L : List UInt8} (h : BytesR w v L) : ∃ a cap, v = .slice a L.length cap ∧ L.length ≤ cap ∧ cap ≤ maxLen ∧
    (0 < L.length → ∃ b off, a = some ⟨b, off, none⟩ ∧ ∀ j (hj : j < L.length), w.cell? ⟨b, off + j, none⟩ = some (.int .u8 (L[j].toNat : Int))) := by
  obtain ⟨a, cap, h1, _, h3, h4, h5⟩ := h
  refine ⟨a, cap, h1, h3, h4, fun hn => ?_⟩
  obtain ⟨b, off, h6, h7⟩ := h5 hn
  exact ⟨b, off, h6, fun j hj => h7 j _ (by simp [byV, hj])⟩

def nameOut (n : Int) : Bool := decide (n < 97) || decide (122 < n)
def textOut (n : Int) : Bool := decide (n < 32) || decide (126 < n)
def badT (n : Int) : Bool := !timeB n
def badC (s : Int × Int) : Bool := s.2 != 0 && !timeB s.2

theorem nameOut_any (n : Int) (w : World) (h0 : 0 ≤ n) (h1 : n < 256) :
    Calls Tryz.prog 129 #[.int .u8 n] w fun e w' => e = .returned (.bool (nameOut n)) ∧ w = w' := by
  by_cases h2 : n < 97
  · have E := Lib.hid (show nameOut n = true by simp [nameOut, h2])
    go_enter Tryz.func129, Tryz.ntmps129
    go_wp2
    go_ret
    exact ⟨by rw [E.out]; rfl, rfl⟩
  by_cases h3 : 122 < n
  · have E := Lib.hid (show nameOut n = true by simp [nameOut, h3])
    go_enter Tryz.func129, Tryz.ntmps129
    go_wp2
    go_ret
    exact ⟨by rw [E.out]; rfl, rfl⟩
  · have E := Lib.hid (show nameOut n = false by simp [nameOut]; omega)
    go_enter Tryz.func129, Tryz.ntmps129
    go_wp2
    go_ret
    exact ⟨by rw [E.out]; rfl, rfl⟩

theorem textOut_any (n : Int) (w : World) (h0 : 0 ≤ n) (h1 : n < 256) :
    Calls Tryz.prog 62 #[.int .u8 n] w fun e w' => e = .returned (.bool (textOut n)) ∧ w = w' := by
  by_cases h2 : n < 32
  · have E := Lib.hid (show textOut n = true by simp [textOut, h2])
    go_enter Tryz.func62, Tryz.ntmps62
    go_wp2
    go_ret
    exact ⟨by rw [E.out]; rfl, rfl⟩
  by_cases h3 : 126 < n
  · have E := Lib.hid (show textOut n = true by simp [textOut, h3])
    go_enter Tryz.func62, Tryz.ntmps62
    go_wp2
    go_ret
    exact ⟨by rw [E.out]; rfl, rfl⟩
  · have E := Lib.hid (show textOut n = false by simp [textOut]; omega)
    go_enter Tryz.func62, Tryz.ntmps62
    go_wp2
    go_ret
    exact ⟨by rw [E.out]; rfl, rfl⟩

theorem badT_any (n : Int) (w : World) :
    Calls Tryz.prog 59 #[.int .i64 n] w fun e w' => e = .returned (.bool (badT n)) ∧ w = w' := by
  obtain ⟨t, ht⟩ : ∃ t, t = timeB n := ⟨_, rfl⟩
  have E := Lib.hid (show badT n = !t by rw [badT, ht])
  have T := Lib.hid ht
  clear ht
  go_enter Tryz.func59, Tryz.ntmps59
  go_wp2_with fail
  refine (valid_any n _).mono ?_; rintro e w1 ⟨rfl, rfl⟩
  rw [← T.out]
  go_wp2
  go_ret
  exact ⟨by rw [E.out]; rfl, rfl⟩

theorem badC_any (x y : Int) (b : Nat) (w : World) (hc : w.cell? ⟨b, 0, none⟩ = some (.func (.func 59) #[] #[])) :
    Calls Tryz.prog 68 #[.agg #[.int .i64 x, .int .i64 y], .pointer (some ⟨b, 0, none⟩)] w fun e w' => e = .returned (.bool (badC (x, y))) ∧ Below w.heap.size w w' := by
  have HB := Lib.hid (show Below w.heap.size w (w.alloc (.cells #[.int .i64 x, .int .i64 y] 134)) from (Below.refl _ _).alloc (Nat.le_refl _) _)
  have hlt : b < w.heap.size := World.block_lt_of_cell? w _ hc
  by_cases h : y = 0
  · have E := Lib.hid (show badC (x, y) = false by simp [badC, h])
    have t1 : (y == 0) = true := by simpa using h
    have t2 : (y != 0) = false := by simp [bne, t1]
    clear h
    go_enter Tryz.func68, Tryz.ntmps68
    go_wp2
    go_ret
    exact ⟨by rw [E.out]; rfl, HB.out⟩
  · have t1 : (y == 0) = false := by simpa using h
    have t2 : (y != 0) = true := by simp [bne, t1]
    have E := Lib.hid (show badC (x, y) = badT y by simp [badC, badT, h])
    clear h
    go_enter Tryz.func68, Tryz.ntmps68
    go_wp2_with fail
    refine (badT_any y _).mono ?_; rintro e w1 ⟨rfl, rfl⟩
    obtain ⟨t, ht⟩ : ∃ t, t = badT y := ⟨_, rfl⟩
    rw [← ht]
    have T := Lib.hid ht
    clear ht
    go_wp2
    go_ret
    exact ⟨by rw [E.out, ← T.out]; rfl, HB.out⟩

theorem idxEvN_any (v : Value) (L : List UInt8) (w : World) (hL : BytesR w v L) :
    Calls Tryz.prog 130 #[v, .func (.func 129) #[] #[]] w (IdxSays (L.any (fun c : UInt8 => nameOut (c.toNat : Int))) w) := by
  obtain ⟨a, cap, rfl, hc1, hc2, hcell⟩ := bytesR_open hL
  unfold maxLen at hc2
  have HC := Lib.hid hcell; clear hcell hL
  go_enter Tryz.func130, Tryz.ntmps130
  go_wp2
  go_loopg [8] L.length (fun g i wr => ∃ k : Nat, k ≤ L.length ∧ i = .int .i64 k ∧ Hid ((L.take k).any (fun c : UInt8 => nameOut (c.toNat : Int)) = false) ∧ g = L.length - k ∧ Below w.heap.size w wr)
  case atStart => exact ⟨0, Nat.zero_le _, rfl, Lib.hid (by simp), rfl, Below.refl _ _⟩
  case round =>
    obtain ⟨k, hk, rfl, hS, hg, hb⟩ := hrel
    have G := Lib.hid hg; clear hg
    have B := Lib.hid hb
    by_cases hlt : k < L.length
    · obtain ⟨b, off, rfl, hcs⟩ := HC.out (by omega)
      have c0 := cell_below hb (hcs k hlt)
      obtain ⟨x, hx⟩ : ∃ x : Int, x = (L[k].toNat : Int) := ⟨_, rfl⟩
      have x0 : 0 ≤ x := by omega
      have x1 : x < 256 := by have := L[k].toNat_lt; omega
      rw [← hx] at c0
      have X := Lib.hid hx; clear hx hcs hb
      by_cases he : nameOut x = true
      · have E := Lib.hid (any_yes (p := (fun c : UInt8 => nameOut (c.toNat : Int))) hlt (show (fun c : UInt8 => nameOut (c.toNat : Int)) L[k] = true by show nameOut (L[k].toNat : Int) = _; rw [← X.out]; exact he))
        have V := Lib.hid he
        clear he
        go_wp2_with fail
        refine (nameOut_any x _ x0 x1).mono ?_; rintro e w2 ⟨rfl, rfl⟩
        rw [V.out]
        have B2 := B
        go_wp2
        go_ret
        exact ⟨k, rfl, by rw [E.out]; simp, B2.out⟩
      · have he' : nameOut x = false := by simpa using he
        have E := Lib.hid (any_no (p := (fun c : UInt8 => nameOut (c.toNat : Int))) hlt hS.out (show (fun c : UInt8 => nameOut (c.toNat : Int)) L[k] = false by show nameOut (L[k].toNat : Int) = _; rw [← X.out]; exact he'))
        have V := Lib.hid he'
        clear he he'
        go_wp2_with fail
        refine (nameOut_any x _ x0 x1).mono ?_; rintro e w2 ⟨rfl, rfl⟩
        rw [V.out]
        have B2 := B
        go_wp2
        go_roundg (L.length - (k + 1))
        case measure => rw [G.out]; omega
        case rel => exact ⟨k + 1, by omega, by go_num, E, rfl, B2.out⟩
    · obtain rfl : k = L.length := by omega
      have E := Lib.hid (show L.any (fun c : UInt8 => nameOut (c.toNat : Int)) = false by have := hS.out; rwa [List.take_length] at this)
      clear hS hb
      go_wp2
      go_ret
      exact ⟨-1, rfl, by rw [E.out]; simp, B.out⟩

theorem contEvN_any (v : Value) (L : List UInt8) (w : World) (hL : BytesR w v L) :
    Calls Tryz.prog 61 #[v, .func (.func 129) #[] #[]] w fun e w' => e = .returned (.bool (L.any (fun c : UInt8 => nameOut (c.toNat : Int)))) ∧ Below w.heap.size w w' := by
  go_enter Tryz.func61, Tryz.ntmps61
  go_wp2_with fail
  refine (idxEvN_any v L _ hL).mono ?_
  rintro e w1 ⟨r, rfl, hr, hb⟩
  have R := Lib.hid hr; clear hr
  go_wp2
  go_ret
  exact ⟨ret_bool R.out, hb⟩

theorem idxEvT_any (v : Value) (L : List UInt8) (w : World) (hL : BytesR w v L) :
    Calls Tryz.prog 130 #[v, .func (.func 62) #[] #[]] w (IdxSays (L.any (fun c : UInt8 => textOut (c.toNat : Int))) w) := by
  obtain ⟨a, cap, rfl, hc1, hc2, hcell⟩ := bytesR_open hL
  unfold maxLen at hc2
  have HC := Lib.hid hcell; clear hcell hL
  go_enter Tryz.func130, Tryz.ntmps130
  go_wp2
  go_loopg [8] L.length (fun g i wr => ∃ k : Nat, k ≤ L.length ∧ i = .int .i64 k ∧ Hid ((L.take k).any (fun c : UInt8 => textOut (c.toNat : Int)) = false) ∧ g = L.length - k ∧ Below w.heap.size w wr)
  case atStart => exact ⟨0, Nat.zero_le _, rfl, Lib.hid (by simp), rfl, Below.refl _ _⟩
  case round =>
    obtain ⟨k, hk, rfl, hS, hg, hb⟩ := hrel
    have G := Lib.hid hg; clear hg
    have B := Lib.hid hb
    by_cases hlt : k < L.length
    · obtain ⟨b, off, rfl, hcs⟩ := HC.out (by omega)
      have c0 := cell_below hb (hcs k hlt)
      obtain ⟨x, hx⟩ : ∃ x : Int, x = (L[k].toNat : Int) := ⟨_, rfl⟩
      have x0 : 0 ≤ x := by omega
      have x1 : x < 256 := by have := L[k].toNat_lt; omega
      rw [← hx] at c0
      have X := Lib.hid hx; clear hx hcs hb
      by_cases he : textOut x = true
      · have E := Lib.hid (any_yes (p := (fun c : UInt8 => textOut (c.toNat : Int))) hlt (show (fun c : UInt8 => textOut (c.toNat : Int)) L[k] = true by show textOut (L[k].toNat : Int) = _; rw [← X.out]; exact he))
        have V := Lib.hid he
        clear he
        go_wp2_with fail
        refine (textOut_any x _ x0 x1).mono ?_; rintro e w2 ⟨rfl, rfl⟩
        rw [V.out]
        have B2 := B
        go_wp2
        go_ret
        exact ⟨k, rfl, by rw [E.out]; simp, B2.out⟩
      · have he' : textOut x = false := by simpa using he
        have E := Lib.hid (any_no (p := (fun c : UInt8 => textOut (c.toNat : Int))) hlt hS.out (show (fun c : UInt8 => textOut (c.toNat : Int)) L[k] = false by show textOut (L[k].toNat : Int) = _; rw [← X.out]; exact he'))
        have V := Lib.hid he'
        clear he he'
        go_wp2_with fail
        refine (textOut_any x _ x0 x1).mono ?_; rintro e w2 ⟨rfl, rfl⟩
        rw [V.out]
        have B2 := B
        go_wp2
        go_roundg (L.length - (k + 1))
        case measure => rw [G.out]; omega
        case rel => exact ⟨k + 1, by omega, by go_num, E, rfl, B2.out⟩
    · obtain rfl : k = L.length := by omega
      have E := Lib.hid (show L.any (fun c : UInt8 => textOut (c.toNat : Int)) = false by have := hS.out; rwa [List.take_length] at this)
      clear hS hb
      go_wp2
      go_ret
      exact ⟨-1, rfl, by rw [E.out]; simp, B.out⟩

theorem contEvT_any (v : Value) (L : List UInt8) (w : World) (hL : BytesR w v L) :
    Calls Tryz.prog 61 #[v, .func (.func 62) #[] #[]] w fun e w' => e = .returned (.bool (L.any (fun c : UInt8 => textOut (c.toNat : Int)))) ∧ Below w.heap.size w w' := by
  go_enter Tryz.func61, Tryz.ntmps61
  go_wp2_with fail
  refine (idxEvT_any v L _ hL).mono ?_
  rintro e w1 ⟨r, rfl, hr, hb⟩
  have R := Lib.hid hr; clear hr
  go_wp2
  go_ret
  exact ⟨ret_bool R.out, hb⟩

theorem idxEvI_any (v : Value) (L : List Int) (w : World) (hL : IntsR w v L) :
    Calls Tryz.prog 140 #[v, .func (.func 59) #[] #[]] w (IdxSays (L.any badT) w) := by
  obtain ⟨a, cap, rfl, hc1, hc2, hcell⟩ := intsR_open hL
  unfold maxLen at hc2
  have HC := Lib.hid hcell; clear hcell hL
  go_enter Tryz.func140, Tryz.ntmps140
  go_wp2
  go_loopg [8] L.length (fun g i wr => ∃ k : Nat, k ≤ L.length ∧ i = .int .i64 k ∧ Hid ((L.take k).any badT = false) ∧ g = L.length - k ∧ Below w.heap.size w wr)
  case atStart => exact ⟨0, Nat.zero_le _, rfl, Lib.hid (by simp), rfl, Below.refl _ _⟩
  case round =>
    obtain ⟨k, hk, rfl, hS, hg, hb⟩ := hrel
    have G := Lib.hid hg; clear hg
    have B := Lib.hid hb
    by_cases hlt : k < L.length
    · obtain ⟨b, off, rfl, hcs⟩ := HC.out (by omega)
      have c0 := cell_below hb (hcs k hlt)
      obtain ⟨x, hx⟩ : ∃ x, x = L[k] := ⟨_, rfl⟩
      rw [← hx] at c0
      have X := Lib.hid hx; clear hx hcs hb
      by_cases he : badT x = true
      · have E := Lib.hid (any_yes (p := badT) hlt (show badT L[k] = true by show badT L[k] = _; rw [← X.out]; exact he))
        have V := Lib.hid he
        clear he
        go_wp2_with fail
        refine (badT_any x _).mono ?_; rintro e w2 ⟨rfl, rfl⟩
        rw [V.out]
        have B2 := B
        go_wp2
        go_ret
        exact ⟨k, rfl, by rw [E.out]; simp, B2.out⟩
      · have he' : badT x = false := by simpa using he
        have E := Lib.hid (any_no (p := badT) hlt hS.out (show badT L[k] = false by show badT L[k] = _; rw [← X.out]; exact he'))
        have V := Lib.hid he'
        clear he he'
        go_wp2_with fail
        refine (badT_any x _).mono ?_; rintro e w2 ⟨rfl, rfl⟩
        rw [V.out]
        have B2 := B
        go_wp2
        go_roundg (L.length - (k + 1))
        case measure => rw [G.out]; omega
        case rel => exact ⟨k + 1, by omega, by go_num, E, rfl, B2.out⟩
    · obtain rfl : k = L.length := by omega
      have E := Lib.hid (show L.any badT = false by have := hS.out; rwa [List.take_length] at this)
      clear hS hb
      go_wp2
      go_ret
      exact ⟨-1, rfl, by rw [E.out]; simp, B.out⟩

theorem contEvI_any (v : Value) (L : List Int) (w : World) (hL : IntsR w v L) :
    Calls Tryz.prog 65 #[v, .func (.func 59) #[] #[]] w fun e w' => e = .returned (.bool (L.any badT)) ∧ Below w.heap.size w w' := by
  go_enter Tryz.func65, Tryz.ntmps65
  go_wp2_with fail
  refine (idxEvI_any v L _ hL).mono ?_
  rintro e w1 ⟨r, rfl, hr, hb⟩
  have R := Lib.hid hr; clear hr
  go_wp2
  go_ret
  exact ⟨ret_bool R.out, hb⟩

theorem idxEvC_any (v : Value) (L : List (Int × Int)) (fb : Nat) (w : World) (hL : PairsR w v L) (hf : w.cell? ⟨fb, 0, none⟩ = some (.func (.func 59) #[] #[])) :
    Calls Tryz.prog 142 #[v, .func (.func 68) #[] #[.pointer (some ⟨fb, 0, none⟩)]] w (IdxSays (L.any badC) w) := by
  obtain ⟨a, cap, rfl, hc1, hc2, hcell⟩ := pairsR_open hL
  unfold maxLen at hc2
  have HC := Lib.hid hcell; clear hcell hL
  have HF := Lib.hid hf; clear hf
  go_enter Tryz.func142, Tryz.ntmps142
  go_wp2
  go_loopg [8] L.length (fun g i wr => ∃ k : Nat, k ≤ L.length ∧ i = .int .i64 k ∧ Hid ((L.take k).any badC = false) ∧ g = L.length - k ∧ Below w.heap.size w wr)
  case atStart => exact ⟨0, Nat.zero_le _, rfl, Lib.hid (by simp), rfl, Below.refl _ _⟩
  case round =>
    obtain ⟨k, hk, rfl, hS, hg, hb⟩ := hrel
    have G := Lib.hid hg; clear hg
    have B := Lib.hid hb
    by_cases hlt : k < L.length
    · obtain ⟨b, off, rfl, hcs⟩ := HC.out (by omega)
      have c0 := cell_below hb (hcs k hlt).1
      have c1 := cell_below hb (hcs k hlt).2
      have cf := Lib.hid (cell_below hb HF.out)
      obtain ⟨x, hx⟩ : ∃ x, x = L[k].1 := ⟨_, rfl⟩
      obtain ⟨y, hy⟩ : ∃ y, y = L[k].2 := ⟨_, rfl⟩
      rw [← hx] at c0; rw [← hy] at c1
      have XY := Lib.hid (show L[k] = (x, y) by rw [hx, hy])
      clear hx hy hcs hb
      by_cases he : badC (x, y) = true
      · have E := Lib.hid (any_yes (p := badC) hlt (show badC L[k] = true by show badC L[k] = _; rw [XY.out]; exact he))
        have V := Lib.hid he
        clear he
        go_wp2_with fail
        refine (badC_any x y fb _ cf.out).mono ?_; rintro e w2 ⟨rfl, hb2⟩
        rw [V.out]
        have B2 := Lib.hid (B.out.trans (hb2.mono B.out.size)); clear hb2
        go_wp2
        go_ret
        exact ⟨k, rfl, by rw [E.out]; simp, B2.out⟩
      · have he' : badC (x, y) = false := by simpa using he
        have E := Lib.hid (any_no (p := badC) hlt hS.out (show badC L[k] = false by show badC L[k] = _; rw [XY.out]; exact he'))
        have V := Lib.hid he'
        clear he he'
        go_wp2_with fail
        refine (badC_any x y fb _ cf.out).mono ?_; rintro e w2 ⟨rfl, hb2⟩
        rw [V.out]
        have B2 := Lib.hid (B.out.trans (hb2.mono B.out.size)); clear hb2
        go_wp2
        go_roundg (L.length - (k + 1))
        case measure => rw [G.out]; omega
        case rel => exact ⟨k + 1, by omega, by go_num, E, rfl, B2.out⟩
    · obtain rfl : k = L.length := by omega
      have E := Lib.hid (show L.any badC = false by have := hS.out; rwa [List.take_length] at this)
      clear hS hb
      go_wp2
      go_ret
      exact ⟨-1, rfl, by rw [E.out]; simp, B.out⟩

theorem contEvC_any (v : Value) (L : List (Int × Int)) (fb : Nat) (w : World) (hL : PairsR w v L) (hf : w.cell? ⟨fb, 0, none⟩ = some (.func (.func 59) #[] #[])) :
    Calls Tryz.prog 67 #[v, .func (.func 68) #[] #[.pointer (some ⟨fb, 0, none⟩)]] w fun e w' => e = .returned (.bool (L.any badC)) ∧ Below w.heap.size w w' := by
  go_enter Tryz.func67, Tryz.ntmps67
  go_wp2_with fail
  refine (idxEvC_any v L fb _ hL hf).mono ?_
  rintro e w1 ⟨r, rfl, hr, hb⟩
  have R := Lib.hid hr; clear hr hf
  go_wp2
  go_ret
  exact ⟨ret_bool R.out, hb⟩

end Go.Proofs.YtgelojhpanbnaaaGreatDoor

namespace Go.Proofs.YtgelojhpanbnaaaGreatDoor
open Go.RowKit
set_option linter.unusedSimpArgs false
set_option linter.unusedVariables false

theorem bytesR_new (w : World) (t : TypeId) (l : List UInt8) (h : l.length ≤ 140737488351232) :
    BytesR (Lib.bytesWorld w t (bs l)) (.slice (some ⟨w.heap.size, 0, none⟩) l.length (grownCap w l.length 0 t)) l := by
  refine ⟨_, _, rfl, by simp [byV], grownCap_ge _ _ _ _, grownCap_le_maxLen _ _ _ _ (by unfold maxLen; omega), fun h0 => ⟨_, 0, rfl, fun j v hv => ?_⟩⟩
  have hj : j < l.length := by
    have := (List.getElem?_eq_some_iff.1 hv).1
    simpa [byV] using this
  rw [Nat.zero_add, Lib.bytesWorld_cell w _ _ j (by rw [bs_size]; exact hj)]
  have e : (byV l)[j]? = some (.int .u8 (l[j].toNat : Int)) := by simp [byV, hj]
  rw [e] at hv
  cases hv
  simp [bs, hj]

def nameB (l : List UInt8) : Bool := !l.isEmpty && decide (l.length ≤ 8) && !l.any (fun c : UInt8 => nameOut (c.toNat : Int))

set_option maxHeartbeats 2000000 in
theorem name_any (l : List UInt8) (w : World) (hl : l.length ≤ 140737488351232) :
    Calls Tryz.prog 60 #[.string (bs l)] w fun e w' => e = .returned (.bool (nameB l)) ∧ Below w.heap.size w w' := by
  have hcv := Lib.run_convert_string_bytes (P := Tryz.prog) w 9 129 5 (bs l) Tryz.underlying9 Tryz.underlying129 Tryz.underlying5
  have hN := bytesR_new w 5 l hl
  have hB : Below w.heap.size w (Lib.bytesWorld w 5 (bs l)) := Joins.below_bytesWorld _ w _ _ (Nat.le_refl _)
  rw [bs_size] at hcv
  obtain ⟨cap, hcap⟩ : ∃ cap, cap = grownCap w l.length 0 5 := ⟨_, rfl⟩
  obtain ⟨wb, hwb⟩ : ∃ wb, wb = Lib.bytesWorld w 5 (bs l) := ⟨_, rfl⟩
  rw [← hcap, ← hwb] at hcv hN
  rw [← hwb] at hB
  have NR := Lib.hid hN; have BW := Lib.hid hB
  have LT := Lib.hid (show (bs l).toList = l from bs_toList l)
  have LZ := Lib.hid (bs_size l)
  clear hcap hwb hN hB
  obtain ⟨s, hs⟩ : ∃ s, s = bs l := ⟨_, rfl⟩
  rw [← hs] at hcv LT LZ ⊢
  clear hs
  by_cases h0 : l = []
  · have E := Lib.hid (show nameB l = false by simp [nameB, h0])
    have q1 : s.toList.isEmpty = true := by rw [LT.out, h0]; rfl
    have q2 : s.toList = [] := by rw [LT.out, h0]
    clear h0
    go_enter Tryz.func60, Tryz.ntmps60
    go_wp2
    go_ret
    exact ⟨by rw [E.out]; rfl, Below.refl _ _⟩
  have q1 : s.toList.isEmpty = false := by rw [LT.out]; simpa using h0
  have q2 : ¬ s.toList = [] := by rw [LT.out]; exact h0
  by_cases h8 : l.length ≤ 8
  · have t1 : decide ((s.size : Int) ≤ 8) = true := decide_eq_true (by have := LZ.out; omega)
    have t1b : decide (s.size ≤ 8) = true := decide_eq_true (by have := LZ.out; omega)
    obtain ⟨b, hb⟩ : ∃ b, b = l.any (fun c : UInt8 => nameOut (c.toNat : Int)) := ⟨_, rfl⟩
    have E := Lib.hid (show nameB l = !b by
      rw [nameB, hb, show l.isEmpty = false by simpa using h0, decide_eq_true h8]; rfl)
    have BE := Lib.hid hb
    clear h0 h8 hb
    go_enter Tryz.func60, Tryz.ntmps60
    go_wp2_with fail
    refine (contEvN_any _ l _ NR.out).mono ?_; rintro e w2 ⟨rfl, hb2⟩
    rw [← BE.out]
    have B2 := Lib.hid (BW.out.trans (hb2.mono BW.out.size))
    clear hb2 hcv
    go_wp2
    go_ret
    exact ⟨by rw [E.out]; rfl, B2.out⟩
  · have t1 : decide ((s.size : Int) ≤ 8) = false := decide_eq_false (by have := LZ.out; omega)
    have t1b : decide (s.size ≤ 8) = false := decide_eq_false (by have := LZ.out; omega)
    have E := Lib.hid (show nameB l = false by simp [nameB, h8])
    clear h0 h8
    go_enter Tryz.func60, Tryz.ntmps60
    go_wp2
    go_ret
    exact ⟨by rw [E.out]; rfl, Below.refl _ _⟩

theorem evrises_any (v : Value) (L : List Int) (w : World) (hL : IntsR w v L) :
    Calls Tryz.prog 69 #[v] w fun e w' => e = .returned (.bool (risesB L)) ∧ Below w.heap.size w w' := by
  obtain ⟨a, cap, rfl, hc1, hc2, hcell⟩ := intsR_open hL
  unfold maxLen at hc2
  have HC := Lib.hid hcell; clear hcell hL
  go_enter Tryz.func69, Tryz.ntmps69
  go_wp2
  go_loopg [3] L.length (fun g i wr => ∃ k : Nat, 1 ≤ k ∧ k ≤ L.length + 1 ∧ i = .int .i64 k ∧ Hid ((L.take k).Pairwise (· < ·)) ∧ g = L.length + 1 - k ∧ Below w.heap.size w wr)
  case atStart => exact ⟨1, by omega, by omega, rfl, Lib.hid (by cases L <;> simp), by omega, Below.refl _ _⟩
  case round =>
    obtain ⟨k, hk1, hk, rfl, hS, hg, hb⟩ := hrel
    have G := Lib.hid hg; clear hg
    by_cases hlt : k < L.length
    · obtain ⟨b, off, rfl, hcs⟩ := HC.out (by omega)
      have hkm : k - 1 < L.length := by omega
      have c0 := cell_below hb (hcs k hlt)
      have d0 := cell_below hb (hcs (k - 1) hkm)
      obtain ⟨x, hx⟩ : ∃ x, x = L[k] := ⟨_, rfl⟩
      obtain ⟨p, hp⟩ : ∃ p, p = L[k - 1] := ⟨_, rfl⟩
      rw [← hx] at c0; rw [← hp] at d0
      have X := Lib.hid hx; have P := Lib.hid hp; have B := Lib.hid hb
      clear hx hp hcs hb
      have i1 : (0 : Int) ≤ (k : Int) := Int.natCast_nonneg _
      have i2 : (k : Int) < (L.length : Int) := by omega
      by_cases he : p < x
      · have E := Lib.hid (pw_snoc hlt (by omega) hS.out (by rw [← X.out, ← P.out]; exact he))
        have t1 : decide (x ≤ p) = false := decide_eq_false (by omega)
        clear he
        go_wp2
        have s1 : IntKind.i64.wrap ((k : Int) - 1) = (k : Int) - 1 := IntWalk.i64_in _ (by omega)
        have s2 : (0 : Int) ≤ (k : Int) - 1 := by omega
        have s3 : (1 : Int) ≤ (k : Int) := by omega
        have s4 : ((k : Int) - 1).toNat = k - 1 := by omega
        have s5 : (k : Int) - 1 < (L.length : Int) := by omega
        go_quiet (fail)
        clear s1 s2 s3 s4 s5
        go_wp2
        go_roundg (L.length + 1 - (k + 1))
        case measure => rw [G.out]; omega
        case rel => exact ⟨k + 1, by omega, by omega, by go_num, E, rfl, below_drewN B.out _⟩
      · have E := Lib.hid (risesB_no hlt (by omega) (by rw [← X.out, ← P.out]; omega))
        have t1 : decide (x ≤ p) = true := decide_eq_true (by omega)
        clear he
        go_wp2
        have s1 : IntKind.i64.wrap ((k : Int) - 1) = (k : Int) - 1 := IntWalk.i64_in _ (by omega)
        have s2 : (0 : Int) ≤ (k : Int) - 1 := by omega
        have s3 : (1 : Int) ≤ (k : Int) := by omega
        have s4 : ((k : Int) - 1).toNat = k - 1 := by omega
        have s5 : (k : Int) - 1 < (L.length : Int) := by omega
        go_quiet (fail)
        clear s1 s2 s3 s4 s5
        go_wp2
        go_ret
        exact ⟨by rw [E.out]; rfl, below_drewN B.out _⟩
    · have E := Lib.hid (risesB_yes (L := L) (by have := hS.out; rwa [List.take_of_length_le (by omega)] at this))
      have B := Lib.hid hb
      have hge : ¬ (k : Int) < (L.length : Int) := by omega
      clear hS hb
      go_wp2
      go_ret
      exact ⟨by rw [E.out]; rfl, B.out⟩

def sumW (a b c d : Nat) : Int := wrap64 (wrap64 (wrap64 ((a : Int) + (b : Int)) + (c : Int)) + (d : Int))
def emptyB (fr ev ct ti : Int) (a b c d : Nat) : Bool := fr == 0 && ev == 0 && ct == 0 && ti == 0 && sumW a b c d == 0

set_option maxHeartbeats 2000000 in
theorem empty_any (fr ev ct ti : Int) (vm vd vw vp : Value) (mo da : List Int) (we : List (Int × Int)) (pk : List Int) (w : World) (h1 : IntsR w vm mo) (h2 : IntsR w vd da) (h3 : PairsR w vw we) (h4 : IntsR w vp pk) :
    Calls Tryz.prog 63 #[.agg #[.int .i64 fr, .int .i64 ev, .int .i64 ct, .int .i64 ti, vm, vd, vw, vp]] w fun e w' => e = .returned (.bool (emptyB fr ev ct ti mo.length da.length we.length pk.length)) ∧ Below w.heap.size w w' := by
  obtain ⟨a1, c1, rfl, -, k1, -⟩ := intsR_open h1
  obtain ⟨a2, c2, rfl, -, k2, -⟩ := intsR_open h2
  obtain ⟨a3, c3, rfl, -, k3, -⟩ := pairsR_open h3
  obtain ⟨a4, c4, rfl, -, k4, -⟩ := intsR_open h4
  clear k1 k2 k3 k4 h1 h2 h3 h4
  have HB := fun o => Lib.hid (show Below w.heap.size w (w.alloc o) from (Below.refl _ _).alloc (Nat.le_refl _) _)
  by_cases e1 : (fr == 0) = true
  rotate_left
  · have t : (fr == 0) = false := by simpa using e1
    have E := Lib.hid (show emptyB fr ev ct ti mo.length da.length we.length pk.length = false by simp [emptyB, t])
    clear e1
    go_enter Tryz.func63, Tryz.ntmps63
    go_wp2
    go_ret
    exact ⟨by rw [E.out]; rfl, (HB _).out⟩
  by_cases e2 : (ev == 0) = true
  rotate_left
  · have t : (ev == 0) = false := by simpa using e2
    have E := Lib.hid (show emptyB fr ev ct ti mo.length da.length we.length pk.length = false by simp [emptyB, t])
    clear e2
    go_enter Tryz.func63, Tryz.ntmps63
    go_wp2
    go_ret
    exact ⟨by rw [E.out]; rfl, (HB _).out⟩
  by_cases e3 : (ct == 0) = true
  rotate_left
  · have t : (ct == 0) = false := by simpa using e3
    have E := Lib.hid (show emptyB fr ev ct ti mo.length da.length we.length pk.length = false by simp [emptyB, t])
    clear e3
    go_enter Tryz.func63, Tryz.ntmps63
    go_wp2
    go_ret
    exact ⟨by rw [E.out]; rfl, (HB _).out⟩
  by_cases e4 : (ti == 0) = true
  rotate_left
  · have t : (ti == 0) = false := by simpa using e4
    have E := Lib.hid (show emptyB fr ev ct ti mo.length da.length we.length pk.length = false by simp [emptyB, t])
    clear e4
    go_enter Tryz.func63, Tryz.ntmps63
    go_wp2
    go_ret
    exact ⟨by rw [E.out]; rfl, (HB _).out⟩
  have E := Lib.hid (show emptyB fr ev ct ti mo.length da.length we.length pk.length = (sumW mo.length da.length we.length pk.length == 0) by simp only [emptyB, e1, e2, e3, e4, Bool.true_and])
  go_enter Tryz.func63, Tryz.ntmps63
  go_wp2
  go_ret
  exact ⟨by rw [E.out]; rfl, (HB _).out⟩

def almE (o r b : Int) : Int :=
  if o < -100000 ∨ 100000 < o ∨ r < 0 ∨ 5 < r ∨ (0 < r ∧ (b < 1 ∨ 10000 < b)) ∨ (r = 0 ∧ b ≠ 0) then 1 else 0

set_option maxHeartbeats 2000000 in
theorem alarm_any (o r b : Int) (en : Bool) (w : World) :
    Calls Tryz.prog 70 #[.agg #[.int .i64 o, .bool en, .int .i64 r, .int .i64 b]] w fun e w' => e = .returned (errV (almE o r b)) ∧ Below w.heap.size w w' := by
  have HB := fun o => Lib.hid (show Below w.heap.size w (w.alloc o) from (Below.refl _ _).alloc (Nat.le_refl _) _)
  by_cases h : o < -100000 ∨ 100000 < o ∨ r < 0 ∨ 5 < r ∨ (0 < r ∧ (b < 1 ∨ 10000 < b)) ∨ (r = 0 ∧ b ≠ 0)
  · have E := Lib.hid (show almE o r b = 1 by rw [almE, if_pos h])
    have tt : decide (o < -100000) = true ∨
      (decide (o < -100000) = false ∧ decide (100000 < o) = true) ∨
      (decide (o < -100000) = false ∧ decide (100000 < o) = false ∧ decide (r < 0) = true) ∨
      (decide (o < -100000) = false ∧ decide (100000 < o) = false ∧ decide (r < 0) = false ∧ decide (5 < r) = true) ∨
      (decide (o < -100000) = false ∧ decide (100000 < o) = false ∧ decide (r < 0) = false ∧ decide (5 < r) = false ∧ decide (0 < r) = true ∧ decide (b < 1) = true) ∨
      (decide (o < -100000) = false ∧ decide (100000 < o) = false ∧ decide (r < 0) = false ∧ decide (5 < r) = false ∧ decide (0 < r) = true ∧ decide (b < 1) = false ∧ decide (10000 < b) = true) ∨
      (decide (o < -100000) = false ∧ decide (100000 < o) = false ∧ decide (r < 0) = false ∧ decide (5 < r) = false ∧ decide (0 < r) = false ∧ (r == 0) = true ∧ (b == 0) = false ∧ (b != 0) = true) := by
      simp only [decide_eq_true_eq, decide_eq_false_iff_not, beq_iff_eq, beq_eq_false_iff_ne, bne_iff_ne, ne_eq]; omega
    clear h
    rcases tt with t1 | ⟨t1, t2⟩ | ⟨t1, t2, t3⟩ | ⟨t1, t2, t3, t4⟩ | ⟨t1, t2, t3, t4, t5, t6⟩ | ⟨t1, t2, t3, t4, t5, t6, t7⟩ | ⟨t1, t2, t3, t4, t5, t6, t7, t8⟩
    all_goals
      go_enter Tryz.func70, Tryz.ntmps70
      go_wp2
      go_ret
      exact ⟨by rw [E.out]; rfl, (HB _).out⟩
  · have E := Lib.hid (show almE o r b = 0 by rw [almE, if_neg h])
    have t1 : decide (o < -100000) = false := decide_eq_false (by omega)
    have t2 : decide (100000 < o) = false := decide_eq_false (by omega)
    have t3 : decide (r < 0) = false := decide_eq_false (by omega)
    have t4 : decide (5 < r) = false := decide_eq_false (by omega)
    have tt : (decide (0 < r) = true ∧ decide (b < 1) = false ∧ decide (10000 < b) = false ∧ (r == 0) = false) ∨ (decide (0 < r) = false ∧ (r == 0) = true ∧ (b == 0) = true ∧ (b != 0) = false) := by
      simp only [decide_eq_true_eq, decide_eq_false_iff_not, beq_iff_eq, beq_eq_false_iff_ne, bne_eq_false_iff_eq, ne_eq]; omega
    clear h
    rcases tt with ⟨t5, t6, t7, t8⟩ | ⟨t5, t6, t7, t8⟩
    all_goals
      go_enter Tryz.func70, Tryz.ntmps70
      go_wp2
      go_ret
      exact ⟨by rw [E.out]; rfl, (HB _).out⟩

end Go.Proofs.YtgelojhpanbnaaaGreatDoor

namespace Go.Proofs.YtgelojhpanbnaaaGreatDoor
open Go.RowKit Go.Shelf
set_option linter.unusedSimpArgs false
set_option linter.unusedVariables false

theorem run_append_zeroI {P : Program} {w : World} (base : Nat) (t ty e : TypeId) (i : TypeInfo) (size : Nat) (ht : P.underlying t = some (.slice e)) (hi : P.info? e = some i)
    (v : Value) (n : Nat) (xs : List Value) (hown : w.ownsRow base e size v n xs) (p : Option Addr) (c : Nat) :
    (Builtin.append_ #[t, t] ty #[v, .slice p 0 c]).run P w = .ok v w := by
  rcases hown.2 with ⟨rfl, rfl⟩ | ⟨g, cap, cur, rfl, _, _, hnc, _⟩
  · cases p <;> simp [Builtin.append_, run_underlying ht, sizeOf, typeInfo, hi, Builtin.lenOf, Builtin.firstCells, loadCells, loadCellsFrom]
  · cases p <;> simp [Builtin.append_, run_underlying ht, sizeOf, typeInfo, hi, Builtin.lenOf, Builtin.firstCells, hnc, storeCells, loadCells, loadCellsFrom]

theorem wpList_append_zeroI {P : Program} {w : World} {ops : Array Oper} {rest : List Oper} {o : Oper} {a : Act} {Q : Exit → Act → World → Prop} (hgd : o.guard = none) (s x : Operand) (t : TypeId)
    (ho : o.op = .call { callee := .builtin .append, args := #[s, x], argTypes := #[t, t] })
    (base : Nat) (e : TypeId) (i : TypeInfo) (size : Nat) (ht : P.underlying t = some (.slice e)) (hi : P.info? e = some i)
    (v : Value) (n : Nat) (xs : List Value) (hs : a.eval s = v) (hown : w.ownsRow base e size v n xs) (p : Option Addr) (c : Nat) (hx : a.eval x = .slice p 0 c)
    (h : wpList P ops Q rest (a.put o.dst v) w) : wpList P ops Q (o :: rest) a w := by
  refine wpList_plain hgd fun K hK => ?_
  have hrun := run_append_zeroI (P := P) (w := w) base t o.type e i size ht hi v n xs hown p c
  unfold Oper.wp
  simp [execOp, ho, resolve, invoke, builtin, hs, hx, hrun, Result.andThen]
  exact hK _ _ h

theorem wpList_append_ints {w : World} {ops : Array Oper} {rest : List Oper} {o : Oper} {a : Act} {Q : Exit → Act → World → Prop} (hgd : o.guard = none) (s x : Operand)
    (ho : o.op = .call { callee := .builtin .append, args := #[s, x], argTypes := #[22, 22] })
    (base : Nat) (v vx : Value) (O L : List Int) (hs : a.eval s = v) (hx : a.eval x = vx) (hown : w.ownsRow base 3 1 v O.length (O.map (Value.int .i64))) (hL : IntsR w vx L)
    (hbase : base ≤ w.heap.size) (hO : O.length ≤ 4398046511104) (hl : L.length ≤ 4398046511104)
    (h : ∀ v' w', w'.ownsRow base 3 1 v' (O ++ L).length ((O ++ L).map (Value.int .i64)) → Below base w w' → wpList Tryz.prog ops Q rest (a.put o.dst v') w') : wpList Tryz.prog ops Q (o :: rest) a w := by
  obtain ⟨i0, hi, hz0, hz1, hz2⟩ := info_parts intInfoP
  obtain ⟨p, cap, rfl, h1, h2, h3, h4⟩ := hL
  by_cases h0 : L.length = 0
  · obtain rfl : L = [] := List.length_eq_zero_iff.1 h0
    refine wpList_append_zeroI hgd s x _ ho base 3 i0 1 Tryz.underlying22 hi v O.length _ hs hown p cap hx (h _ _ (by rw [List.append_nil]; exact hown) (Below.refl _ _))
  · obtain ⟨b, off, rfl, hc⟩ := h4 (by omega)
    refine wpList_append_lies _ hgd s x _ ho base 3 i0 _ 1 8 Tryz.underlying22 hi hz0 hz1 hz2 rfl (by decide) v O.length _ hs hown ⟨b, off, none⟩ L.length cap (L.map (Value.int .i64)) hx (by simp) (fun j u hu => ?_) (fun u hu => ?_) (by omega) (by unfold maxLen; omega) (by omega) hbase _ rfl ?_
    · have hadd : (⟨b, off, none⟩ : Addr).add j = ⟨b, off + j, none⟩ := by unfold Addr.add; split <;> simp_all
      rw [hadd]; exact hc j u hu
    · obtain ⟨q, _, hq⟩ := List.mem_map.1 hu
      subst hq; rfl
    · intro g c2 w' hown' hg _ _
      refine h _ w' ?_ ((Below.refl _ _).grown hg hbase (ownBlock_ge hown))
      rw [List.length_append, List.map_append]
      exact hown'

theorem growI_any (n : Nat) (hn : n ≤ 1000) (w : World) :
    Calls Tryz.prog 141 #[.slice none 0 0, .int .i64 n] w fun e w' => ∃ v, e = .returned v ∧ w'.ownsRow w.heap.size 3 1 v 0 [] ∧ Below w.heap.size w w' := by
  by_cases h0 : n = 0
  · subst h0
    refine (Any8.slices_Grow_room Tryz.growInt none 0 0 0 w (Nat.le_refl _) (by decide) (by decide) (Nat.le_refl _)).mono ?_
    rintro e w' ⟨rfl, rfl⟩
    exact ⟨_, rfl, World.ownsRow_nil _ _ _ _, Below.refl _ _⟩
  · obtain ⟨i0, hi, hz0, hz1, hz2⟩ := info_parts intInfoP
    refine (Any8.slices_Grow_grow Tryz.growInt i0 _ hi hz0 (by rw [hz1]; decide) none 0 0 n [] w (Nat.le_refl _) (by omega) (by rw [hz2]; omega) (by omega) (by simp) (fun _ => rfl) (fun a h => by cases h)).mono ?_
    rintro e w' ⟨rfl, rfl⟩
    refine ⟨_, rfl, ?_, ?_⟩
    · have h1 := grownCap_ge w (0 + n) 0 3
      have h2 := grownCap_le_maxLen w (0 + n) 0 3 (by unfold maxLen; omega)
      have hr : Tryz.growInt_ren.t 25 = 3 := rfl
      rw [hr]
      obtain ⟨G, hG⟩ : ∃ G, G = grownCap w (0 + n) 0 3 := ⟨_, rfl⟩
      rw [← hG] at h1 h2 ⊢
      refine ⟨rfl, .inr ⟨w.heap.size, G, _, rfl, Nat.le_refl _, heap_alloc_new w.drew _, Nat.zero_le _, h2, ?_, by simp⟩⟩
      rw [Array.size_append, Array.size_append, size_zeroCells, size_zeroCells]
      simp [Value.cells]
      omega
    · exact ((Below.refl _ _).drew).alloc (Nat.le_refl _) _

set_option maxRecDepth 100000 in
set_option maxHeartbeats 4000000 in
theorem concat3_any (va vb vd : Value) (A B D : List Int) (p : Nat) (w : World) (hA : IntsR w va A) (hB : IntsR w vb B) (hD : IntsR w vd D) (c0 : w.cell? ⟨p, 0, none⟩ = some va) (c1 : w.cell? ⟨p, 1, none⟩ = some vb) (c2 : w.cell? ⟨p, 2, none⟩ = some vd) (lA : A.length ≤ 100) (lB : B.length ≤ 100) (lD : D.length ≤ 100) :
    Calls Tryz.prog 66 #[.slice (some ⟨p, 0, none⟩) 3 3] w fun e w' => ∃ v, e = .returned v ∧ IntsR w' v (A ++ B ++ D) ∧ Below w.heap.size w w' := by
  have HA := Lib.hid hA
  have HB := Lib.hid hB
  have HD := Lib.hid hD
  obtain ⟨aa, ac, rfl, _, ka, _⟩ := intsR_open hA
  obtain ⟨ba, bc, rfl, _, kb, _⟩ := intsR_open hB
  obtain ⟨da, dc, rfl, _, kd, _⟩ := intsR_open hD
  unfold maxLen at ka kb kd
  clear hA hB hD
  have C0 := Lib.hid c0; have C1 := Lib.hid c1; have C2 := Lib.hid c2
  have a0 : (0 : Int) ≤ (A.length : Int) := Int.natCast_nonneg _
  have b0 : (0 : Int) ≤ (B.length : Int) := Int.natCast_nonneg _
  have d0 : (0 : Int) ≤ (D.length : Int) := Int.natCast_nonneg _
  have sab : ((A.length + B.length + D.length : Nat) : Int) = (A.length : Int) + (B.length : Int) + (D.length : Int) := by push_cast; rfl
  have SAB := Lib.hid sab
  clear sab
  go_enter Tryz.func66, Tryz.ntmps66
  go_wp2
  go_loopg [3, 11] 3 (fun g sv i wr => ((i = .int .i64 0 ∧ sv = .int .i64 0 ∧ g = 3) ∨ (i = .int .i64 1 ∧ sv = .int .i64 A.length ∧ g = 2) ∨ (i = .int .i64 2 ∧ sv = .int .i64 ((A.length : Int) + (B.length : Int)) ∧ g = 1) ∨ (i = .int .i64 3 ∧ sv = .int .i64 ((A.length : Int) + (B.length : Int) + (D.length : Int)) ∧ g = 0)) ∧ w = wr)
  case atStart => exact ⟨.inl ⟨rfl, rfl, rfl⟩, rfl⟩
  case round =>
    obtain ⟨⟨rfl, rfl, hg⟩ | ⟨rfl, rfl, hg⟩ | ⟨rfl, rfl, hg⟩ | ⟨rfl, rfl, hg⟩, rfl⟩ := hrel
    · subst hg
      go_wp2
      go_roundg 2
      case measure => omega
      case rel => exact ⟨.inr (.inl ⟨rfl, by first | rfl | go_num | simp, rfl⟩), rfl⟩
    · subst hg
      go_wp2
      go_roundg 1
      case measure => omega
      case rel => exact ⟨.inr (.inr (.inl ⟨rfl, by first | rfl | go_num | simp, rfl⟩)), rfl⟩
    · subst hg
      go_wp2
      go_roundg 0
      case measure => omega
      case rel => exact ⟨.inr (.inr (.inr ⟨rfl, by first | rfl | go_num | simp, rfl⟩)), rfl⟩
    · subst hg
      go_wp2_with fail
      rw [← SAB.out]
      refine (growI_any (A.length + B.length + D.length) (by omega) _).mono ?_; rintro e w1 ⟨v, rfl, hown, hb⟩
      have OW := Lib.hid hown
      have BW := Lib.hid hb
      clear hown hb c0 c1 c2
      go_wp2
      go_loopg [6, 27] 3 (fun g sv i wr => ∃ O : List Int, ((i = .int .i64 0 ∧ O = [] ∧ g = 3) ∨ (i = .int .i64 1 ∧ O = A ∧ g = 2) ∨ (i = .int .i64 2 ∧ O = A ++ B ∧ g = 1) ∨ (i = .int .i64 3 ∧ O = A ++ B ++ D ∧ g = 0)) ∧ wr.ownsRow w.heap.size 3 1 sv O.length (O.map (Value.int .i64)) ∧ Below w.heap.size w wr)
      case atStart => exact ⟨[], .inl ⟨rfl, rfl, rfl⟩, OW.out, BW.out⟩
      case round =>
        obtain ⟨O, h, hown, hb⟩ := hrel
        have OW := Lib.hid hown
        have BW := Lib.hid hb
        have hbs := hb.size
        have c0 := cell_below hb C0.out
        have c1 := cell_below hb C1.out
        have c2 := cell_below hb C2.out
        clear hown hb
        obtain ⟨rfl, rfl, hg⟩ | ⟨rfl, rfl, hg⟩ | ⟨rfl, rfl, hg⟩ | ⟨rfl, rfl, hg⟩ := h
        · subst hg
          go_wp2_with (at_builtin; refine wpList_append_ints rfl _ _ rfl w.heap.size _ _ [] A rfl rfl OW.out (HA.out.below BW.out) hbs (by simp) (by omega) ?_)
          intro v' w' hown' hb'
          have B9 := Lib.hid (BW.out.trans hb')
          have O9 := Lib.hid hown'
          clear hown' hb'
          go_wp2
          go_roundg 2
          case measure => omega
          case rel => exact ⟨A, .inr (.inl ⟨rfl, rfl, rfl⟩), O9.out, B9.out⟩
        · subst hg
          go_wp2_with (at_builtin; refine wpList_append_ints rfl _ _ rfl w.heap.size _ _ O B rfl rfl OW.out (HB.out.below BW.out) hbs (by omega) (by omega) ?_)
          intro v' w' hown' hb'
          have B9 := Lib.hid (BW.out.trans hb')
          have O9 := Lib.hid hown'
          clear hown' hb'
          go_wp2
          go_roundg 1
          case measure => omega
          case rel => exact ⟨O ++ B, .inr (.inr (.inl ⟨rfl, rfl, rfl⟩)), by rw [List.length_append, List.map_append]; exact O9.out, B9.out⟩
        · subst hg
          go_wp2_with (at_builtin; refine wpList_append_ints rfl _ _ rfl w.heap.size _ _ (A ++ B) D rfl rfl OW.out (HD.out.below BW.out) hbs (by rw [List.length_append]; omega) (by omega) ?_)
          intro v' w' hown' hb'
          have B9 := Lib.hid (BW.out.trans hb')
          have O9 := Lib.hid hown'
          clear hown' hb'
          go_wp2
          go_roundg 0
          case measure => omega
          case rel => exact ⟨A ++ B ++ D, .inr (.inr (.inr ⟨rfl, rfl, rfl⟩)), by rw [List.append_assoc, List.length_append, List.length_append, List.map_append, List.map_append]; exact O9.out, B9.out⟩
        · subst hg
          go_wp2
          go_ret
          exact ⟨_, rfl, ownsRow_reads OW.out, BW.out⟩

end Go.Proofs.YtgelojhpanbnaaaGreatDoor
