/- The reference's Digits, digits, Number: their contracts. Conditions: numbers below 2^62; texts of at most 18 digits. -/
import Derived.Test.YtiihkdefhhdfnaaGreatDoorNum
import Derived.Test.YtiihkdefhhdfnaaGreatDoorClkA
import Derived.Deep.LoopGhost
namespace Go.Proofs.YtiihkdefhhdfnaaGreatDoor
open Go.RowKit Go.Shelf
set_option linter.unusedSimpArgs false
set_option linter.unusedVariables false

theorem dig_piece : ∀ i : Fin 10, ({ data := #[48, 49, 50, 51, 52, 53, 54, 55, 56, 57] } : ByteArray).extract i.val (i.val + 1) = bs [UInt8.ofNat (48 + i.val)] := by decide +kernel

set_option maxHeartbeats 1000000 in
theorem rdigits_one (n : Int) (w : World) (h0 : 0 ≤ n) (h1 : n < 10) :
    Calls Tryz.prog 35 #[.int .i64 n] w fun e w' => e = .returned (.string (bs (Lib.decDigits n.toNat))) ∧ w = w' := by
  obtain ⟨k, rfl⟩ : ∃ k : Nat, n = (k : Int) := ⟨n.toNat, by omega⟩
  have hk : k < 10 := by omega
  have P := Lib.hid (dig_piece ⟨k, hk⟩)
  have E := Lib.hid (show Lib.decDigits k = [UInt8.ofNat (48 + k)] from Lib.decDigits_one (by omega))
  rw [show ((k : Int)).toNat = k by omega]
  go_enter Tryz.func35, Tryz.ntmps35
  go_wp2
  go_ret
  exact ⟨by rw [E.out, ← P.out]; rfl, rfl⟩

set_option maxHeartbeats 1000000 in
theorem rdigits_pos : ∀ (k : Nat) (n : Int) (w : World), 0 ≤ n → n < (k : Int) → n ≤ 4611686018427387904 →
    Calls Tryz.prog 35 #[.int .i64 n] w fun e w' => e = .returned (.string (bs (Lib.decDigits n.toNat))) ∧ w = w' := by
  intro k
  induction k with
  | zero => intro n w h0 h1 _; omega
  | succ k ih =>
    intro n w h0 h1 h2
    by_cases h : n < 10
    · exact rdigits_one n w h0 h
    · have I := Lib.hid (ih (n / 10) w (by omega) (by omega) (by omega))
      have J := Lib.hid (rdigits_one (n % 10) w (by omega) (by omega))
      have E := Lib.hid (show Lib.decDigits n.toNat = Lib.decDigits (n / 10).toNat ++ Lib.decDigits (n % 10).toNat by
        rw [decDigits_big (by omega), Lib.decDigits_one (i := (n % 10).toNat) (by omega), show (n / 10).toNat = n.toNat / 10 by omega, show (n % 10).toNat = n.toNat % 10 by omega])
      clear ih h1
      go_enter Tryz.func35, Tryz.ntmps35
      go_wp2_with fail
      refine I.out.mono ?_; rintro e w1 ⟨rfl, rfl⟩
      obtain ⟨x, hx⟩ : ∃ x, x = bs (Lib.decDigits (n / 10).toNat) := ⟨_, rfl⟩
      have xz : x.size ≤ 20 := by rw [hx, bs_size]; exact dec20 (by omega)
      rw [← hx]
      have X := Lib.hid hx; clear hx
      go_wp2_with fail
      refine J.out.mono ?_; rintro e w1 ⟨rfl, rfl⟩
      obtain ⟨y, hy⟩ : ∃ y, y = bs (Lib.decDigits (n % 10).toNat) := ⟨_, rfl⟩
      have yz : y.size ≤ 20 := by rw [hy, bs_size]; exact dec20 (by omega)
      rw [← hy]
      have Y := Lib.hid hy; clear hy
      go_wp2
      go_ret
      exact ⟨by rw [E.out, ← bs_append, ← X.out, ← Y.out]; rfl, rfl⟩

/-- the number of digits from one place to below another one; is it one? -/
def segL (l : List UInt8) (a b : Nat) : List UInt8 := (l.drop a).take (b - a)
def digO (l : List UInt8) : Bool := (Lib.decFrom 0 l).isSome
def digN (l : List UInt8) : Int := (((Lib.decFrom 0 l).getD 0 : Nat) : Int)

theorem segL_take (l : List UInt8) {a b k : Nat} (h : a + k < b) (hb : b ≤ l.length) : (segL l a b)[k]? = some (l[a + k]'(by omega)) := by
  rw [segL, List.getElem?_take_of_lt (by omega), List.getElem?_drop, List.getElem?_eq_getElem]

theorem segL_len (l : List UInt8) {a b : Nat} (hb : b ≤ l.length) : (segL l a b).length = b - a := by
  rw [segL, List.length_take, List.length_drop]; omega

theorem dec_lt {l : List UInt8} {m : Nat} (h : Lib.decFrom 0 l = some m) (hl : l.length ≤ 17) : m < 100000000000000000 := by
  have h1 := Lib.decFrom_lt l 0 m h
  have h2 : 10 ^ l.length ≤ 10 ^ 17 := Nat.pow_le_pow_right (by decide) hl
  have h3 : (10 : Nat) ^ 17 = 100000000000000000 := by decide
  omega

theorem digitVal_no {b : UInt8} (h : b.toNat < 48 ∨ 57 < b.toNat) : Lib.digitVal b = none := by
  unfold Lib.digitVal; rw [if_neg (by omega)]

theorem digitVal_yes {b : UInt8} (h : 48 ≤ b.toNat) (h2 : b.toNat ≤ 57) : Lib.digitVal b = some (b.toNat - 48) := by
  unfold Lib.digitVal; rw [if_pos ⟨h, h2⟩]

/-- a byte that is no digit: no number. -/
theorem decFrom_bad {l : List UInt8} {k : Nat} {b : UInt8} (hb : l[k]? = some b) (hd : Lib.digitVal b = none) (acc : Nat) : Lib.decFrom acc l = none := by
  cases h : Lib.decFrom acc l with
  | none => rfl
  | some n =>
    obtain ⟨d, e⟩ := Lib.digit_of_decFrom l acc n h k b hb
    rw [hd] at e; cases e

set_option maxRecDepth 100000 in
set_option maxHeartbeats 4000000 in
theorem rdig_any (l : List UInt8) (a b : Nat) (w : World) (hab : a ≤ b) (hb : b ≤ l.length) (h18 : b - a ≤ 18) (hl : l.length ≤ 140737488351232) :
    Calls Tryz.prog 30 #[.string (bs l), .int .i64 (a : Int), .int .i64 (b : Int)] w fun e w' => e = .returned (.tuple #[.int .i64 (digN (segL l a b)), .bool (digO (segL l a b))]) ∧ Below w.heap.size w w' := by
  obtain ⟨s, hs0⟩ : ∃ s, s = bs l := ⟨_, rfl⟩
  have hsz : s.size = l.length := by rw [hs0, bs_size]
  have hget : ∀ k (h : k < l.length) (h2 : k < s.size), s[k] = l[k] := by subst hs0; exact fun k h h2 => bs_get l k h h2
  rw [← hs0]
  have SZ := Lib.hid hsz; have GT := Lib.hid hget
  have SL := Lib.hid (segL_len l (a := a) hb)
  have ST := Lib.hid (fun (k : Nat) (h : a + k < b) => segL_take l h hb)
  obtain ⟨S, hS⟩ : ∃ S, S = segL l a b := ⟨_, rfl⟩
  rw [← hS] at SL ST ⊢
  have hbs : b ≤ s.size := by omega
  have hsl : s.size ≤ 140737488351232 := by omega
  clear hs0 hget hsz hS hl
  go_enter Tryz.func30, Tryz.ntmps30
  go_wp2
  go_loopg [8, 9] (b - a) (fun g nv iv wr => ∃ (k j m : Nat), a + k = j ∧ j ≤ b ∧ iv = .int .i64 j ∧ nv = .int .i64 m ∧ g = b - j ∧ Hid (Lib.decFrom 0 (S.take k) = some m) ∧ Below w.heap.size w wr)
  case atStart => exact ⟨0, a, 0, rfl, hab, rfl, rfl, rfl, Lib.hid (by simp [Lib.decFrom]), Below.refl _ _⟩
  case round =>
    obtain ⟨k, j, m, hkj, hjb, rfl, rfl, hg, DM, hbw⟩ := hrel
    have G := Lib.hid hg; clear hg
    have BW := Lib.hid hbw; clear hbw
    have i1 : (0 : Int) ≤ (j : Int) := Int.natCast_nonneg _
    by_cases hlt : j < b
    · have hj2 : j < s.size := by omega
      have hjl : j < l.length := by have := SZ.out; omega
      have hm := dec_lt DM.out (by rw [List.length_take]; have := SL.out; omega)
      obtain ⟨c, hc⟩ : ∃ c, c = s[j] := ⟨_, rfl⟩
      have CC := Lib.hid (show S[k]? = some c by
        rw [ST.out k (by omega), hc, GT.out j hjl hj2]
        subst hkj; rfl)
      obtain ⟨n, hn⟩ : ∃ n : Int, n = (c.toNat : Int) := ⟨_, rfl⟩
      have N := Lib.hid hn
      have hcn : ((s[j]).toNat : Int) = n := by rw [hn, hc]
      have n1 : (0 : Int) ≤ n := by omega
      have n2 : n < 256 := by have := c.toNat_lt; omega
      clear hn hc hjl
      have i2 : (j : Int) < (s.size : Int) := by omega
      have i3 : (j : Int) < (b : Int) := by omega
      have m1 : (0 : Int) ≤ (m : Int) := Int.natCast_nonneg _
      have m2 : (m : Int) < 100000000000000000 := by omega
      by_cases h1 : n < 48
      · have E := Lib.hid (decFrom_bad CC.out (digitVal_no (.inl (by have := N.out; omega))) 0)
        have t1 : decide (n < 48) = true := decide_eq_true h1
        go_wp2
        go_ret2
        exact ⟨by rw [digN, digO, E.out]; rfl, BW.out⟩
      · have t1 : decide (n < 48) = false := decide_eq_false h1
        by_cases h2 : 57 < n
        · have E := Lib.hid (decFrom_bad CC.out (digitVal_no (.inr (by have := N.out; omega))) 0)
          have t2 : decide (57 < n) = true := decide_eq_true h2
          go_wp2
          go_ret2
          exact ⟨by rw [digN, digO, E.out]; rfl, BW.out⟩
        · have t2 : decide (57 < n) = false := decide_eq_false h2
          have E := Lib.hid (Lib.decFrom_take S k 0 m c (c.toNat - 48) DM.out CC.out (digitVal_yes (by have := N.out; omega) (by have := N.out; omega)))
          have V := Lib.hid (show (m : Int) * 10 + n - 48 = ((m * 10 + (c.toNat - 48) : Nat) : Int) by have := N.out; omega)
          go_wp2
          go_roundg (b - (j + 1))
          case measure => rw [G.out]; omega
          case rel => exact ⟨k + 1, j + 1, m * 10 + (c.toNat - 48), by omega, by omega, by go_num, by rw [V.out], rfl, E, BW.out⟩
    · obtain rfl : j = b := by omega
      have E := Lib.hid (show Lib.decFrom 0 S = some m by rw [← DM.out, List.take_of_length_le (by have := SL.out; omega)])
      have t0 : decide ((j : Int) < (j : Int)) = false := decide_eq_false (by omega)
      go_wp2
      go_ret2
      exact ⟨by rw [digN, digO, E.out]; rfl, BW.out⟩

end Go.Proofs.YtiihkdefhhdfnaaGreatDoor
