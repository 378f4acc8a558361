/- The reference's Escape, Plain, Fold, Unfold, Pair: their contracts. Conditions: at most 1048576 bytes in all. -/
import Derived.Test.YtdpngbjlljgoaaaDoorLineN
import Derived.Deep.DeepCutAuto
import Derived.Deep.CutBlock
import Derived.Outline
namespace Go.Proofs.YtdpngbjlljgoaaaDoor
open Go.RowKit Go.Shelf
set_option linter.unusedSimpArgs false
set_option linter.unusedVariables false

theorem bs_one (l : List UInt8) (k : Nat) (h : k < l.length) : (bs l).extract k (k + 1) = bs [l[k]] := by
  rw [bs_extract, show k + 1 - k = 1 by omega, List.drop_eq_getElem_cons h]; rfl

theorem take_snocU (l : List UInt8) (k : Nat) (h : k < l.length) : l.take (k + 1) = l.take k ++ [l[k]] := List.take_succ_eq_append_getElem h

theorem byte_eq {c : UInt8} {n : Int} {m : Nat} (hn : n = (c.toNat : Int)) (hm : m < 256) : (n == (m : Int)) = decide (c = UInt8.ofNat m) := by
  rw [Bool.eq_iff_iff, beq_iff_eq, decide_eq_true_eq, hn, ← UInt8.toNat_inj, UInt8.toNat_ofNat']
  omega

theorem esc_next (l : List UInt8) (k : Nat) (h : k < l.length) {o : ByteArray} (ho : o = bs (esc (l.take k))) :
    (l[k] = 10 → o ++ { data := #[92, 110] } = bs (esc (l.take (k + 1)))) ∧
    ((l[k] = 92 ∨ l[k] = 59 ∨ l[k] = 44) → o ++ { data := #[92] } ++ (bs l).extract k (k + 1) = bs (esc (l.take (k + 1)))) ∧
    (¬ (l[k] = 92 ∨ l[k] = 59 ∨ l[k] = 44) → l[k] ≠ 10 → o ++ (bs l).extract k (k + 1) = bs (esc (l.take (k + 1)))) := by
  rw [take_snocU l k h, esc_snoc, bs_one l k h, ho]
  refine ⟨fun h1 => ?_, fun h1 => ?_, fun h1 h2 => ?_⟩
  · rw [h1, escB_ten, show ({ data := #[92, 110] } : ByteArray) = bs [92, 110] from rfl, bs_append]
  · rw [escB_esc h1, show ({ data := #[92] } : ByteArray) = bs [92] from rfl, bs_append, bs_append, List.append_assoc]; rfl
  · rw [escB_same h1 h2, bs_append]

set_option maxRecDepth 100000 in
set_option maxHeartbeats 2000000 in
theorem escRef_any (l : List UInt8) (w : World) (hs : l.length ≤ 1048576) :
    Calls Tryd.prog 22 #[.string (bs l)] w fun e w' => e = .returned (.string (bs (esc l))) ∧ Below w.heap.size w w' := by
  obtain ⟨s, hs0⟩ : ∃ s, s = bs l := ⟨_, rfl⟩
  have hsz : s.size = l.length := by rw [hs0, bs_size]
  have hget : ∀ k (h : k < l.length) (h2 : k < s.size), s[k] = l[k] := by subst hs0; exact fun k h h2 => bs_get l k h h2
  rw [← hs0]
  have S0 := Lib.hid hs0; have SZ := Lib.hid hsz; have GT := Lib.hid hget
  have hsl : s.size ≤ 1048576 := by omega
  clear hs0 hget hsz
  go_enter Tryd.func22, Tryd.ntmps22
  go_wp2
  go_loopg [3, 4] l.length (fun g ov iv wr => ∃ (k : Nat) (o : ByteArray), k ≤ l.length ∧ iv = .int .i64 k ∧ ov = .string o ∧ g = l.length - k ∧ Hid (o = bs (esc (l.take k))) ∧ wr = w)
  case atStart => exact ⟨0, bs [], Nat.zero_le _, rfl, rfl, rfl, Lib.hid rfl, rfl⟩
  case round =>
    obtain ⟨k, o, hk, rfl, rfl, hg, OE, rfl⟩ := hrel
    have G := Lib.hid hg; clear hg
    by_cases hlt : k < s.size
    · have hlt2 : k < l.length := by rw [← SZ.out]; exact hlt
      have NX := Lib.hid (esc_next l k hlt2 OE.out)
      have ho : o.size ≤ 2097152 := by
        have := esc_len (l.take k)
        have h2 := List.length_take_le k l
        have h3 := SZ.out
        rw [OE.out, bs_size]; omega
      obtain ⟨c, hc⟩ : ∃ c, c = s[k] := ⟨_, rfl⟩
      have C := Lib.hid (show l[k] = c by rw [hc]; exact (GT.out k hlt2 hlt).symm)
      obtain ⟨n, hn⟩ : ∃ n : Int, n = (c.toNat : Int) := ⟨_, rfl⟩
      have N := Lib.hid hn
      have hcn : ((s[k]).toNat : Int) = n := by rw [hn, hc]
      clear hn hc
      have i1 : (0 : Int) ≤ (k : Int) := Int.natCast_nonneg _
      have i2 : (k : Int) < (s.size : Int) := by omega
      have b10 := byte_eq (m := 10) N.out (by omega)
      have b92 := byte_eq (m := 92) N.out (by omega)
      have b59 := byte_eq (m := 59) N.out (by omega)
      have b44 := byte_eq (m := 44) N.out (by omega)
      by_cases h10 : c = 10
      · have e10 : (n == 10) = true := by rw [show (10 : Int) = ((10 : Nat) : Int) from rfl, b10]; exact decide_eq_true h10
        have E := Lib.hid (NX.out.1 (by rw [C.out]; exact h10))
        clear b10 b92 b59 b44 h10
        go_wp2
        go_roundg (l.length - (k + 1))
        case measure => rw [G.out]; omega
        case rel => exact ⟨k + 1, _, by omega, by go_num, rfl, rfl, Lib.hid E.out, rfl⟩
      · have e10 : (n == 10) = false := by rw [show (10 : Int) = ((10 : Nat) : Int) from rfl, b10]; exact decide_eq_false h10
        by_cases h92 : c = 92 ∨ c = 59 ∨ c = 44
        · have E := Lib.hid (NX.out.2.1 (by rw [C.out]; exact h92))
          have hh : (n == 92) = true ∨ ((n == 92) = false ∧ (n == 59) = true) ∨ ((n == 92) = false ∧ (n == 59) = false ∧ (n == 44) = true) := by
            rw [show (92 : Int) = ((92 : Nat) : Int) from rfl, show (59 : Int) = ((59 : Nat) : Int) from rfl, show (44 : Int) = ((44 : Nat) : Int) from rfl, b92, b59, b44]
            rcases h92 with h | h | h <;> rw [h] <;> decide
          clear b10 b92 b59 b44 h10 h92
          rcases hh with e92 | ⟨e92, e59⟩ | ⟨e92, e59, e44⟩
          all_goals
            go_wp2
            go_roundg (l.length - (k + 1))
            case measure => rw [G.out]; omega
            case rel => exact ⟨k + 1, _, by omega, by go_num, rfl, rfl, Lib.hid (by rw [← E.out, S0.out]), rfl⟩
        · have E := Lib.hid (NX.out.2.2 (by rw [C.out]; exact h92) (by rw [C.out]; exact h10))
          have e92 : (n == 92) = false := by rw [show (92 : Int) = ((92 : Nat) : Int) from rfl, b92]; exact decide_eq_false (fun h => h92 (.inl h))
          have e59 : (n == 59) = false := by rw [show (59 : Int) = ((59 : Nat) : Int) from rfl, b59]; exact decide_eq_false (fun h => h92 (.inr (.inl h)))
          have e44 : (n == 44) = false := by rw [show (44 : Int) = ((44 : Nat) : Int) from rfl, b44]; exact decide_eq_false (fun h => h92 (.inr (.inr h)))
          clear b10 b92 b59 b44 h10 h92
          go_wp2
          go_roundg (l.length - (k + 1))
          case measure => rw [G.out]; omega
          case rel => exact ⟨k + 1, _, by omega, by go_num, rfl, rfl, Lib.hid (by rw [← E.out, S0.out]), rfl⟩
    · obtain rfl : k = l.length := by have := SZ.out; omega
      have E := Lib.hid (show o = bs (esc l) by have := OE.out; rwa [List.take_length] at this)
      go_wp2
      go_ret
      exact ⟨by rw [← E.out]; rfl, Below.refl _ _⟩

/-- is a text an escaped one? -/
def plB (l : List UInt8) : Bool := decide (esc (unesc l) = l)
def plC (l : List UInt8) : ByteArray := bs (if plB l = true then unesc l else [])
def plE (l : List UInt8) : Int := if plB l = true then 0 else 2

theorem plainT_any (l : List UInt8) (w : World) (hs : l.length ≤ 4194304) :
    Calls Tryd.prog 24 #[.string (bs l)] w fun e w' => e = .returned (.tuple #[.string (plC l), errV (plE l)]) ∧ Below w.heap.size w w' := by
  refine (plain_loop l w hs (plB l) rfl).mono fun e w' ⟨h1, h2⟩ => ⟨?_, h2⟩
  rw [h1, plC, plE]
  cases plB l <;> rfl

theorem plR_step {l done : List UInt8} {k : Nat} (h : k < l.length) (hp : plainR l = (plainR (l.drop k)).map (done ++ ·)) :
    ((l[k] = 10 ∨ l[k] = 59 ∨ l[k] = 44) → plB l = false) ∧
    (¬ (l[k] = 10 ∨ l[k] = 59 ∨ l[k] = 44) → l[k] ≠ 92 → plainR l = (plainR (l.drop (k + 1))).map ((done ++ [l[k]]) ++ ·)) ∧
    (l[k] = 92 → k + 1 = l.length → plB l = false) ∧
    (∀ h2 : k + 1 < l.length, l[k] = 92 → ¬ (l[k + 1] = 92 ∨ l[k + 1] = 59 ∨ l[k + 1] = 44 ∨ l[k + 1] = 110) → plB l = false) ∧
    (∀ h2 : k + 1 < l.length, l[k] = 92 → l[k + 1] = 110 → plainR l = (plainR (l.drop (k + 2))).map ((done ++ [10]) ++ ·)) ∧
    (∀ h2 : k + 1 < l.length, l[k] = 92 → (l[k + 1] = 92 ∨ l[k + 1] = 59 ∨ l[k + 1] = 44) → plainR l = (plainR (l.drop (k + 2))).map ((done ++ [l[k + 1]]) ++ ·)) := by
  have hno : plainR l = none → plB l = false := by
    intro h; rw [plainR_eq] at h; rw [plB, decide_eq_false_iff_not]; intro e; rw [if_pos e] at h; cases h
  have hd := List.drop_eq_getElem_cons h
  have hm : ∀ (x : List UInt8) (o : Option (List UInt8)) (c : UInt8), (o.map (c :: ·)).map (done ++ ·) = o.map ((done ++ [c]) ++ ·) := by
    intro x o c; cases o <;> simp
  rw [hd] at hp
  refine ⟨fun h1 => ?_, fun h1 h2 => ?_, fun h1 h2 => ?_, fun h2 h1 h3 => ?_, fun h2 h1 h3 => ?_, fun h2 h1 h3 => ?_⟩
  · exact hno (by rw [hp, plainR_bad h1]; rfl)
  · rw [hp, plainR_plain h1 h2, hm l]
  · have : l.drop (k + 1) = [] := List.drop_of_length_le (by omega)
    exact hno (by rw [hp, this, h1, plainR_end]; rfl)
  · rw [List.drop_eq_getElem_cons h2, h1] at hp
    exact hno (by rw [hp, plainR_pair_no h3]; rfl)
  · rw [List.drop_eq_getElem_cons h2, h1] at hp
    rw [hp, plainR_pair (.inr (.inr (.inr h3))), hm l, if_pos h3]
  · rw [List.drop_eq_getElem_cons h2, h1] at hp
    have : l[k + 1] ≠ 110 := by rcases h3 with h | h | h <;> rw [h] <;> decide
    rw [hp, plainR_pair (h3.elim .inl fun h => h.elim (fun h => .inr (.inl h)) fun h => .inr (.inr (.inl h))), hm l, if_neg this]

theorem plR_end {l done : List UInt8} (hp : plainR l = (plainR (l.drop l.length)).map (done ++ ·)) : plB l = true ∧ plC l = bs done := by
  rw [List.drop_length, plainR] at hp
  rw [plainR_eq] at hp
  by_cases h : esc (unesc l) = l
  · rw [if_pos h] at hp
    have hb : plB l = true := decide_eq_true h
    have : unesc l = done := by simpa using hp
    exact ⟨hb, by rw [plC, if_pos hb, this]⟩
  · rw [if_neg h] at hp; cases hp

set_option maxRecDepth 100000 in
set_option maxHeartbeats 4000000 in
theorem plainRef_any (l : List UInt8) (w : World) (hs : l.length ≤ 1048576) :
    Calls Tryd.prog 23 #[.string (bs l)] w fun e w' => e = .returned (.tuple #[.string (plC l), .bool (plB l)]) ∧ Below w.heap.size w w' := by
  obtain ⟨s, hs0⟩ : ∃ s, s = bs l := ⟨_, rfl⟩
  have hsz : s.size = l.length := by rw [hs0, bs_size]
  have hget : ∀ k (h : k < l.length) (h2 : k < s.size), s[k] = l[k] := by subst hs0; exact fun k h h2 => bs_get l k h h2
  rw [← hs0]
  have S0 := Lib.hid hs0; have SZ := Lib.hid hsz; have GT := Lib.hid hget
  have hsl : s.size ≤ 1048576 := by omega
  have NO := Lib.hid (show plB l = false → plC l = { data := #[] } by intro h; rw [plC, h]; rfl)
  clear hs0 hget hsz
  obtain ⟨B, hB⟩ : ∃ B, B = plB l := ⟨_, rfl⟩
  obtain ⟨C, hC⟩ : ∃ C, C = plC l := ⟨_, rfl⟩
  rw [← hB, ← hC]
  have BE := Lib.hid hB; have CE := Lib.hid hC
  clear hB hC
  go_enter Tryd.func23, Tryd.ntmps23
  go_wp2
  go_loopg [4, 5] l.length (fun g ov iv wr => ∃ (k : Nat) (o : ByteArray) (done : List UInt8), k ≤ l.length ∧ iv = .int .i64 k ∧ ov = .string o ∧ g = l.length - k ∧ Hid (o = bs done ∧ done.length ≤ k ∧ plainR l = (plainR (l.drop k)).map (done ++ ·)) ∧ wr = w)
  case atStart => exact ⟨0, bs [], [], Nat.zero_le _, rfl, rfl, rfl, Lib.hid ⟨rfl, Nat.le_refl _, by simp⟩, rfl⟩
  case round =>
    obtain ⟨k, o, done, hk, rfl, rfl, hg, OE, rfl⟩ := hrel
    have G := Lib.hid hg; clear hg
    have ho : o.size ≤ 1048576 := by rw [OE.out.1, bs_size]; have := OE.out.2.1; omega
    by_cases hlt : k < s.size
    · have hlt2 : k < l.length := by rw [← SZ.out]; exact hlt
      have NX := Lib.hid (plR_step hlt2 OE.out.2.2)
      obtain ⟨c, hc⟩ : ∃ c, c = s[k] := ⟨_, rfl⟩
      have CC := Lib.hid (show l[k] = c by rw [hc]; exact (GT.out k hlt2 hlt).symm)
      obtain ⟨n, hn⟩ : ∃ n : Int, n = (c.toNat : Int) := ⟨_, rfl⟩
      have N := Lib.hid hn
      have hcn : ((s[k]).toNat : Int) = n := by rw [hn, hc]
      clear hn hc
      have i1 : (0 : Int) ≤ (k : Int) := Int.natCast_nonneg _
      have i2 : (k : Int) < (s.size : Int) := by omega
      have hk4 : k ≤ 1048576 := by omega
      have b10 := byte_eq (m := 10) N.out (by omega)
      have b92 := byte_eq (m := 92) N.out (by omega)
      have b59 := byte_eq (m := 59) N.out (by omega)
      have b44 := byte_eq (m := 44) N.out (by omega)
      by_cases hbad : c = 10 ∨ c = 59 ∨ c = 44
      · obtain rfl : B = false := by rw [BE.out]; exact NX.out.1 (by rw [CC.out]; exact hbad)
        have CN := Lib.hid (show C = { data := #[] } by rw [CE.out]; exact NO.out BE.out.symm)
        have hh : (n == 10) = true ∨ ((n == 10) = false ∧ (n == 59) = true) ∨ ((n == 10) = false ∧ (n == 59) = false ∧ (n == 44) = true) := by
          rw [show (10 : Int) = ((10 : Nat) : Int) from rfl, show (59 : Int) = ((59 : Nat) : Int) from rfl, show (44 : Int) = ((44 : Nat) : Int) from rfl, b10, b59, b44]
          rcases hbad with h | h | h <;> rw [h] <;> decide
        clear b10 b92 b59 b44 hbad
        rcases hh with e92 | ⟨e92, e59⟩ | ⟨e92, e59, e44⟩
        all_goals
          go_wp2
          go_ret2
          exact ⟨by rw [CN.out]; rfl, Below.refl _ _⟩
      · have e10 : (n == 10) = false := by rw [show (10 : Int) = ((10 : Nat) : Int) from rfl, b10]; exact decide_eq_false (fun h => hbad (.inl h))
        have e59 : (n == 59) = false := by rw [show (59 : Int) = ((59 : Nat) : Int) from rfl, b59]; exact decide_eq_false (fun h => hbad (.inr (.inl h)))
        have e44 : (n == 44) = false := by rw [show (44 : Int) = ((44 : Nat) : Int) from rfl, b44]; exact decide_eq_false (fun h => hbad (.inr (.inr h)))
        by_cases h92 : c = 92
        · have e92 : (n == 92) = true := by rw [show (92 : Int) = ((92 : Nat) : Int) from rfl, b92]; exact decide_eq_true h92
          have e92b : (n != 92) = false := by simp [bne, e92]
          have H92 := Lib.hid (show l[k] = 92 by rw [CC.out]; exact h92)
          clear b10 b92 b59 b44 hbad h92
          by_cases hk1 : k + 1 < s.size
          · have hk1l : k + 1 < l.length := by rw [← SZ.out]; exact hk1
            obtain ⟨d, hd⟩ : ∃ d, d = s[k + 1] := ⟨_, rfl⟩
            have DD := Lib.hid (show l[k + 1] = d by rw [hd]; exact (GT.out (k + 1) hk1l hk1).symm)
            obtain ⟨dn, hdn⟩ : ∃ dn : Int, dn = (d.toNat : Int) := ⟨_, rfl⟩
            have DN := Lib.hid hdn
            have hcd : ((s[k + 1]).toNat : Int) = dn := by rw [hdn, hd]
            clear hdn hd
            have i3 : (k : Int) + 1 < (s.size : Int) := by omega
            have i4 : ((k : Int) + 1 == (s.size : Int)) = false := by rw [beq_eq_false_iff_ne]; omega
            have d92 := byte_eq (m := 92) DN.out (by omega)
            have d59 := byte_eq (m := 59) DN.out (by omega)
            have d44 := byte_eq (m := 44) DN.out (by omega)
            have d110 := byte_eq (m := 110) DN.out (by omega)
            by_cases hok : d = 92 ∨ d = 59 ∨ d = 44 ∨ d = 110
            · by_cases h110 : d = 110
              · have f110 : (dn == 110) = true := by rw [show (110 : Int) = ((110 : Nat) : Int) from rfl, d110]; exact decide_eq_true h110
                have f92 : (dn == 92) = false := by rw [show (92 : Int) = ((92 : Nat) : Int) from rfl, d92, h110]; decide
                have f59 : (dn == 59) = false := by rw [show (59 : Int) = ((59 : Nat) : Int) from rfl, d59, h110]; decide
                have f44 : (dn == 44) = false := by rw [show (44 : Int) = ((44 : Nat) : Int) from rfl, d44, h110]; decide
                have g110 : (dn != 110) = false := by simp [bne, f110]
                have g92 : (dn != 92) = true := by simp [bne, f92]
                have g59 : (dn != 59) = true := by simp [bne, f59]
                have g44 : (dn != 44) = true := by simp [bne, f44]
                have E := Lib.hid (NX.out.2.2.2.2.1 hk1l H92.out (by rw [DD.out]; exact h110))
                have E2 := Lib.hid (show o ++ { data := #[10] } = bs (done ++ [10]) by rw [OE.out.1, show ({ data := #[10] } : ByteArray) = bs [10] from rfl, bs_append])
                clear d92 d59 d44 d110 hok h110
                go_wp2
                go_roundg (l.length - (k + 2))
                case measure => rw [G.out]; omega
                case rel => exact ⟨k + 2, _, done ++ [10], by omega, by go_num, rfl, rfl, Lib.hid ⟨E2.out, by have := OE.out.2.1; simp; omega, E.out⟩, rfl⟩
              · have h3 : d = 92 ∨ d = 59 ∨ d = 44 := by
                  rcases hok with h | h | h | h
                  · exact .inl h
                  · exact .inr (.inl h)
                  · exact .inr (.inr h)
                  · exact absurd h h110
                have f110 : (dn == 110) = false := by rw [show (110 : Int) = ((110 : Nat) : Int) from rfl, d110]; exact decide_eq_false h110
                have g110 : (dn != 110) = true := by simp [bne, f110]
                have E := Lib.hid (NX.out.2.2.2.2.2 hk1l H92.out (by rw [DD.out]; exact h3))
                have E2 := Lib.hid (show o ++ s.extract (k + 1) (k + 1 + 1) = bs (done ++ [l[k + 1]]) by rw [OE.out.1, S0.out, bs_one l (k + 1) hk1l, bs_append])
                have hh : ((dn == 92) = true ∧ (dn != 92) = false) ∨ (((dn == 92) = false ∧ (dn != 92) = true) ∧ (dn == 59) = true ∧ (dn != 59) = false) ∨ (((dn == 92) = false ∧ (dn != 92) = true) ∧ ((dn == 59) = false ∧ (dn != 59) = true) ∧ (dn == 44) = true ∧ (dn != 44) = false) := by
                  simp only [bne]
                  rw [show (92 : Int) = ((92 : Nat) : Int) from rfl, show (59 : Int) = ((59 : Nat) : Int) from rfl, show (44 : Int) = ((44 : Nat) : Int) from rfl, d92, d59, d44]
                  rcases h3 with h | h | h <;> rw [h] <;> decide
                clear d92 d59 d44 d110 hok h110 h3
                rcases hh with ⟨f92, g92⟩ | ⟨⟨f92, g92⟩, f59, g59⟩ | ⟨⟨f92, g92⟩, ⟨f59, g59⟩, f44, g44⟩
                all_goals
                  go_wp2
                  go_roundg (l.length - (k + 2))
                  case measure => rw [G.out]; omega
                  case rel => exact ⟨k + 2, _, done ++ [l[k + 1]], by omega, by go_num, rfl, rfl, Lib.hid ⟨E2.out, by have := OE.out.2.1; simp; omega, E.out⟩, rfl⟩
            · obtain rfl : B = false := by rw [BE.out]; exact NX.out.2.2.2.1 hk1l H92.out (by rw [DD.out]; exact hok)
              have CN := Lib.hid (show C = { data := #[] } by rw [CE.out]; exact NO.out BE.out.symm)
              have f92 : (dn == 92) = false := by rw [show (92 : Int) = ((92 : Nat) : Int) from rfl, d92]; exact decide_eq_false (fun h => hok (.inl h))
              have f59 : (dn == 59) = false := by rw [show (59 : Int) = ((59 : Nat) : Int) from rfl, d59]; exact decide_eq_false (fun h => hok (.inr (.inl h)))
              have f44 : (dn == 44) = false := by rw [show (44 : Int) = ((44 : Nat) : Int) from rfl, d44]; exact decide_eq_false (fun h => hok (.inr (.inr (.inl h))))
              have f110 : (dn == 110) = false := by rw [show (110 : Int) = ((110 : Nat) : Int) from rfl, d110]; exact decide_eq_false (fun h => hok (.inr (.inr (.inr h))))
              have g110 : (dn != 110) = true := by simp [bne, f110]
              have g92 : (dn != 92) = true := by simp [bne, f92]
              have g59 : (dn != 59) = true := by simp [bne, f59]
              have g44 : (dn != 44) = true := by simp [bne, f44]
              clear d92 d59 d44 d110 hok
              go_wp2
              go_ret2
              exact ⟨by rw [CN.out]; rfl, Below.refl _ _⟩
          · have hk1l : k + 1 = l.length := by have := SZ.out; omega
            have i4 : ((k : Int) + 1 == (s.size : Int)) = true := by rw [beq_iff_eq]; omega
            obtain rfl : B = false := by rw [BE.out]; exact NX.out.2.2.1 H92.out hk1l
            have CN := Lib.hid (show C = { data := #[] } by rw [CE.out]; exact NO.out BE.out.symm)
            clear hk1l
            go_wp2
            go_ret2
            exact ⟨by rw [CN.out]; rfl, Below.refl _ _⟩
        · have e92 : (n == 92) = false := by rw [show (92 : Int) = ((92 : Nat) : Int) from rfl, b92]; exact decide_eq_false h92
          have e92b : (n != 92) = true := by simp [bne, e92]
          have E := Lib.hid (NX.out.2.1 (by rw [CC.out]; exact hbad) (by rw [CC.out]; exact h92))
          have E2 := Lib.hid (show o ++ s.extract k (k + 1) = bs (done ++ [l[k]]) by rw [OE.out.1, S0.out, bs_one l k hlt2, bs_append])
          clear b10 b92 b59 b44 hbad h92
          go_wp2
          go_roundg (l.length - (k + 1))
          case measure => rw [G.out]; omega
          case rel => exact ⟨k + 1, _, done ++ [l[k]], by omega, by go_num, rfl, rfl, Lib.hid ⟨E2.out, by have := OE.out.2.1; simp; omega, E.out⟩, rfl⟩
    · obtain rfl : k = l.length := by have := SZ.out; omega
      have PE := plR_end OE.out.2.2
      obtain rfl : B = true := by rw [BE.out]; exact PE.1
      have CN := Lib.hid (show o = C by rw [CE.out, PE.2]; exact OE.out.1)
      clear PE
      go_wp2
      go_ret2
      exact ⟨by rw [← CN.out]; rfl, Below.refl _ _⟩

end Go.Proofs.YtdpngbjlljgoaaaDoor
