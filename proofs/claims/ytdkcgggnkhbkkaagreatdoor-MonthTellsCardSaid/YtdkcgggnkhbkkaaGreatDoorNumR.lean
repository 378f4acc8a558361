/- The reference's Number: its contract. Conditions: at most 18 digits asked; a text below 2^47. -/
import Derived.Test.YtdkcgggnkhbkkaaGreatDoorDigits
import Derived.Deep.DeepCutAuto
import Derived.Deep.CutBlock
import Derived.Outline
namespace Go.Proofs.YtdkcgggnkhbkkaaGreatDoor
open Go.RowKit Go.Shelf
set_option linter.unusedSimpArgs false
set_option linter.unusedVariables false

/-- a numeral behind its sign. -/
def numS (most : Nat) (b : Bool) (p : List UInt8) : Option Int :=
  if p = [] ∨ most < p.length ∨ (p.head? = some 48 ∧ (1 < p.length ∨ b = true)) then none else (Lib.decFrom 0 p).map fun n => if b = true then -(n : Int) else (n : Int)

theorem numS_less {most : Nat} {l : List UInt8} (h : 1 < l.length ∧ l.head? = some 45) : numP most l = numS most true (l.drop 1) := by
  have hne : l.drop 1 ≠ [] := by intro e; have := congrArg List.length e; simp at this; omega
  rw [numP, if_pos h, numS]
  by_cases h1 : most < (l.drop 1).length ∨ (l.drop 1).head? = some 48
  · rw [if_pos h1, if_pos]
    rcases h1 with h1 | h1
    · exact .inr (.inl h1)
    · exact .inr (.inr ⟨h1, .inr rfl⟩)
  · rw [if_neg h1, if_neg]
    · rfl
    · rintro (h2 | h2 | ⟨h2, _⟩)
      · exact hne h2
      · exact h1 (.inl h2)
      · exact h1 (.inr h2)

theorem numS_plain {most : Nat} {l : List UInt8} (h : ¬ (1 < l.length ∧ l.head? = some 45)) : numP most l = numS most false l := by
  rw [numP, if_neg h, numS]
  by_cases h1 : l = [] ∨ most < l.length ∨ (l.head? = some 48 ∧ 1 < l.length)
  · rw [if_pos h1, if_pos]
    rcases h1 with h1 | h1 | ⟨h1, h2⟩
    · exact .inl h1
    · exact .inr (.inl h1)
    · exact .inr (.inr ⟨h1, .inl h2⟩)
  · rw [if_neg h1, if_neg]
    · rfl
    · rintro (h2 | h2 | ⟨h2, h3 | h3⟩)
      · exact h1 (.inl h2)
      · exact h1 (.inr (.inl h2))
      · exact h1 (.inr (.inr ⟨h2, h3⟩))
      · cases h3

theorem segL_all (l : List UInt8) : segL l 0 l.length = l := by rw [segL]; simp

theorem head_byte {l : List UInt8} {n : Int} {m : Nat} (h : 0 < l.length) (hn : n = ((l[0]).toNat : Int)) (hm : m < 256) : (n == (m : Int)) = decide (l.head? = some (UInt8.ofNat m)) := by
  cases l with
  | nil => cases h
  | cons c r =>
    have : n = (c.toNat : Int) := hn
    rw [Bool.eq_iff_iff, beq_iff_eq, decide_eq_true_eq, this]
    simp only [List.head?_cons, Option.some.injEq]
    rw [← UInt8.toNat_inj, UInt8.toNat_ofNat']
    omega

set_option maxRecDepth 100000 in
set_option maxHeartbeats 4000000 in
theorem rnum_any (l : List UInt8) (most : Nat) (w : World) (hm : most ≤ 18) (hl : l.length ≤ 140737488351232) :
    Calls Tryz.prog 38 #[.string (bs l), .int .i64 (most : Int)] w fun e w' => e = .returned (.tuple #[.int .i64 ((numP most l).getD 0), .bool (numP most l).isSome]) ∧ Below w.heap.size w w' := by
  obtain ⟨s, hs0⟩ : ∃ s, s = bs l := ⟨_, rfl⟩
  have hsz : s.size = l.length := by rw [hs0, bs_size]
  have hget : ∀ k (h : k < l.length) (h2 : k < s.size), s[k] = l[k] := by subst hs0; exact fun k h h2 => bs_get l k h h2
  rw [← hs0]
  have S0 := Lib.hid hs0; have SZ := Lib.hid hsz; have GT := Lib.hid hget
  have hsl : s.size ≤ 140737488351232 := by omega
  obtain ⟨R, hR⟩ : ∃ R, R = numP most l := ⟨_, rfl⟩
  have RE := Lib.hid hR
  rw [← hR]
  clear hs0 hget hsz hR
  go_enter Tryz.func38, Tryz.ntmps38
  go_upto_region 1 with fail
  go_cut [6] (fun s6 wx => ∃ b : Bool, s6 = .bool b ∧ Hid (b = decide (1 < l.length ∧ l.head? = some 45)) ∧ w = wx)
  case first => as_aux_lemma =>
    by_cases h1 : 1 < l.length
    · have hx : 0 < s.size := by have := SZ.out; omega
      obtain ⟨n, hn⟩ : ∃ n : Int, n = ((s[0]'hx).toNat : Int) := ⟨_, rfl⟩
      have HB := Lib.hid (head_byte (l := l) (m := 45) (by omega) (show n = ((l[0]'(by omega)).toNat : Int) by rw [hn, GT.out 0 (by omega) hx]) (by omega))
      have hcn := hn.symm
      clear hn
      have t1 : decide ((1 : Int) < (s.size : Int)) = true := decide_eq_true (by have := SZ.out; omega)
      have t1b : decide (1 < s.size) = true := decide_eq_true (by have := SZ.out; omega)
      by_cases h2 : l.head? = some 45
      · have e45 : (n == 45) = true := HB.out.trans (decide_eq_true h2)
        have Q := Lib.hid (show true = decide (1 < l.length ∧ l.head? = some 45) from (decide_eq_true ⟨h1, h2⟩).symm)
        clear h1 h2
        go_wp2
        go_meet
        exact ⟨true, rfl, Q, rfl⟩
      · have e45 : (n == 45) = false := HB.out.trans (decide_eq_false h2)
        have Q := Lib.hid (show false = decide (1 < l.length ∧ l.head? = some 45) from (decide_eq_false fun h => h2 h.2).symm)
        clear h1 h2
        go_wp2
        go_meet
        exact ⟨false, rfl, Q, rfl⟩
    · have t1 : decide ((1 : Int) < (s.size : Int)) = false := decide_eq_false (by have := SZ.out; omega)
      have t1b : decide (1 < s.size) = false := decide_eq_false (by have := SZ.out; omega)
      have Q := Lib.hid (show false = decide (1 < l.length ∧ l.head? = some 45) from (decide_eq_false fun h => h1 h.1).symm)
      clear h1
      go_wp2
      go_meet
      exact ⟨false, rfl, Q, rfl⟩
  case rest =>
  obtain ⟨b, rfl, BE, rfl⟩ := hcut
  go_upto_if 17 with fail
  go_cut [0] (fun s0 wx => ∃ p : List UInt8, s0 = .string (bs p) ∧ Hid (R = numS most b p) ∧ p.length ≤ 140737488351232 ∧ w = wx)
  case first => as_aux_lemma =>
    cases b
    · have Q := Lib.hid (show R = numS most false l by rw [RE.out]; exact numS_plain (of_decide_eq_false BE.out.symm))
      go_wp2
      go_meet
      exact ⟨l, by rw [← S0.out], Q, by have := SZ.out; omega, rfl⟩
    · have h := of_decide_eq_true BE.out.symm
      have Q := Lib.hid (show R = numS most true (l.drop 1) by rw [RE.out]; exact numS_less h)
      have E := Lib.hid (show s.extract 1 s.size = bs (l.drop 1) by rw [S0.out, bs_extract, bs_size, ← List.length_drop, List.take_length])
      have j1 : 1 ≤ s.size := by have := SZ.out; omega
      clear h
      go_wp2
      go_meet
      exact ⟨l.drop 1, by rw [← E.out], Q, by have := SZ.out; rw [List.length_drop]; omega, rfl⟩
  case rest =>
  obtain ⟨p, rfl, RP, hp, rfl⟩ := hcut
  clear RE S0 SZ GT BE hsl hl
  obtain ⟨x, hx0⟩ : ∃ x, x = bs p := ⟨_, rfl⟩
  have xz : x.size = p.length := by rw [hx0, bs_size]
  have hget : ∀ k (h : k < p.length) (h2 : k < x.size), x[k] = p[k] := by subst hx0; exact fun k h h2 => bs_get p k h h2
  have XT := Lib.hid (show x.toList = p by rw [hx0, bs_toList])
  rw [← hx0]
  have X0 := Lib.hid hx0; have XZ := Lib.hid xz; have GT := Lib.hid hget
  have hxl : x.size ≤ 140737488351232 := by omega
  clear hx0 hget xz
  by_cases h0 : p = []
  · have E := Lib.hid (show R = none by rw [RP.out, numS, if_pos (.inl h0)])
    have q1 : x.toList.isEmpty = true := by rw [XT.out, h0]; rfl
    have q2 : x.toList = [] := by rw [XT.out, h0]
    clear h0
    go_wp2
    go_ret2
    exact ⟨by rw [E.out]; rfl, Below.refl _ _⟩
  have q1 : x.toList.isEmpty = false := by rw [XT.out]; simpa using h0
  have q2 : ¬ x.toList = [] := by rw [XT.out]; exact h0
  have hp0 := List.length_pos_iff.2 h0
  have hx0 : 0 < x.size := by have := XZ.out; omega
  have P0 := Lib.hid h0
  clear h0
  by_cases h1 : most < p.length
  · have E := Lib.hid (show R = none by rw [RP.out, numS, if_pos (.inr (.inl h1))])
    have t1 : decide ((most : Int) < (x.size : Int)) = true := decide_eq_true (by have := XZ.out; omega)
    have t1b : decide (most < x.size) = true := decide_eq_true (by have := XZ.out; omega)
    clear h1
    go_wp2
    go_ret2
    exact ⟨by rw [E.out]; rfl, Below.refl _ _⟩
  have t1 : decide ((most : Int) < (x.size : Int)) = false := decide_eq_false (by have := XZ.out; omega)
  have t1b : decide (most < x.size) = false := decide_eq_false (by have := XZ.out; omega)
  obtain ⟨n, hn⟩ : ∃ n : Int, n = ((x[0]'hx0).toNat : Int) := ⟨_, rfl⟩
  have HB := Lib.hid (head_byte (l := p) (m := 48) hp0 (show n = ((p[0]'hp0).toNat : Int) by rw [hn, GT.out 0 hp0 hx0]) (by omega))
  have hcn := hn.symm
  clear hn
  by_cases h2 : p.head? = some 48 ∧ (1 < p.length ∨ b = true)
  · have E := Lib.hid (show R = none by rw [RP.out, numS, if_pos (.inr (.inr h2))])
    have e48 : (n == 48) = true := HB.out.trans (decide_eq_true h2.1)
    by_cases h3 : 1 < p.length
    · have t3 : decide ((1 : Int) < (x.size : Int)) = true := decide_eq_true (by have := XZ.out; omega)
      have t3b : decide (1 < x.size) = true := decide_eq_true (by have := XZ.out; omega)
      clear h1 h2 h3
      go_wp2
      go_ret2
      exact ⟨by rw [E.out]; rfl, Below.refl _ _⟩
    · have t3 : decide ((1 : Int) < (x.size : Int)) = false := decide_eq_false (by have := XZ.out; omega)
      have t3b : decide (1 < x.size) = false := decide_eq_false (by have := XZ.out; omega)
      obtain rfl : b = true := by rcases h2.2 with h | h; exact absurd h h3; exact h
      clear h1 h2 h3
      go_wp2
      go_ret2
      exact ⟨by rw [E.out]; rfl, Below.refl _ _⟩
  have E := Lib.hid (show R = (Lib.decFrom 0 p).map fun n => if b = true then -(n : Int) else (n : Int) by
    rw [RP.out, numS, if_neg]
    rintro (h | h | h)
    · exact P0.out h
    · exact h1 h
    · exact h2 h)
  have DC := Lib.hid (rdig_any p 0 p.length w (Nat.zero_le _) (Nat.le_refl _) (by omega) hp)
  have PL := Lib.hid (show p.length ≤ 18 by omega)
  have tt : (n == 48) = false ∨ ((n == 48) = true ∧ decide ((1 : Int) < (x.size : Int)) = false ∧ decide (1 < x.size) = false ∧ b = false) := by
    by_cases h3 : p.head? = some 48
    · right
      have h4 : ¬ (1 < p.length ∨ b = true) := fun h => h2 ⟨h3, h⟩
      exact ⟨HB.out.trans (decide_eq_true h3), decide_eq_false (by have := XZ.out; omega), decide_eq_false (by have := XZ.out; omega), by simpa using fun h => h4 (.inr h)⟩
    · exact .inl (HB.out.trans (decide_eq_false h3))
  clear h1 h2 hm
  have DD := Lib.hid (show Calls Tryz.prog 71 #[.string x, .int .i64 0, .int .i64 (x.size : Int)] w fun e w' => e = .returned (.tuple #[.int .i64 (digN p), .bool (digO p)]) ∧ Below w.heap.size w w' by
    have h := DC.out
    rw [segL_all] at h
    rw [XZ.out, X0.out]
    exact h)
  clear DC
  cases hd : Lib.decFrom 0 p with
  | none =>
    have R0 := Lib.hid (show R = none by rw [E.out, hd]; rfl)
    have D0 := Lib.hid (show digN p = 0 ∧ digO p = false by rw [digN, digO, hd]; exact ⟨rfl, rfl⟩)
    clear hd
    rcases tt with u1 | ⟨u1, u2, u3, rfl⟩
    · cases b
      all_goals
        go_wp2_with fail
        refine DD.out.mono ?_; rintro e w2 ⟨rfl, hb2⟩
        rw [D0.out.1, D0.out.2]
        have B2 := Lib.hid hb2; clear hb2
        go_wp2
        go_ret2
        exact ⟨by rw [R0.out]; rfl, B2.out⟩
    · go_wp2_with fail
      refine DD.out.mono ?_; rintro e w2 ⟨rfl, hb2⟩
      rw [D0.out.1, D0.out.2]
      have B2 := Lib.hid hb2; clear hb2
      go_wp2
      go_ret2
      exact ⟨by rw [R0.out]; rfl, B2.out⟩
  | some m =>
    have hm := Lib.decFrom_lt p 0 m hd
    have hm2 : m < 1000000000000000000 := by
      have h2 : 10 ^ p.length ≤ 10 ^ 18 := Nat.pow_le_pow_right (by decide) PL.out
      have h3 : (10 : Nat) ^ 18 = 1000000000000000000 := by decide
      omega
    have m1 : (0 : Int) ≤ (m : Int) := Int.natCast_nonneg _
    have m2 : (m : Int) < 1000000000000000000 := by omega
    have D0 := Lib.hid (show digN p = (m : Int) ∧ digO p = true by rw [digN, digO, hd]; exact ⟨rfl, rfl⟩)
    have R0 := Lib.hid (show R = some (if b = true then -(m : Int) else (m : Int)) by rw [E.out, hd]; rfl)
    clear hd hm hm2
    rcases tt with u1 | ⟨u1, u2, u3, rfl⟩
    · cases b
      all_goals
        go_wp2_with fail
        refine DD.out.mono ?_; rintro e w2 ⟨rfl, hb2⟩
        rw [D0.out.1, D0.out.2]
        have B2 := Lib.hid hb2; clear hb2
        go_wp2
        go_ret2
        exact ⟨by rw [R0.out]; rfl, B2.out⟩
    · go_wp2_with fail
      refine DD.out.mono ?_; rintro e w2 ⟨rfl, hb2⟩
      rw [D0.out.1, D0.out.2]
      have B2 := Lib.hid hb2; clear hb2
      go_wp2
      go_ret2
      exact ⟨by rw [R0.out]; rfl, B2.out⟩

end Go.Proofs.YtdkcgggnkhbkkaaGreatDoor
