/- Contracts of the references Alarm, Name, times, Stretch. Condition: none but those that each states. -/
import Derived.Test.YtkpmddlinlcobaaGreatDoorQ10
import Derived.Test.YtkpmddlinlcobaaGreatDoorQ14
import Derived.Test.YtkpmddlinlcobaaGreatDoorRefZ
import Derived.Test.YtkpmddlinlcobaaGreatDoorQ05
namespace Go.Proofs.YtkpmddlinlcobaaGreatDoor
open Go.RowKit Go.Shelf
set_option linter.unusedSimpArgs false
set_option linter.unusedVariables false

set_option maxHeartbeats 4000000 in
theorem ralarm_any (o r b : Int) (en : Bool) (w : World) :
    Calls Tryz.prog 18 #[.agg #[.int .i64 o, .bool en, .int .i64 r, .int .i64 b]] w fun e w' => e = .returned (.int .i64 (almE o r b)) ∧ Below w.heap.size w w' := by
  have HB := fun o => Lib.hid (show Below w.heap.size w (w.alloc o) from (Below.refl _ _).alloc (Nat.le_refl _) _)
  by_cases h : o < -100000 ∨ 100000 < o ∨ r < 0 ∨ 5 < r ∨ (0 < r ∧ (b < 1 ∨ 10000 < b)) ∨ (r = 0 ∧ b ≠ 0)
  · have E := Lib.hid (show almE o r b = 1 by rw [almE, if_pos h])
    have tt : decide (o < -100000) = true ∨
      (decide (o < -100000) = false ∧ decide (100000 < o) = true) ∨
      (decide (o < -100000) = false ∧ decide (100000 < o) = false ∧ decide (r < 0) = true) ∨
      (decide (o < -100000) = false ∧ decide (100000 < o) = false ∧ decide (r < 0) = false ∧ decide (5 < r) = true) ∨
      (decide (o < -100000) = false ∧ decide (100000 < o) = false ∧ decide (r < 0) = false ∧ decide (5 < r) = false ∧ decide (0 < r) = true ∧ decide (b < 1) = true) ∨
      (decide (o < -100000) = false ∧ decide (100000 < o) = false ∧ decide (r < 0) = false ∧ decide (5 < r) = false ∧ decide (0 < r) = true ∧ decide (b < 1) = false ∧ decide (10000 < b) = true) ∨
      (decide (o < -100000) = false ∧ decide (100000 < o) = false ∧ decide (r < 0) = false ∧ decide (5 < r) = false ∧ decide (0 < r) = false ∧ (r == 0) = true ∧ (b == 0) = false ∧ (b != 0) = true) := by
      simp only [decide_eq_true_eq, decide_eq_false_iff_not, beq_iff_eq, beq_eq_false_iff_ne, bne_iff_ne, ne_eq]; omega
    clear h
    rcases tt with t1 | ⟨t1, t2⟩ | ⟨t1, t2, t3⟩ | ⟨t1, t2, t3, t4⟩ | ⟨t1, t2, t3, t4, t5, t6⟩ | ⟨t1, t2, t3, t4, t5, t6, t7⟩ | ⟨t1, t2, t3, t4, t5, t6, t7, t8⟩
    all_goals
      go_enter Tryz.func18, Tryz.ntmps18
      go_wp2
      go_ret
      exact ⟨by rw [E.out]; rfl, (HB _).out⟩
  · have E := Lib.hid (show almE o r b = 0 by rw [almE, if_neg h])
    have t1 : decide (o < -100000) = false := decide_eq_false (by omega)
    have t2 : decide (100000 < o) = false := decide_eq_false (by omega)
    have t3 : decide (r < 0) = false := decide_eq_false (by omega)
    have t4 : decide (5 < r) = false := decide_eq_false (by omega)
    have tt : (decide (0 < r) = true ∧ decide (b < 1) = false ∧ decide (10000 < b) = false ∧ (r == 0) = false) ∨ (decide (0 < r) = false ∧ (r == 0) = true ∧ (b == 0) = true ∧ (b != 0) = false) := by
      simp only [decide_eq_true_eq, decide_eq_false_iff_not, beq_iff_eq, beq_eq_false_iff_ne, bne_eq_false_iff_eq, ne_eq]; omega
    clear h
    rcases tt with ⟨t5, t6, t7, t8⟩ | ⟨t5, t6, t7, t8⟩
    all_goals
      go_enter Tryz.func18, Tryz.ntmps18
      go_wp2
      go_ret
      exact ⟨by rw [E.out]; rfl, (HB _).out⟩

set_option maxHeartbeats 4000000 in
theorem rname_any (l : List UInt8) (w : World) (hs : l.length ≤ 140737488351232) :
    Calls Tryz.prog 57 #[.string (bs l)] w fun e w' => e = .returned (.bool (nameB l)) ∧ w = w' := by
  obtain ⟨s, hs0⟩ : ∃ s, s = bs l := ⟨_, rfl⟩
  have hsz : s.size = l.length := by rw [hs0, bs_size]
  have hget : ∀ k (h : k < l.length) (h2 : k < s.size), s[k] = l[k] := by subst hs0; exact fun k h h2 => bs_get l k h h2
  have hto : s.toList = l := by rw [hs0]; exact bs_toList l
  rw [← hs0]
  have SZ := Lib.hid hsz; have GT := Lib.hid hget
  by_cases h0 : l = []
  · have E := Lib.hid (show nameB l = false by simp [nameB, h0])
    have q1 : s.toList.isEmpty = true := by rw [hto, h0]; rfl
    have q2 : s.toList = [] := by rw [hto, h0]
    clear h0 hs0 hget hsz hto
    go_enter Tryz.func57, Tryz.ntmps57
    go_wp2
    go_ret
    exact ⟨by rw [E.out]; rfl, rfl⟩
  have q1 : s.toList.isEmpty = false := by rw [hto]; simpa using h0
  have q2 : ¬ s.toList = [] := by rw [hto]; exact h0
  by_cases h8 : 8 < l.length
  · have t1 : decide ((8 : Int) < (s.size : Int)) = true := decide_eq_true (by omega)
    have t1b : decide (8 < s.size) = true := decide_eq_true (by omega)
    have E := Lib.hid (show nameB l = false by rw [nameB, show decide (l.length ≤ 8) = false from decide_eq_false (by omega)]; simp)
    clear h0 h8 hs0 hget hsz hto
    go_enter Tryz.func57, Tryz.ntmps57
    go_wp2
    go_ret
    exact ⟨by rw [E.out]; rfl, rfl⟩
  have t1 : decide ((8 : Int) < (s.size : Int)) = false := decide_eq_false (by omega)
  have t1b : decide (8 < s.size) = false := decide_eq_false (by omega)
  have E := Lib.hid (show nameB l = !l.any (fun c : UInt8 => nameOut (c.toNat : Int)) by rw [nameB, show l.isEmpty = false by simpa using h0, show decide (l.length ≤ 8) = true from decide_eq_true (by omega)]; simp)
  have l8 : s.size ≤ 8 := by omega
  clear h0 h8 hs0 hget hsz hto
  go_enter Tryz.func57, Tryz.ntmps57
  go_wp2
  clear q1 q2 t1 t1b
  go_loopg [3] l.length (fun g iv wr => ∃ (k : Nat), k ≤ l.length ∧ iv = .int .i64 k ∧ g = l.length - k ∧ Hid ((l.take k).any (fun c : UInt8 => nameOut (c.toNat : Int)) = false) ∧ wr = w)
  case atStart => exact ⟨0, Nat.zero_le _, rfl, rfl, Lib.hid (by simp), rfl⟩
  case round =>
    obtain ⟨k, hk, rfl, hg, NO, rfl⟩ := hrel
    have G := Lib.hid hg; clear hg
    by_cases hlt : k < s.size
    · have hlt2 : k < l.length := by rw [← SZ.out]; exact hlt
      obtain ⟨n, hn⟩ : ∃ n : Int, n = ((s[k]).toNat : Int) := ⟨_, rfl⟩
      have N := Lib.hid (show nameOut (l[k].toNat : Int) = nameOut n by rw [hn, GT.out k hlt2 hlt])
      have hcn : ((s[k]).toNat : Int) = n := hn.symm
      clear hn
      have i1 : (0 : Int) ≤ (k : Int) := Int.natCast_nonneg _
      have i2 : (k : Int) < (s.size : Int) := by omega
      by_cases h1 : n < 97
      · have d1 : decide (n < 97) = true := decide_eq_true h1
        have F := Lib.hid (show nameB l = false by rw [E.out, any_yes (p := fun c : UInt8 => nameOut (c.toNat : Int)) hlt2 (by show nameOut _ = true; rw [N.out, nameOut]; simp [h1])]; rfl)
        clear h1
        go_wp2
        go_ret
        exact ⟨by rw [F.out]; rfl, rfl⟩
      have d1 : decide (n < 97) = false := decide_eq_false h1
      by_cases h2 : 122 < n
      · have d2 : decide (122 < n) = true := decide_eq_true h2
        have F := Lib.hid (show nameB l = false by rw [E.out, any_yes (p := fun c : UInt8 => nameOut (c.toNat : Int)) hlt2 (by show nameOut _ = true; rw [N.out, nameOut]; simp [h2])]; rfl)
        clear h1 h2
        go_wp2
        go_ret
        exact ⟨by rw [F.out]; rfl, rfl⟩
      have d2 : decide (122 < n) = false := decide_eq_false h2
      have F := Lib.hid (any_no (p := fun c : UInt8 => nameOut (c.toNat : Int)) hlt2 NO.out (by show nameOut _ = false; rw [N.out, nameOut, d1, d2]; rfl))
      clear h1 h2
      go_wp2
      go_roundg (l.length - (k + 1))
      case measure => rw [G.out]; omega
      case rel => exact ⟨k + 1, by omega, by go_num, rfl, F, rfl⟩
    · obtain rfl : k = l.length := by have := SZ.out; omega
      have F := Lib.hid (show nameB l = true by rw [E.out]; have := NO.out; rw [List.take_length] at this; rw [this]; rfl)
      go_wp2
      go_ret
      exact ⟨by rw [F.out]; rfl, rfl⟩

set_option maxHeartbeats 2000000 in
theorem rtimesB_any (v : Value) (L : List Int) (w : World) (hL : IntsR w v L) :
    Calls Tryz.prog 59 #[v] w fun e w' => e = .returned (.bool (!L.any badT)) ∧ w = w' := by
  obtain ⟨a, cap, rfl, hc1, hc2, hcell⟩ := intsR_open hL
  unfold maxLen at hc2
  have HC := Lib.hid hcell; clear hcell hL
  go_enter Tryz.func59, Tryz.ntmps59
  go_wp2
  go_loopg [3] L.length (fun g i wr => ∃ k : Nat, k ≤ L.length ∧ i = .int .i64 k ∧ Hid ((L.take k).any badT = false) ∧ g = L.length - k ∧ wr = w)
  case atStart => exact ⟨0, Nat.zero_le _, rfl, Lib.hid (by simp), rfl, rfl⟩
  case round =>
    obtain ⟨k, hk, rfl, hS, hg, rfl⟩ := hrel
    have G := Lib.hid hg; clear hg
    by_cases hlt : k < L.length
    · obtain ⟨b, off, rfl, hcs⟩ := HC.out (by omega)
      have c0 := hcs k hlt
      obtain ⟨x, hx⟩ : ∃ x, x = L[k] := ⟨_, rfl⟩
      rw [← hx] at c0
      have X := Lib.hid hx
      obtain ⟨t, ht⟩ : ∃ t, t = timeB x := ⟨_, rfl⟩
      have TX := Lib.hid (show badT L[k] = !t by rw [← hx, badT, ht])
      have RT := Lib.hid (show ∀ wx, Calls Tryz.prog 32 #[.int .i64 x] wx (fun e w' => e = .returned (.bool t) ∧ wx = w') from fun wx => by rw [ht]; exact rtime_any x wx)
      have i1 : (0 : Int) ≤ (k : Int) := Int.natCast_nonneg _
      have i2 : (k : Int) < (L.length : Int) := by omega
      clear hx hcs ht
      go_wp2_with fail
      refine (RT.out _).mono ?_; rintro e w2 ⟨rfl, rfl⟩
      clear RT
      cases t
      · have F := Lib.hid (show (!L.any badT) = false by rw [any_yes (p := badT) hlt (by rw [TX.out]; rfl)]; rfl)
        go_wp2
        go_ret
        exact ⟨by rw [F.out]; rfl, rfl⟩
      · have F := Lib.hid (any_no (p := badT) hlt hS.out (by rw [TX.out]; rfl))
        go_wp2
        go_roundg (L.length - (k + 1))
        case measure => rw [G.out]; omega
        case rel => exact ⟨k + 1, by omega, by go_num, F, rfl, rfl⟩
    · obtain rfl : k = L.length := by omega
      have F := Lib.hid (show (!L.any badT) = true by have := hS.out; rw [List.take_length] at this; rw [this]; rfl)
      go_wp2
      go_ret
      exact ⟨by rw [F.out]; rfl, rfl⟩

set_option maxHeartbeats 2000000 in
theorem rstretch_any (a b : Int) (w : World) : Calls Tryz.prog 19 #[.int .i64 a, .int .i64 b] w fun e w' => e = .returned (.int .i64 (spanE a b)) ∧ w = w' := by
  obtain ⟨S, hS⟩ : ∃ S, S = spanE a b := ⟨_, rfl⟩
  rw [← hS]
  obtain ⟨ta, hta⟩ : ∃ t, t = timeB a := ⟨_, rfl⟩
  obtain ⟨tb, htb⟩ : ∃ t, t = timeB b := ⟨_, rfl⟩
  have SE := Lib.hid hS; have TA := Lib.hid hta; have TB := Lib.hid htb
  have R1 := Lib.hid (show ∀ wx, Calls Tryz.prog 32 #[.int .i64 a] wx (fun e w' => e = .returned (.bool ta) ∧ wx = w') from fun wx => by rw [hta]; exact rtime_any a wx)
  have R2 := Lib.hid (show ∀ wx, Calls Tryz.prog 32 #[.int .i64 b] wx (fun e w' => e = .returned (.bool tb) ∧ wx = w') from fun wx => by rw [htb]; exact rtime_any b wx)
  clear hS hta htb
  go_enter Tryz.func19, Tryz.ntmps19
  go_wp2_with fail
  refine (R1.out _).mono ?_; rintro e w2 ⟨rfl, rfl⟩
  go_wp2_with fail
  refine (R2.out _).mono ?_; rintro e w2 ⟨rfl, rfl⟩
  cases ta
  · have Q := Lib.hid (show S = 1 by rw [SE.out, spanE, if_neg (by rw [← TA.out]; simp)])
    go_wp2
    go_ret
    exact ⟨by rw [Q.out]; rfl, rfl⟩
  cases tb
  · have Q := Lib.hid (show S = 1 by rw [SE.out, spanE, if_neg (by rw [← TB.out]; simp)])
    go_wp2
    go_ret
    exact ⟨by rw [Q.out]; rfl, rfl⟩
  obtain ⟨a1, a2⟩ := timeB_yes TA.out.symm
  obtain ⟨b1, b2⟩ := timeB_yes TB.out.symm
  by_cases g1 : b < a
  · have Q := Lib.hid (show S = 1 by rw [SE.out, spanE, if_neg (by omega)])
    have t1 : decide (b < a) = true := decide_eq_true g1
    clear g1
    go_wp2
    go_ret
    exact ⟨by rw [Q.out]; rfl, rfl⟩
  have t1 : decide (b < a) = false := decide_eq_false g1
  have s1 : IntKind.i64.wrap (b - a) = b - a := IntWalk.i64_in _ (by omega)
  by_cases g2 : 1000000 < b - a
  · have Q := Lib.hid (show S = 1 by rw [SE.out, spanE, if_neg (by omega)])
    have t2 : decide (1000000 < b - a) = true := decide_eq_true g2
    clear g1 g2
    go_wp2
    go_ret
    exact ⟨by rw [Q.out]; rfl, rfl⟩
  · have Q := Lib.hid (show S = 0 by rw [SE.out, spanE, if_pos ⟨TA.out.symm, TB.out.symm, by omega, by omega⟩])
    have t2 : decide (1000000 < b - a) = false := decide_eq_false g2
    clear g1 g2
    go_wp2
    go_ret
    exact ⟨by rw [Q.out]; rfl, rfl⟩

end Go.Proofs.YtkpmddlinlcobaaGreatDoor
