/- The contract of month.Cell. Conditions: the library's powers of ten lie as they are laid, its ErrSyntax holds an error. -/
import Derived.Test.YtdkcgggnkhbkkaaGreatDoorCellN
import Derived.Test.YtdkcgggnkhbkkaaGreatDoorLineB
import Derived.Test.YtdkcgggnkhbkkaaGreatDoorShCell
import Derived.Lib.AppendIntMem
import Derived.Lib.AtoiBound
import Derived.Lib.SmallJoins
import Derived.Deep.DeepCutAuto
import Derived.Deep.CutBlock
import Derived.Outline
namespace Go.Proofs.YtdkcgggnkhbkkaaGreatDoor
open Go.RowKit Go.Shelf
set_option linter.unusedSimpArgs false
set_option linter.unusedVariables false

/-- the library's ErrSyntax holds an error. -/
def SynT (w : World) : Prop := ∃ (t : TypeId) (p : Value), w.cell? ⟨3, 0, none⟩ = some (.iface t p)

theorem SynT.below {w w' : World} (h : SynT w) (hb : Below w.heap.size w w') : SynT w' := by
  obtain ⟨t, p, hm⟩ := h
  exact ⟨t, p, cell_below hb hm⟩

/-- the library's powers of ten. -/
def PowT (w : World) : Prop := Lib.TabIs Tryz.prog w "internal/strconv.uint64pow10" .u64 Lib.pow10Tab

theorem PowT.below {w w' : World} (h : PowT w) (hb : Below w.heap.size w w') : PowT w' :=
  Go.Joins.tab_stays (g := 5) (by kernel_rfl) h hb (Nat.le_refl _)

theorem bs_arr (l : List UInt8) : (bs l).data.toList = l := by simp [bs]

theorem atoi_yes (l : List UInt8) (n : Int) (w : World) (hl : l.length ≤ 18) (h : Lib.atoi l = some n) :
    Calls Tryz.prog 81 #[.string (bs l)] w fun e w' => e = .returned (.tuple #[.int .i64 n, .nilIface]) ∧ Below w.heap.size w w' := by
  refine (Tryz.strconv_Atoi (bs l) n (by rw [bs_size]; exact hl) (by rw [bs_arr]; exact h) w).mono ?_
  rintro e w' ⟨rfl, t, rfl⟩
  exact ⟨rfl, Go.Joins.below_bytesWorld _ _ _ _ (Nat.le_refl _)⟩

theorem atoi_no (l : List UInt8) (w : World) (hS : SynT w) (hl : l.length ≤ 18) (h : Lib.atoi l = none) :
    Calls Tryz.prog 81 #[.string (bs l)] w fun e w' => (∃ p, e = .returned (.tuple #[.int .i64 0, .iface 180 p])) ∧ Below w.heap.size w w' := by
  obtain ⟨t, p, hc⟩ := hS
  refine (Tryz.strconv_Atoi_err (bs l) (by rw [bs_size]; exact hl) (by rw [bs_arr]; exact h) _ w hc (.inr ⟨t, p, rfl⟩)).mono ?_
  rintro e w' ⟨N, rfl, _, _, hb⟩
  exact ⟨⟨_, rfl⟩, hb⟩

theorem itoa_any (n : Int) (w : World) (hP : PowT w) (h0 : -9223372036854775808 ≤ n) (h1 : n ≤ 9223372036854775807) :
    Calls Tryz.prog 78 #[.int .i64 n] w fun e w' => e = .returned (.string (bs (Lib.itoa n))) ∧ Below w.heap.size w w' := by
  refine (Tryz.strconv_Itoa n h0 h1 w hP).mono ?_
  rintro e w' ⟨rfl, k, os, rfl⟩
  exact ⟨rfl, Go.Lib.below_grow _ _ (Nat.le_refl _) _ _⟩

theorem byte_is {c : UInt8} {n : Int} {m : Nat} (hn : n = (c.toNat : Int)) (hm : m < 256) : (n == (m : Int)) = decide (c = UInt8.ofNat m) := by
  rw [Bool.eq_iff_iff, beq_iff_eq, decide_eq_true_eq, hn, ← UInt8.toNat_inj, UInt8.toNat_ofNat']
  omega

theorem sign_cases {p : UInt8} {n : Int} (h1 : (n == ((32 : Nat) : Int)) = decide (p = UInt8.ofNat 32)) (h2 : (n == ((42 : Nat) : Int)) = decide (p = UInt8.ofNat 42)) :
    ((n == 32) = true ∧ (n != 32) = false ∧ p = 32) ∨ ((n == 32) = false ∧ (n != 32) = true ∧ (n == 42) = true ∧ (n != 42) = false ∧ p = 42) ∨ ((n == 32) = false ∧ (n != 32) = true ∧ (n == 42) = false ∧ (n != 42) = true ∧ ¬ (p = 32 ∨ p = 42)) := by
  have e1 : (n == 32) = decide (p = 32) := h1
  have e2 : (n == 42) = decide (p = 42) := h2
  by_cases a : p = 32
  · left; have : (n == 32) = true := by rw [e1]; exact decide_eq_true a
    exact ⟨this, by simp [bne, this], a⟩
  · have x1 : (n == 32) = false := by rw [e1]; exact decide_eq_false a
    by_cases b : p = 42
    · right; left; have : (n == 42) = true := by rw [e2]; exact decide_eq_true b
      exact ⟨x1, by simp [bne, x1], this, by simp [bne, this], b⟩
    · right; right; have x2 : (n == 42) = false := by rw [e2]; exact decide_eq_false b
      exact ⟨x1, by simp [bne, x1], x2, by simp [bne, x2], fun h => h.elim a b⟩

set_option maxRecDepth 100000 in
set_option maxHeartbeats 4000000 in
theorem mcell_any (v : Value) (L : List (List UInt8)) (row col : Int) (w : World) (hL : StrsR w v L) (hP : PowT w) (hS : SynT w) :
    Calls Tryz.prog 39 #[v, .int .i64 row, .int .i64 col] w fun e w' => e = .returned (.tuple #[.int .i64 (cellF L row col).1, errV (cellF L row col).2]) ∧ Below w.heap.size w w' := by
  obtain ⟨a, cap, rfl, -, k2, hcell⟩ := strsR_open hL
  unfold maxLen at k2
  have HC := Lib.hid hcell; have PT := Lib.hid hP; have ST := Lib.hid hS
  clear hL hcell hP hS
  by_cases h : row < 0 ∨ (L.length : Int) ≤ row ∨ col < 0 ∨ 6 < col
  · have E := Lib.hid (show cellF L row col = (0, 1) by rw [cellF, if_pos h])
    have tt : decide (row < 0) = true ∨ (decide (row < 0) = false ∧ decide ((L.length : Int) ≤ row) = true) ∨ (decide (row < 0) = false ∧ decide ((L.length : Int) ≤ row) = false ∧ decide (col < 0) = true) ∨ (decide (row < 0) = false ∧ decide ((L.length : Int) ≤ row) = false ∧ decide (col < 0) = false ∧ decide (6 < col) = true) := by
      simp only [decide_eq_true_eq, decide_eq_false_iff_not]; omega
    clear h
    rcases tt with t1 | ⟨t1, t2⟩ | ⟨t1, t2, t3⟩ | ⟨t1, t2, t3, t4⟩
    all_goals
      go_enter Tryz.func39, Tryz.ntmps39
      go_wp2
      go_ret2
      exact ⟨by rw [E.out]; rfl, Below.refl _ _⟩
  obtain ⟨r, rfl⟩ : ∃ r : Nat, row = (r : Int) := ⟨row.toNat, by omega⟩
  obtain ⟨c, rfl⟩ : ∃ c : Nat, col = (c : Int) := ⟨col.toNat, by omega⟩
  have hr : r < L.length := by omega
  have hc : c ≤ 6 := by omega
  have CF := Lib.hid (show cellF L (r : Int) (c : Int) = if L[r].length ≠ 21 then (0, 2) else cellQ ((L[r].drop (c * 3)).take 3) by
    rw [cellF, if_neg h, show ((r : Int)).toNat = r by omega, List.getElem?_eq_getElem hr, Option.getD_some, show ((c : Int) * 3).toNat = c * 3 by omega])
  clear h
  obtain ⟨b, off, rfl, hcs⟩ := HC.out (by omega)
  have c0 := hcs r hr
  obtain ⟨l, hl⟩ : ∃ l, l = L[r] := ⟨_, rfl⟩
  rw [← hl] at CF c0
  obtain ⟨x, hx⟩ : ∃ x, x = bs l := ⟨_, rfl⟩
  rw [← hx] at c0
  have X := Lib.hid hx
  have XZ := Lib.hid (show x.size = l.length by rw [hx, bs_size])
  clear hcs hl hx HC
  have i1 : (0 : Int) ≤ (r : Int) := Int.natCast_nonneg _
  have i2 : (r : Int) < (L.length : Int) := by omega
  have i3 : (0 : Int) ≤ (c : Int) := Int.natCast_nonneg _
  have i4 : (c : Int) ≤ 6 := by omega
  have t1 : decide ((L.length : Int) ≤ (r : Int)) = false := decide_eq_false (by omega)
  have t1b : decide (L.length ≤ r) = false := decide_eq_false (by omega)
  have t2 : decide ((6 : Int) < (c : Int)) = false := decide_eq_false (by omega)
  have t2b : decide (6 < c) = false := decide_eq_false (by omega)
  by_cases h21 : ¬ x.size = 21
  · have E := Lib.hid (show cellF L (r : Int) (c : Int) = (0, 2) by rw [CF.out, if_pos (by rw [← XZ.out]; exact h21)])
    have z : ((x.size : Int) == 21) = false := by rw [beq_eq_false_iff_ne]; omega
    have z2 : ((x.size : Int) != 21) = true := by simp [bne, z]
    clear h21
    go_enter Tryz.func39, Tryz.ntmps39
    go_wp2
    go_ret2
    exact ⟨by rw [E.out]; rfl, Below.refl _ _⟩
  replace h21 : x.size = 21 := by omega
  have z : ((x.size : Int) == 21) = true := by rw [beq_iff_eq]; omega
  have z2 : ((x.size : Int) != 21) = false := by simp [bne, z]
  obtain ⟨S, hS⟩ : ∃ S, S = x.extract (c * 3) (c * 3 + 3) := ⟨_, rfl⟩
  obtain ⟨p, q, u, hl3⟩ : ∃ p q u, (l.drop (c * 3)).take 3 = [p, q, u] := by
    have hlen : ((l.drop (c * 3)).take 3).length = 3 := by have := XZ.out; rw [List.length_take, List.length_drop]; omega
    match h : (l.drop (c * 3)).take 3, hlen with
    | [p, q, u], _ => exact ⟨p, q, u, rfl⟩
  have E0 := Lib.hid (show cellF L (r : Int) (c : Int) = cellQ [p, q, u] by rw [CF.out, if_neg (by rw [← XZ.out]; omega), hl3])
  have S0 : S = bs [p, q, u] := by rw [hS, X.out, bs_extract, show c * 3 + 3 - c * 3 = 3 by omega, hl3]
  have S3 : S.size = 3 := by rw [S0, bs_size]; rfl
  have SE := Lib.hid S0
  have T0 := Lib.hid (show S.extract 1 S.size = bs [q, u] by rw [S3, S0, bs_extract]; rfl)
  have P0 := Lib.hid (show ∀ h : 0 < S.size, S[0] = p by subst S0; intro h; rfl)
  have HS := Lib.hid hS
  have q1 : (0 : Int) ≤ ((c : Int) + 1) * 3 := by omega
  have q2 : ((c : Int) + 1) * 3 ≤ (x.size : Int) := by omega
  have q3 : (0 : Int) ≤ (c : Int) * 3 := by omega
  have q4 : (((c : Int) + 1) * 3).toNat = c * 3 + 3 := by omega
  have q5 : (c : Int) * 3 ≤ ((c * 3 + 3 : Nat) : Int) := by omega
  have q6 : decide ((r : Int) < 0) = false := decide_eq_false (by omega)
  have q7 : decide ((c : Int) < 0) = false := decide_eq_false (by omega)
  clear hS hl3 CF h21 S0
  go_enter Tryz.func39, Tryz.ntmps39
  go_upto_region 6 with fail
  rw [← HS.out]
  clear q1 q2 q3 q4 q5 HS
  have T1 := Lib.hid (show S.extract 1 3 = bs [q, u] by rw [← T0.out, S3])
  have eqA : q = 32 ∧ u = 32 → (S.extract 1 3).toList = [32, 32] := by rintro ⟨rfl, rfl⟩; rw [T1.out, bs_toList]
  have eqB : ¬ (q = 32 ∧ u = 32) → ¬ (S.extract 1 3).toList = [32, 32] := by
    intro h e; rw [T1.out, bs_toList] at e; simp at e; exact h e
  have EA := Lib.hid eqA; have EB := Lib.hid eqB
  obtain ⟨n0, hn0⟩ : ∃ n : Int, n = (p.toNat : Int) := ⟨_, rfl⟩
  have N0 := Lib.hid hn0
  have hcn : ((S[0]'(by omega)).toNat : Int) = n0 := by rw [P0.out (by omega), hn0]
  clear eqA eqB hn0
  have b32 := byte_is (m := 32) N0.out (by omega)
  have b42 := byte_is (m := 42) N0.out (by omega)
  have B32 := Lib.hid b32; have B42 := Lib.hid b42
  clear b32 b42
  go_cut [53] (fun s53 wx => ∃ z : Bool, s53 = .bool z ∧ Hid (z = decide ([p, q, u] = [32, 32, 32])) ∧ w = wx)
  case first => as_aux_lemma =>
    by_cases h1 : q = 32 ∧ u = 32
    · have e1 := EA.out h1
      by_cases h2 : p = 32
      · have e2 : (n0 == 32) = true := by have := B32.out; simp [h2] at this; simpa using this
        have Z := Lib.hid (show true = decide ([p, q, u] = [32, 32, 32]) by rw [h1.1, h1.2, h2]; rfl)
        clear h1 h2 EA EB
        go_wp2
        go_meet
        exact ⟨true, rfl, Z, rfl⟩
      · have e2 : (n0 == 32) = false := by have := B32.out; simp [h2] at this; simpa using this
        have Z := Lib.hid (show false = decide ([p, q, u] = [32, 32, 32]) by symm; simp [h2])
        clear h1 h2 EA EB
        go_wp2
        go_meet
        exact ⟨false, rfl, Z, rfl⟩
    · have e1 := EB.out h1
      have Z := Lib.hid (show false = decide ([p, q, u] = [32, 32, 32]) by symm; simp; intro _ h; exact fun h' => h1 ⟨h, h'⟩)
      clear h1 EA EB
      go_wp2
      go_meet
      exact ⟨false, rfl, Z, rfl⟩
  case rest =>
  obtain ⟨zz, rfl, ZE, rfl⟩ := hcut
  clear EA EB
  by_cases hz : zz = true
  · subst hz
    have E := Lib.hid (show cellF L (r : Int) (c : Int) = (0, 5) by
      have h := of_decide_eq_true ZE.out.symm
      rw [E0.out, h]; exact cellQ_none)
    go_wp2
    go_ret2
    exact ⟨by rw [E.out]; rfl, Below.refl _ _⟩
  obtain rfl : zz = false := by simpa using hz
  have NE := Lib.hid (of_decide_eq_false ZE.out.symm)
  clear hz ZE
  go_wp2_with fail
  rw [T1.out]
  refine (Tryz.strings_TrimPrefix (bs [q, u]) _ _).mono ?_; rintro e w2 ⟨rfl, hw2⟩
  subst hw2
  obtain ⟨tl, htl⟩ : ∃ tl, tl = trimSp [q, u] := ⟨_, rfl⟩
  rw [show Lib.trimPrefix (bs [q, u]).data.toList ({ data := #[32] } : ByteArray).data.toList = tl by rw [bs_arr, htl]; exact trim_sp _]
  rw [show ({ data := tl.toArray } : ByteArray) = bs tl from rfl]
  have TL := Lib.hid (show trimSp (([p, q, u] : List UInt8).drop 1) = tl by rw [htl]; rfl)
  have tlen : tl.length ≤ 2 := by have := trimSp_len [q, u]; rw [htl]; simpa using this
  clear htl T1 T0 P0
  obtain ⟨tb, htb⟩ : ∃ tb, tb = bs tl := ⟨_, rfl⟩
  have TB := Lib.hid htb
  rw [← htb]
  clear htb
  have F := Lib.hid (sign_cases B32.out B42.out)
  clear B32 B42
  cases hA : Lib.atoi tl with
  | none =>
    have E := Lib.hid (show cellF L (r : Int) (c : Int) = (0, 2) by rw [E0.out]; exact cellQ_atoi_none NE.out (by rw [TL.out]; exact hA))
    have HA := Lib.hid hA; clear hA
    rcases F.out with ⟨f1, f2, _⟩ | ⟨f1, f2, f3, f4, _⟩ | ⟨f1, f2, f3, f4, _⟩
    all_goals
      go_wp2_with fail
      rw [TB.out]
      refine (atoi_no tl _ ST.out (by omega) HA.out).mono ?_; rintro e w3 ⟨⟨pe, rfl⟩, hb3⟩
      rw [← TB.out]
      have B3 := Lib.hid hb3; clear hb3
      go_wp2
      go_ret2
      exact ⟨by rw [E.out]; rfl, B3.out⟩
  | some n =>
    have HA := Lib.hid hA
    have nb := Lib.atoi_bound hA (by omega)
    obtain ⟨nb1, nb2⟩ := nb
    clear hA
    rcases F.out with ⟨f1, f2, fp⟩ | ⟨f1, f2, f3, f4, fp⟩ | ⟨f1, f2, f3, f4, fp⟩
    rotate_left 2
    · have E := Lib.hid (show cellF L (r : Int) (c : Int) = (0, 2) by rw [E0.out]; exact cellQ_bad NE.out (fun m _ h => by simp at h; exact absurd h (by simpa using fp)))
      clear fp
      go_wp2_with fail
      rw [TB.out]
      refine (atoi_yes tl n _ (by omega) HA.out).mono ?_; rintro e w3 ⟨rfl, hb3⟩
      rw [← TB.out]
      have B3 := Lib.hid hb3; clear hb3
      go_wp2
      go_ret2
      exact ⟨by rw [E.out]; rfl, B3.out⟩
    all_goals
      have HH := Lib.hid (show ([p, q, u] : List UInt8).head? = some 32 ∨ ([p, q, u] : List UInt8).head? = some 42 by rw [fp]; simp)
      clear fp
      go_wp2_with fail
      rw [TB.out]
      refine (atoi_yes tl n _ (by omega) HA.out).mono ?_; rintro e w3 ⟨rfl, hb3⟩
      rw [← TB.out]
      have B3 := Lib.hid hb3
      have PT := Lib.hid (PT.out.below hb3)
      clear hb3
      go_wp2_with fail
      refine (itoa_any n _ PT.out (by omega) (by omega)).mono ?_; rintro e w4 ⟨rfl, hb4⟩
      have B4 := Lib.hid (B3.out.trans (hb4.mono B3.out.size)); clear hb4
      by_cases hi : Lib.itoa n = tl
      · have hn := numP_of_itoa hi tlen
        rw [hi, ← TB.out]
        by_cases h1 : n < 1
        · have E := Lib.hid (show cellF L (r : Int) (c : Int) = (0, 2) by rw [E0.out]; exact cellQ_bad NE.out (fun m hm _ => by rw [TL.out, hn] at hm; cases hm; omega))
          have t3 : decide (n < 1) = true := decide_eq_true h1
          clear hn hi h1
          go_wp2
          go_ret2
          exact ⟨by rw [E.out]; rfl, B4.out⟩
        · have t3 : decide (n < 1) = false := decide_eq_false h1
          by_cases h2 : 31 < n
          · have E := Lib.hid (show cellF L (r : Int) (c : Int) = (0, 2) by rw [E0.out]; exact cellQ_bad NE.out (fun m hm _ _ => by rw [TL.out, hn] at hm; cases hm; exact h2))
            have t4 : decide (31 < n) = true := decide_eq_true h2
            clear hn hi h1 h2
            go_wp2
            go_ret2
            exact ⟨by rw [E.out]; rfl, B4.out⟩
          · have E := Lib.hid (show cellF L (r : Int) (c : Int) = (n, 0) by rw [E0.out]; exact cellQ_yes NE.out (by rw [TL.out, hn]) HH.out (by omega) (by omega))
            have t4 : decide (31 < n) = false := decide_eq_false h2
            clear hn hi h1 h2
            go_wp2
            go_ret2
            exact ⟨by rw [E.out]; rfl, B4.out⟩
      · have E := Lib.hid (show cellF L (r : Int) (c : Int) = (0, 2) by rw [E0.out]; exact cellQ_itoa_ne NE.out (by rw [TL.out]; exact HA.out) (by rw [TL.out]; exact hi))
        obtain ⟨y, hy⟩ : ∃ y, y = bs (Lib.itoa n) := ⟨_, rfl⟩
        have v1 : ¬ y.toList = tb.toList := by rw [hy, TB.out, bs_toList, bs_toList]; exact hi
        have v2 : ¬ y = tb := fun h => v1 (by rw [h])
        rw [← hy]
        clear hy hi
        go_wp2
        go_ret2
        exact ⟨by rw [E.out]; rfl, B4.out⟩

end Go.Proofs.YtdkcgggnkhbkkaaGreatDoor
