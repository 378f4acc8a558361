/- The contract of clock.PrintSpan. Condition: the library's powers of ten lie as they are laid. -/
import Derived.Test.YtiihkdefhhdfnaaGreatDoorClkD
namespace Go.Proofs.YtiihkdefhhdfnaaGreatDoor
open Go.RowKit Go.Shelf
set_option linter.unusedSimpArgs false
set_option linter.unusedVariables false

theorem spans_yes (n : Int) (w : World) (h1 : -1000000 ≤ n) (h2 : n ≤ 1000000) :
    Calls Tryz.prog 36 #[.int .i64 n] w fun e w' => e = .returned (.bool true) ∧ w = w' := by
  have t1 : decide (-1000000 ≤ n) = true := decide_eq_true h1
  have t2 : decide (n ≤ 1000000) = true := decide_eq_true h2
  go_enter Tryz.func36, Tryz.ntmps36
  go_wp2
  go_ret
  exact ⟨rfl, rfl⟩

theorem spans_no (n : Int) (w : World) (h : n < -1000000 ∨ 1000000 < n) :
    Calls Tryz.prog 36 #[.int .i64 n] w fun e w' => e = .returned (.bool false) ∧ w = w' := by
  by_cases h1 : -1000000 ≤ n
  · have t1 : decide (-1000000 ≤ n) = true := decide_eq_true h1
    have t2 : decide (n ≤ 1000000) = false := decide_eq_false (by omega)
    clear h
    go_enter Tryz.func36, Tryz.ntmps36
    go_wp2
    go_ret
    exact ⟨rfl, rfl⟩
  · have t1 : decide (-1000000 ≤ n) = false := decide_eq_false h1
    clear h
    go_enter Tryz.func36, Tryz.ntmps36
    go_wp2
    go_ret
    exact ⟨rfl, rfl⟩

/-- a part as it is printed: of no minutes at all the last one is. -/
def pcz (z : Bool) (k n : Nat) : List UInt8 := if n = 0 ∧ ¬ (z = true ∧ k = 2) then [] else Lib.decDigits n ++ [letC k]

/-- the first parts. -/
def pcTo (z : Bool) (a b c : Nat) (j : Nat) : List UInt8 := if j = 0 then [] else if j = 1 then pcz z 0 a else if j = 2 then pcz z 0 a ++ pcz z 1 b else pcz z 0 a ++ pcz z 1 b ++ pcz z 2 c

def prt (a b c : Nat) (j : Nat) : Nat := if j = 0 then a else if j = 1 then b else c

theorem pcTo_succ (z : Bool) (a b c : Nat) {j : Nat} (h : j < 3) : pcTo z a b c (j + 1) = pcTo z a b c j ++ pcz z j (prt a b c j) := by
  have : j = 0 ∨ j = 1 ∨ j = 2 := by omega
  rcases this with rfl | rfl | rfl <;> simp [pcTo, prt]

theorem pcTo_all (N : Nat) : pcTo (decide (N = 0)) (N / 1440) (N % 1440 / 60) (N % 60) 3 = if N = 0 then [48, 109] else pcs (N / 1440) (N % 1440 / 60) (N % 60) := by
  by_cases h : N = 0
  · subst h
    rw [if_pos rfl]
    simp [pcTo, pcz, letC, Lib.decDigits_one]
  · rw [if_neg h]
    have e : ∀ k n, pcz (decide (N = 0)) k n = pc k n := fun k n => by
      rw [pcz, pc, decide_eq_false h]; simp
    simp [pcTo, pcs, e]

theorem span_text (N : Nat) (n : Int) (sg : List UInt8) (h : (n = -(N : Int) ∧ 0 < N ∧ sg = [45]) ∨ (n = (N : Int) ∧ sg = [])) : sg ++ pcTo (decide (N = 0)) (N / 1440) (N % 1440 / 60) (N % 60) 3 = spanT n := by
  rw [pcTo_all]
  rcases h with ⟨rfl, h0, rfl⟩ | ⟨rfl, rfl⟩
  · rw [if_neg (by omega), spanT, if_neg (by omega), if_pos (by omega), show (-(N : Int)).natAbs = N by omega]
  · by_cases h0 : N = 0
    · subst h0; rfl
    · rw [if_neg h0, spanT, if_neg (by omega), if_neg (by omega), show ((N : Int)).natAbs = N by omega]

theorem letter_at {j : Nat} (h : j < 3) : ({ data := #[100, 104, 109] } : ByteArray).extract j (j + 1) = bs [letC j] := by
  have : j = 0 ∨ j = 1 ∨ j = 2 := by omega
  rcases this with rfl | rfl | rfl <;> decide

theorem pcz_len {z : Bool} {k n : Nat} (h : n < 1000) : (pcz z k n).length ≤ 21 := by
  unfold pcz; split
  · simp
  · have := dec20 (u := n) (by omega)
    simp only [List.length_append, List.length_cons, List.length_nil]; omega

theorem ps_no (n : Int) (w : World) (h : n < -1000000 ∨ 1000000 < n) :
    Calls Tryz.prog 15 #[.int .i64 n] w fun e w' => e = .returned (.tuple #[.string { data := #[] }, errV 1]) ∧ w = w' := by
  have S := Lib.hid (spans_no n w h)
  clear h
  go_enter Tryz.func15, Tryz.ntmps15
  go_wp2_with fail
  refine S.out.mono ?_; rintro e w1 ⟨rfl, rfl⟩
  go_wp2
  go_ret2
  exact ⟨rfl, rfl⟩

set_option maxRecDepth 100000 in
set_option maxHeartbeats 4000000 in
theorem ps_any (n : Int) (w : World) (hP : PowT w) (h1 : -1000000 ≤ n) (h2 : n ≤ 1000000) :
    Calls Tryz.prog 15 #[.int .i64 n] w fun e w' => e = .returned (.tuple #[.string (bs (spanT n)), .nilIface]) ∧ Below w.heap.size w w' := by
  obtain ⟨N, sg, hN⟩ : ∃ (N : Nat) (sg : List UInt8), (n = -(N : Int) ∧ 0 < N ∧ sg = [45]) ∨ (n = (N : Int) ∧ sg = []) := by
    rcases Int.lt_or_le n 0 with h | h
    · exact ⟨n.natAbs, [45], .inl ⟨by omega, by omega, rfl⟩⟩
    · exact ⟨n.natAbs, [], .inr ⟨by omega, rfl⟩⟩
  have hn6 : N ≤ 1000000 := by rcases hN with ⟨h, -⟩ | ⟨h, -⟩ <;> omega
  obtain ⟨T, hT⟩ : ∃ T, T = bs (spanT n) := ⟨_, rfl⟩
  rw [← hT]
  obtain ⟨z, hz⟩ : ∃ z, z = decide (N = 0) := ⟨_, rfl⟩
  obtain ⟨a, ha⟩ : ∃ a, a = N / 1440 := ⟨_, rfl⟩
  obtain ⟨b, hb⟩ : ∃ b, b = N % 1440 / 60 := ⟨_, rfl⟩
  obtain ⟨c, hc⟩ : ∃ c, c = N % 60 := ⟨_, rfl⟩
  have TE := Lib.hid (show T = bs (sg ++ pcTo z a b c 3) by rw [hT, ← span_text N n sg hN, hz, ha, hb, hc])
  have ea : (N : Int) / 1440 = (a : Int) := by omega
  have eb : (N : Int) % 1440 / 60 = (b : Int) := by omega
  have ec : (N : Int) % 60 = (c : Int) := by omega
  have la : a < 1000 := by omega
  have lb : b < 1000 := by omega
  have lc : c < 1000 := by omega
  have lsg : sg.length ≤ 1 := by rcases hN with ⟨-, -, rfl⟩ | ⟨-, rfl⟩ <;> simp
  have ZE := Lib.hid (show ((N : Int) == 0) = z by rw [hz, Bool.eq_iff_iff]; simp)
  have S := Lib.hid (spans_yes n w h1 h2)
  have PT := Lib.hid hP
  have EA := Lib.hid ea; have EB := Lib.hid eb; have EC := Lib.hid ec; have LS := Lib.hid lsg
  have q0 : (0 : Int) ≤ (N : Int) := Int.natCast_nonneg _
  have q1 : (N : Int) ≤ 1000000 := by omega
  clear hT hz ha hb hc hP ea eb ec h1 h2 hn6 lsg
  rcases hN with ⟨rfl, h0, rfl⟩ | ⟨rfl, rfl⟩
  · have t1 : decide (-(N : Int) < 0) = true := decide_eq_true (by omega)
    go_enter Tryz.func15, Tryz.ntmps15
    go_wp2_with fail
    refine S.out.mono ?_; rintro e w1 ⟨rfl, rfl⟩
    go_wp2
    all_goals
      obtain ⟨w1, hw1⟩ : ∃ w1, w1 = w.alloc (.cells #[.int .i64 ((N : Int) / 1440), .int .i64 ((N : Int) % 1440 / 60), .int .i64 ((N : Int) % 60)] 3) := ⟨_, rfl⟩
      rw [← hw1]
      have C0 := Lib.hid (show ∀ j, j < 3 → w1.cell? ⟨w.heap.size, j, none⟩ = some (.int .i64 (prt a b c j)) from fun j hj => by
        have : j = 0 ∨ j = 1 ∨ j = 2 := by omega
        rw [hw1]
        rcases this with rfl | rfl | rfl
        · simp [prt, EA.out]
        · simp [prt, EB.out]
        · simp [prt, EC.out])
      have B1 := Lib.hid (show Below w.heap.size w w1 by rw [hw1]; exact (Below.refl _ _).alloc (Nat.le_refl _) _)
      rw [EA.out, EB.out, EC.out]
      clear hw1
      go_loopg [26, 4] 3 (fun g iv sv wr => ∃ (j : Nat) (X : ByteArray), j ≤ 3 ∧ iv = .int .i64 j ∧ sv = .string X ∧ g = 3 - j ∧ Hid (X = bs (([45] : List UInt8) ++ pcTo z a b c j)) ∧ X.size ≤ 1 + 21 * j ∧ Below w1.heap.size w1 wr)
      case atStart => exact ⟨0, _, by omega, rfl, rfl, rfl, Lib.hid (by simp [pcTo, bs]), by simp [ByteArray.size], Below.refl _ _⟩
      case round =>
        obtain ⟨j, X, hj, rfl, rfl, hg, HX, xz, hbw⟩ := hrel
        have G := Lib.hid hg; have BW := Lib.hid hbw
        have j0 : (0 : Int) ≤ (j : Int) := Int.natCast_nonneg _
        by_cases hlt : j < 3
        · have cj := cell_below hbw (C0.out j hlt)
          obtain ⟨p, hp⟩ : ∃ p, p = prt a b c j := ⟨_, rfl⟩
          rw [← hp] at cj
          have lp : p < 1000 := by rw [hp]; unfold prt; split <;> (try split) <;> omega
          have NX := Lib.hid (show pcTo z a b c (j + 1) = pcTo z a b c j ++ pcz z j p by rw [hp]; exact pcTo_succ z a b c hlt)
          have PL := Lib.hid (pcz_len (z := z) (k := j) lp)
          have LT := Lib.hid (letter_at hlt)
          have i2 : (j : Int) < 3 := by omega
          have PX := Lib.hid (show X ++ bs (pcz z j p) = bs (([45] : List UInt8) ++ pcTo z a b c (j + 1)) by rw [HX.out, bs_append, NX.out, List.append_assoc])
          clear hp hg hbw
          obtain ⟨q, hq⟩ : ∃ q, q = decide (0 < p ∨ (j = 2 ∧ z = true)) := ⟨_, rfl⟩
          have HQ := Lib.hid hq
          clear hq
          go_upto_region 10 with fail
          go_cut [40] (fun s40 wx => s40 = .bool q ∧ wr = wx)
          case first =>
            by_cases h0 : 0 < p
            · have t0 : decide ((0 : Int) < (p : Int)) = true := decide_eq_true (by omega)
              have t0b : decide (0 < p) = true := decide_eq_true h0
              have E := Lib.hid (show q = true by rw [HQ.out]; simp [h0])
              clear h0
              go_wp2
              go_meet
              exact ⟨by rw [E.out], rfl⟩
            · obtain rfl : p = 0 := by omega
              clear h0
              by_cases hj2 : j = 2
              · obtain rfl := hj2
                have ze := ZE.out
                cases hz : z
                · have E := Lib.hid (show q = false by rw [HQ.out]; simp [hz])
                  rw [hz] at ze
                  go_wp2
                  go_meet
                  exact ⟨by rw [E.out], rfl⟩
                · have E := Lib.hid (show q = true by rw [HQ.out]; simp [hz])
                  rw [hz] at ze
                  go_wp2
                  go_meet
                  exact ⟨by rw [E.out], rfl⟩
              · have t2 : ((j : Int) == 2) = false := by rw [beq_eq_false_iff_ne]; omega
                have E := Lib.hid (show q = false by rw [HQ.out]; simp [hj2])
                clear hj2
                go_wp2
                go_meet
                exact ⟨by rw [E.out], rfl⟩
          case rest =>
          obtain ⟨rfl, rfl⟩ := hcut
          cases q
          case true =>
            obtain ⟨Y, hY⟩ : ∃ Y, Y = bs (Lib.itoa (p : Int)) := ⟨_, rfl⟩
            have yz : Y.size ≤ 20 := by rw [hY, bs_size, Lib.itoa_nonneg]; exact dec20 (by omega)
            have PY := Lib.hid (show bs (pcz z j p) = Y ++ ({ data := #[100, 104, 109] } : ByteArray).extract j (j + 1) by
              rw [LT.out, hY, bs_append, Lib.itoa_nonneg, pcz, if_neg]
              have h := of_decide_eq_true HQ.out.symm
              rintro ⟨g1, g2⟩
              rcases h with h | ⟨h, h'⟩
              · omega
              · exact g2 ⟨h', h⟩)
            have cI := itoa_grow (p : Int) wr (PT.out.below (B1.out.trans (BW.out.mono B1.out.size))) (by omega) (by omega) Y hY
            have s1 : IntKind.i64.wrap ((j : Int) + 1) = (j : Int) + 1 := IntWalk.i64_in _ (by omega)
            have s2 : (0 : Int) ≤ (j : Int) + 1 := by omega
            have s3 : ((j : Int) + 1).toNat = j + 1 := by omega
            have s4 : (j : Int) + 1 ≤ 3 := by omega
            have s5 : j + 1 ≤ 3 := by omega
            have s6 : (j : Int) ≤ (j : Int) + 1 := by omega
            obtain ⟨L, hL⟩ : ∃ L, L = ({ data := #[100, 104, 109] } : ByteArray).extract j (j + 1) := ⟨_, rfl⟩
            have lz : L.size = 1 := by rw [hL, LT.out, bs_size]; rfl
            have HL := Lib.hid hL
            have hL2 := hL.symm
            have n1 : ¬ 9223372036854775807 < Y.size + 1 := by omega
            have n2 : ¬ 9223372036854775807 < X.size + (Y.size + 1) := by omega
            clear hY hL
            go_upto_region 11 with fail
            refine wp_region_quiet_below (by kernel_rfl) (by kernel_rfl) ?_
            repeat (quiet_step (with_reducible exact cI _ _))
            refine wpQuiet_nil ?_
            intro _ hw'
            obtain ⟨⟨dq, osq⟩, hw''⟩ := hw'
            have hb4 := below_regrown wr dq osq
            simp only [] at hw''
            rw [← hw''] at hb4
            have B4 := Lib.hid (BW.out.trans (hb4.mono BW.out.size))
            clear hw'' hb4 hL2 cI
            go_wp2
            go_roundg (3 - (j + 1))
            case measure => rw [G.out]; omega
            case rel => exact ⟨j + 1, _, by omega, by go_num, rfl, rfl, Lib.hid (by rw [← PX.out, PY.out, HL.out]), by rw [ByteArray.size_append, ByteArray.size_append, lz]; omega, B4.out⟩
          case false =>
            have E := Lib.hid (show pcz z j p = [] by
              have h := of_decide_eq_false HQ.out.symm
              rw [pcz, if_pos]
              refine ⟨by omega, fun ⟨g1, g2⟩ => h (.inr ⟨g2, g1⟩)⟩)
            clear cj
            go_wp2
            go_roundg (3 - (j + 1))
            case measure => rw [G.out]; omega
            case rel => exact ⟨j + 1, _, by omega, by go_num, rfl, rfl, Lib.hid (by rw [← PX.out, E.out, show bs [] = ByteArray.empty from rfl, ByteArray.append_empty]), by omega, BW.out⟩
        · obtain rfl : j = 3 := by omega
          have E := Lib.hid (show T = X by rw [TE.out, HX.out])
          clear hg hbw
          go_wp2
          go_ret2
          exact ⟨by rw [E.out]; rfl, B1.out.trans (BW.out.mono B1.out.size)⟩
  · have t1 : decide ((N : Int) < 0) = false := decide_eq_false (by omega)
    go_enter Tryz.func15, Tryz.ntmps15
    go_wp2_with fail
    refine S.out.mono ?_; rintro e w1 ⟨rfl, rfl⟩
    go_wp2
    all_goals
      obtain ⟨w1, hw1⟩ : ∃ w1, w1 = w.alloc (.cells #[.int .i64 ((N : Int) / 1440), .int .i64 ((N : Int) % 1440 / 60), .int .i64 ((N : Int) % 60)] 3) := ⟨_, rfl⟩
      rw [← hw1]
      have C0 := Lib.hid (show ∀ j, j < 3 → w1.cell? ⟨w.heap.size, j, none⟩ = some (.int .i64 (prt a b c j)) from fun j hj => by
        have : j = 0 ∨ j = 1 ∨ j = 2 := by omega
        rw [hw1]
        rcases this with rfl | rfl | rfl
        · simp [prt, EA.out]
        · simp [prt, EB.out]
        · simp [prt, EC.out])
      have B1 := Lib.hid (show Below w.heap.size w w1 by rw [hw1]; exact (Below.refl _ _).alloc (Nat.le_refl _) _)
      rw [EA.out, EB.out, EC.out]
      clear hw1
      go_loopg [26, 4] 3 (fun g iv sv wr => ∃ (j : Nat) (X : ByteArray), j ≤ 3 ∧ iv = .int .i64 j ∧ sv = .string X ∧ g = 3 - j ∧ Hid (X = bs (([] : List UInt8) ++ pcTo z a b c j)) ∧ X.size ≤ 1 + 21 * j ∧ Below w1.heap.size w1 wr)
      case atStart => exact ⟨0, _, by omega, rfl, rfl, rfl, Lib.hid (by simp [pcTo, bs]), by simp [ByteArray.size], Below.refl _ _⟩
      case round =>
        obtain ⟨j, X, hj, rfl, rfl, hg, HX, xz, hbw⟩ := hrel
        have G := Lib.hid hg; have BW := Lib.hid hbw
        have j0 : (0 : Int) ≤ (j : Int) := Int.natCast_nonneg _
        by_cases hlt : j < 3
        · have cj := cell_below hbw (C0.out j hlt)
          obtain ⟨p, hp⟩ : ∃ p, p = prt a b c j := ⟨_, rfl⟩
          rw [← hp] at cj
          have lp : p < 1000 := by rw [hp]; unfold prt; split <;> (try split) <;> omega
          have NX := Lib.hid (show pcTo z a b c (j + 1) = pcTo z a b c j ++ pcz z j p by rw [hp]; exact pcTo_succ z a b c hlt)
          have PL := Lib.hid (pcz_len (z := z) (k := j) lp)
          have LT := Lib.hid (letter_at hlt)
          have i2 : (j : Int) < 3 := by omega
          have PX := Lib.hid (show X ++ bs (pcz z j p) = bs (([] : List UInt8) ++ pcTo z a b c (j + 1)) by rw [HX.out, bs_append, NX.out, List.append_assoc])
          clear hp hg hbw
          obtain ⟨q, hq⟩ : ∃ q, q = decide (0 < p ∨ (j = 2 ∧ z = true)) := ⟨_, rfl⟩
          have HQ := Lib.hid hq
          clear hq
          go_upto_region 10 with fail
          go_cut [40] (fun s40 wx => s40 = .bool q ∧ wr = wx)
          case first =>
            by_cases h0 : 0 < p
            · have t0 : decide ((0 : Int) < (p : Int)) = true := decide_eq_true (by omega)
              have t0b : decide (0 < p) = true := decide_eq_true h0
              have E := Lib.hid (show q = true by rw [HQ.out]; simp [h0])
              clear h0
              go_wp2
              go_meet
              exact ⟨by rw [E.out], rfl⟩
            · obtain rfl : p = 0 := by omega
              clear h0
              by_cases hj2 : j = 2
              · obtain rfl := hj2
                have ze := ZE.out
                cases hz : z
                · have E := Lib.hid (show q = false by rw [HQ.out]; simp [hz])
                  rw [hz] at ze
                  go_wp2
                  go_meet
                  exact ⟨by rw [E.out], rfl⟩
                · have E := Lib.hid (show q = true by rw [HQ.out]; simp [hz])
                  rw [hz] at ze
                  go_wp2
                  go_meet
                  exact ⟨by rw [E.out], rfl⟩
              · have t2 : ((j : Int) == 2) = false := by rw [beq_eq_false_iff_ne]; omega
                have E := Lib.hid (show q = false by rw [HQ.out]; simp [hj2])
                clear hj2
                go_wp2
                go_meet
                exact ⟨by rw [E.out], rfl⟩
          case rest =>
          obtain ⟨rfl, rfl⟩ := hcut
          cases q
          case true =>
            obtain ⟨Y, hY⟩ : ∃ Y, Y = bs (Lib.itoa (p : Int)) := ⟨_, rfl⟩
            have yz : Y.size ≤ 20 := by rw [hY, bs_size, Lib.itoa_nonneg]; exact dec20 (by omega)
            have PY := Lib.hid (show bs (pcz z j p) = Y ++ ({ data := #[100, 104, 109] } : ByteArray).extract j (j + 1) by
              rw [LT.out, hY, bs_append, Lib.itoa_nonneg, pcz, if_neg]
              have h := of_decide_eq_true HQ.out.symm
              rintro ⟨g1, g2⟩
              rcases h with h | ⟨h, h'⟩
              · omega
              · exact g2 ⟨h', h⟩)
            have cI := itoa_grow (p : Int) wr (PT.out.below (B1.out.trans (BW.out.mono B1.out.size))) (by omega) (by omega) Y hY
            have s1 : IntKind.i64.wrap ((j : Int) + 1) = (j : Int) + 1 := IntWalk.i64_in _ (by omega)
            have s2 : (0 : Int) ≤ (j : Int) + 1 := by omega
            have s3 : ((j : Int) + 1).toNat = j + 1 := by omega
            have s4 : (j : Int) + 1 ≤ 3 := by omega
            have s5 : j + 1 ≤ 3 := by omega
            have s6 : (j : Int) ≤ (j : Int) + 1 := by omega
            obtain ⟨L, hL⟩ : ∃ L, L = ({ data := #[100, 104, 109] } : ByteArray).extract j (j + 1) := ⟨_, rfl⟩
            have lz : L.size = 1 := by rw [hL, LT.out, bs_size]; rfl
            have HL := Lib.hid hL
            have hL2 := hL.symm
            have n1 : ¬ 9223372036854775807 < Y.size + 1 := by omega
            have n2 : ¬ 9223372036854775807 < X.size + (Y.size + 1) := by omega
            clear hY hL
            go_upto_region 11 with fail
            refine wp_region_quiet_below (by kernel_rfl) (by kernel_rfl) ?_
            repeat (quiet_step (with_reducible exact cI _ _))
            refine wpQuiet_nil ?_
            intro _ hw'
            obtain ⟨⟨dq, osq⟩, hw''⟩ := hw'
            have hb4 := below_regrown wr dq osq
            simp only [] at hw''
            rw [← hw''] at hb4
            have B4 := Lib.hid (BW.out.trans (hb4.mono BW.out.size))
            clear hw'' hb4 hL2 cI
            go_wp2
            go_roundg (3 - (j + 1))
            case measure => rw [G.out]; omega
            case rel => exact ⟨j + 1, _, by omega, by go_num, rfl, rfl, Lib.hid (by rw [← PX.out, PY.out, HL.out]), by rw [ByteArray.size_append, ByteArray.size_append, lz]; omega, B4.out⟩
          case false =>
            have E := Lib.hid (show pcz z j p = [] by
              have h := of_decide_eq_false HQ.out.symm
              rw [pcz, if_pos]
              refine ⟨by omega, fun ⟨g1, g2⟩ => h (.inr ⟨g2, g1⟩)⟩)
            clear cj
            go_wp2
            go_roundg (3 - (j + 1))
            case measure => rw [G.out]; omega
            case rel => exact ⟨j + 1, _, by omega, by go_num, rfl, rfl, Lib.hid (by rw [← PX.out, E.out, show bs [] = ByteArray.empty from rfl, ByteArray.append_empty]), by omega, BW.out⟩
        · obtain rfl : j = 3 := by omega
          have E := Lib.hid (show T = X by rw [TE.out, HX.out])
          clear hg hbw
          go_wp2
          go_ret2
          exact ⟨by rw [E.out]; rfl, B1.out.trans (BW.out.mono B1.out.size)⟩

end Go.Proofs.YtiihkdefhhdfnaaGreatDoor
