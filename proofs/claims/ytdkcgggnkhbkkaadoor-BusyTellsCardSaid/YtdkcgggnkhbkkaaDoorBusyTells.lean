/- The law BusyTells: the walk. Condition: errors.errorType's handle. -/
import Derived.Test.YtdkcgggnkhbkkaaDoorBusyT
namespace Go.Proofs.YtdkcgggnkhbkkaaDoor
open Go.RowKit
set_option linter.unusedSimpArgs false
set_option linter.unusedVariables false

theorem joinE_ok {A B : List (Int × Int)} (h : joinE A B = 0) : busyE (A ++ B) = 0 := by
  unfold joinE at h; split at h
  · split at h
    · exact h
    · contradiction
  · contradiction

set_option maxRecDepth 100000 in
set_option maxHeartbeats 8000000 in
theorem busyTells_any (va : Value) (A : List (Int × Int)) (vb : Value) (B : List (Int × Int)) (a b n : Int) (w : World) (hE : ErrT w) (hA : PairsR w va A) (hB : PairsR w vb B)
    (_ : (Lit.int IntKind.i64 a).wf = true) (_ : (Lit.int IntKind.i64 b).wf = true) (_ : (Lit.int IntKind.i64 n).wf = true) :
    Calls Tryd.prog 4 #[va, vb, .int .i64 a, .int .i64 b, .int .i64 n] w fun e w' => e = .returned (.bool true) ∧ Below w.heap.size w w' := by
  have HA := Lib.hid hA
  have HB := Lib.hid hB
  have ER := Lib.hid hE
  obtain ⟨aa, ac, rfl, _, ka, _⟩ := pairsR_open hA
  obtain ⟨ba, bc, rfl, _, kb, _⟩ := pairsR_open hB
  unfold maxLen at ka kb
  clear hA hB hE
  obtain ⟨e, he⟩ : ∃ e, e = busyE A := ⟨_, rfl⟩
  have EE := Lib.hid he
  clear he
  go_enter Tryd.func4, Tryd.ntmps4
  go_wp2_with fail
  refine (rbusy_any _ A _ HA.out).mono ?_; rintro e1 w1 ⟨rfl, hb1⟩
  rw [← EE.out]
  have BW := Lib.hid hb1
  clear hb1
  go_upto_if 35 with fail
  go_cut [12] (fun s12 wx => PairsR wx s12 (normW A) ∧ Below w1.heap.size w1 wx)
  case first => as_aux_lemma =>
    by_cases h0 : e = 0
    · have h1 : busyE A = 0 := by rw [← EE.out]; exact h0
      have H1 := Lib.hid h1
      have NW := Lib.hid (show normW A = normL A by rw [normW, if_pos h1])
      have t0 : (e == 0) = true := by simpa using h0
      clear h0 h1
      go_wp2_with fail
      refine (rnorm_any _ A _ (HA.out.below BW.out) (by have := (busyE_ok H1.out).1; omega) (fun b hb => ((busyE_ok H1.out).2 b hb).2.2)).mono ?_; rintro e2 w2 ⟨u, rfl, hu, hb2⟩
      have U := Lib.hid hu; have B2 := Lib.hid hb2
      clear hu hb2
      go_wp2
      go_meet
      exact ⟨by rw [NW.out]; exact U.out, B2.out⟩
    · have NW := Lib.hid (show normW A = [] by rw [normW, if_neg (by rw [← EE.out]; exact h0)])
      have t0 : (e == 0) = false := by simpa using h0
      clear h0
      go_wp2
      go_meet
      exact ⟨by rw [NW.out]; exact reads_nil _ _, Below.refl _ _⟩
  case rest =>
  obtain ⟨hw, hb⟩ := hcut
  have BW := Lib.hid (BW.out.trans (hb.mono BW.out.size))
  have W := Lib.hid hw
  obtain ⟨w2, rfl⟩ : ∃ w2, w2 = wc := ⟨_, rfl⟩
  clear hw hb
  obtain ⟨S, hS⟩ : ∃ S, S = normW A := ⟨_, rfl⟩
  have SE := Lib.hid hS
  rw [← hS] at W
  have hsz : S.length ≤ 200 := by
    rw [hS, normW]; split
    · next h => have := norm_len A; have := (busyE_ok h).1; omega
    · simp
  have GS := Lib.hid (show Good S by
    rw [hS, normW]; split
    · next h => exact norm_good h
    · intro c hc; simp at hc)
  clear hS
  obtain ⟨ua, uc, rfl, _, uk, hcell⟩ := pairsR_open W.out
  unfold maxLen at uk
  have CS := Lib.hid hcell
  clear hcell
  go_wp2
  go_loopg [13, 14] S.length (fun g nv i wr => ∃ k : Nat, k ≤ S.length ∧ i = .int .i64 k ∧ nv = .int .i64 (totL (S.take k)) ∧ g = S.length - k ∧ Below w2.heap.size w2 wr)
  case atStart => exact ⟨0, Nat.zero_le _, rfl, rfl, rfl, Below.refl _ _⟩
  case round =>
    obtain ⟨k, hk, rfl, rfl, hg, hb⟩ := hrel
    have G := Lib.hid hg; clear hg
    by_cases hlt : k < S.length
    · obtain ⟨fb, off, rfl, hcs⟩ := CS.out (by omega)
      have c0 := cell_below hb (hcs k hlt).1
      have c1 := cell_below hb (hcs k hlt).2
      have BB := Lib.hid hb
      have Z := Lib.hid (tot_snoc S k hlt)
      have g1 := GS.out S[k] (by simp)
      have g2 := good_tot (l := S.take k) (fun b hb => GS.out b (List.mem_of_mem_take hb)) (by rw [List.length_take]; omega)
      obtain ⟨T', hT⟩ : ∃ T', T' = totL (S.take k) := ⟨_, rfl⟩
      rw [← hT] at g2 ⊢
      have TE := Lib.hid hT
      obtain ⟨x, hx⟩ : ∃ x, x = S[k].1 := ⟨_, rfl⟩
      obtain ⟨y, hy⟩ : ∃ y, y = S[k].2 := ⟨_, rfl⟩
      rw [← hx, ← hy] at g1
      rw [← hx] at c0; rw [← hy] at c1
      have X := Lib.hid hx; have Y := Lib.hid hy; clear hx hy hT hcs hb
      have i1 : (0 : Int) ≤ (k : Int) := Int.natCast_nonneg _
      have i2 : (k : Int) < (S.length : Int) := by omega
      go_wp2
      go_region
      all_goals
        go_wp2
        go_roundg (S.length - (k + 1))
        case measure => rw [G.out]; omega
        case rel => exact ⟨k + 1, by omega, by go_num, by rw [Z.out, ← TE.out, ← X.out, ← Y.out]; congr 1; omega, rfl, BB.out.drew⟩
    · obtain rfl : k = S.length := by omega
      obtain ⟨T, hT⟩ : ∃ T, T = totL S := ⟨_, rfl⟩
      rw [List.take_length, ← hT]
      have TE := Lib.hid (show T = totL (normW A) by rw [hT, SE.out])
      have BW := Lib.hid (BW.out.trans (hb.mono BW.out.size))
      have W := Lib.hid (W.out.below hb)
      clear hT hb
      obtain ⟨w3, rfl⟩ : ∃ w3, w3 = wr := ⟨_, rfl⟩
      go_wp2_with fail
      refine (norm_or _ A _ (HA.out.below BW.out)).mono ?_; rintro e2 w4 ⟨gv, rfl, hgv, hb4⟩
      rw [← EE.out]
      rw [← SE.out] at hgv
      have GV := Lib.hid hgv
      have BW := Lib.hid (BW.out.trans (hb4.mono BW.out.size))
      have W := Lib.hid (W.out.below hb4)
      clear hb4 hgv
      go_wp2_with fail
      refine (error_same e _ (ER.out.below BW.out)).mono ?_; rintro e2 w5 ⟨rfl, hb5⟩
      have BW := Lib.hid (BW.out.trans (hb5.mono BW.out.size))
      have W := Lib.hid (W.out.below hb5)
      have GV := Lib.hid (GV.out.below hb5)
      clear hb5
      go_wp2_with fail
      refine (busies_same _ _ S _ GV.out W.out).mono ?_; rintro e2 w6 ⟨rfl, hb6⟩
      have BW := Lib.hid (BW.out.trans (hb6.mono BW.out.size))
      clear hb6
      go_wp2_with fail
      refine (total_or _ A _ (HA.out.below BW.out)).mono ?_; rintro e2 w7 ⟨rfl, hb7⟩
      rw [← EE.out, ← TE.out]
      have BW := Lib.hid (BW.out.trans (hb7.mono BW.out.size))
      clear hb7
      go_wp2_with fail
      refine (error_same e _ (ER.out.below BW.out)).mono ?_; rintro e2 w8 ⟨rfl, hb8⟩
      have BW := Lib.hid (BW.out.trans (hb8.mono BW.out.size))
      clear hb8
      go_upto_if 78 with fail
      go_cut [21] (fun s21 wx => s21 = .int .i64 (if e = 0 then busyE B else e) ∧ Below w8.heap.size w8 wx)
      case first => as_aux_lemma =>
        by_cases h0 : e = 0
        · have t0 : (e == 0) = true := by simpa using h0
          have F := Lib.hid (show (if e = 0 then busyE B else e) = busyE B by rw [if_pos h0])
          clear h0
          go_wp2_with fail
          refine (rbusy_any _ B _ (HB.out.below BW.out)).mono ?_; rintro e2 w9 ⟨rfl, hb9⟩
          go_wp2
          go_meet
          exact ⟨by rw [F.out], hb9⟩
        · have t0 : (e == 0) = false := by simpa using h0
          have F := Lib.hid (show (if e = 0 then busyE B else e) = e by rw [if_neg h0])
          clear h0
          go_wp2
          go_meet
          exact ⟨by rw [F.out], Below.refl _ _⟩
      case rest =>
      obtain ⟨rfl, hb⟩ := hcut
      have BW := Lib.hid (BW.out.trans (hb.mono BW.out.size))
      clear hb
      have J18 := Lib.hid (show joinE A B = (if (if e = 0 then busyE B else e) = 0 then (if 200 < A.length + B.length then 4 else 0) else (if e = 0 then busyE B else e)) by
        by_cases h0 : e = 0
        · have h1 : busyE A = 0 := by rw [← EE.out]; exact h0
          rw [if_pos h0, joinE, if_pos h1]
          by_cases h2 : busyE B = 0
          · rw [if_pos h2, if_pos h2, busyE, List.length_append]
            by_cases h3 : 200 < A.length + B.length
            · rw [if_pos h3, if_pos h3]
            · rw [if_neg h3, if_neg h3]
              exact bF_mk fun c hc => by
                rcases List.mem_append.1 hc with hc | hc
                · exact (busyE_ok h1).2 c hc
                · exact (busyE_ok h2).2 c hc
          · rw [if_neg h2, if_neg h2]
        · rw [if_neg h0, joinE, if_neg (by rw [← EE.out]; exact h0), if_neg h0, EE.out])
      obtain ⟨f, hf⟩ : ∃ f, f = (if e = 0 then busyE B else e) := ⟨_, rfl⟩
      obtain ⟨J, hJ⟩ : ∃ J, J = joinE A B := ⟨_, rfl⟩
      rw [← hf]
      have J18 := Lib.hid (show J = (if f = 0 then (if 200 < A.length + B.length then 4 else 0) else f) by rw [hJ, hf]; exact J18.out)
      have JE := Lib.hid hJ
      have LA := Lib.hid (show f = 0 → A.length ≤ 200 ∧ B.length ≤ 200 from fun h => by
        rw [hf] at h; split at h
        · next h0 => exact ⟨(busyE_ok (by rw [← EE.out]; exact h0)).1, (busyE_ok h).1⟩
        · contradiction)
      clear hf hJ
      obtain ⟨w9, rfl⟩ : ∃ w9, w9 = wc := ⟨_, rfl⟩
      have la0 : (0 : Int) ≤ (A.length : Int) := Int.natCast_nonneg _
      have lb0 : (0 : Int) ≤ (B.length : Int) := Int.natCast_nonneg _
      go_upto_region 18 with fail
      go_cut [90] (fun s90 wx => ∃ q : Bool, s90 = .bool q ∧ Hid (J = if q = true then 4 else f) ∧ w9 = wx)
      case first => as_aux_lemma =>
        by_cases h0 : f = 0
        · have t0 : (f == 0) = true := by simpa using h0
          obtain ⟨l1, l2⟩ := LA.out h0
          by_cases h3 : 200 < A.length + B.length
          · have Q := Lib.hid (show J = if true = true then 4 else f by rw [J18.out, if_pos h0, if_pos h3]; rfl)
            have h4 : (200 : Int) < (A.length : Int) + (B.length : Int) := by omega
            clear h0 h3
            go_wp2
            go_meet
            exact ⟨true, rfl, Q, rfl⟩
          · have Q := Lib.hid (show J = if false = true then 4 else f by rw [J18.out, if_pos h0, if_neg h3]; simp [h0])
            have h4 : ¬ (200 : Int) < (A.length : Int) + (B.length : Int) := by omega
            clear h0 h3
            go_wp2
            go_meet
            exact ⟨false, rfl, Q, rfl⟩
        · have t0 : (f == 0) = false := by simpa using h0
          have Q := Lib.hid (show J = if false = true then 4 else f by rw [J18.out, if_neg h0]; simp)
          clear h0
          go_wp2
          go_meet
          exact ⟨false, rfl, Q, rfl⟩
      case rest =>
      obtain ⟨q, rfl, QE, rfl⟩ := hcut
      go_upto_if 90 with fail
      go_cut [21] (fun s21 wx => s21 = .int .i64 J ∧ w9 = wx)
      case first => as_aux_lemma =>
        cases q
        · obtain rfl : J = f := by rw [QE.out]; rfl
          go_wp2
          go_meet
          exact ⟨rfl, rfl⟩
        · obtain rfl : J = 4 := by rw [QE.out]; rfl
          go_wp2
          go_meet
          exact ⟨rfl, rfl⟩
      case rest =>
      obtain ⟨rfl, rfl⟩ := hcut
      go_upto_if 92 with fail
      go_cut [12] (fun s12 wx => PairsR wx s12 (joinW A B) ∧ Below w9.heap.size w9 wx)
      case first => as_aux_lemma =>
        by_cases h0 : J = 0
        · have h1 : joinE A B = 0 := by rw [← JE.out]; exact h0
          have JB := Lib.hid (joinE_ok h1)
          have NW := Lib.hid (show joinW A B = normL (A ++ B) by rw [joinW, if_pos h1])
          have t0 : (J == 0) = true := by simpa using h0
          have l1 := (busyE_ok JB.out).1
          rw [List.length_append] at l1
          clear h0 h1
          go_wp2_with (at_builtin; refine wpList_append_pairs rfl _ _ rfl w9.heap.size _ _ [] A rfl rfl (World.ownsRow_nil _ _ _ _) (HA.out.below BW.out) (Nat.le_refl _) (by simp) (by omega) ?_)
          intro v1 wa hown1 hb1
          have O1 := Lib.hid hown1; have B1 := Lib.hid hb1
          have hs1 := hb1.size
          clear hown1 hb1
          go_wp2_with (at_builtin; refine wpList_append_pairs rfl _ _ rfl w9.heap.size _ _ A B rfl rfl O1.out (HB.out.below (BW.out.trans (B1.out.mono BW.out.size))) hs1 (by omega) (by omega) ?_)
          intro v2 wd hown2 hb2
          have P2 := Lib.hid (show PairsR wd v2 (A ++ B) from ownsRow_reads (show wd.ownsRow w9.heap.size 41 2 v2 (A ++ B).length (pairsV (A ++ B)) by first | exact hown2 | (rw [List.length_append]; exact hown2)))
          have B2 := Lib.hid (B1.out.trans hb2)
          clear hown2 hb2
          go_wp2_with fail
          refine (rnorm_any _ (A ++ B) _ P2.out (by rw [List.length_append]; omega) (fun b hb => ((busyE_ok JB.out).2 b hb).2.2)).mono ?_; rintro e2 wf ⟨u, rfl, hu, hb3⟩
          have U := Lib.hid hu; have B3 := Lib.hid (B2.out.trans (hb3.mono B2.out.size))
          clear hu hb3
          go_wp2
          go_meet
          exact ⟨by rw [NW.out]; exact U.out, B3.out⟩
        · have NW := Lib.hid (show joinW A B = [] by rw [joinW, if_neg (by rw [← JE.out]; exact h0)])
          have t0 : (J == 0) = false := by simpa using h0
          clear h0
          go_wp2
          go_meet
          exact ⟨by rw [NW.out]; exact reads_nil _ _, Below.refl _ _⟩
      case rest =>
      obtain ⟨hw, hb⟩ := hcut
      have BW := Lib.hid (BW.out.trans (hb.mono BW.out.size))
      have W := Lib.hid hw
      obtain ⟨w10, rfl⟩ : ∃ w10, w10 = wc := ⟨_, rfl⟩
      clear hw hb
      go_wp2_with fail
      refine (join_or _ _ A B _ (HA.out.below BW.out) (HB.out.below BW.out)).mono ?_; rintro e2 w11 ⟨gv2, rfl, hgv, hb11⟩
      rw [← JE.out]
      have GV := Lib.hid hgv
      have W := Lib.hid (W.out.below hb11)
      have BW := Lib.hid (BW.out.trans (hb11.mono BW.out.size))
      clear hgv hb11
      go_wp2_with fail
      refine (error_same J _ (ER.out.below BW.out)).mono ?_; rintro e2 w12 ⟨rfl, hb12⟩
      have W := Lib.hid (W.out.below hb12)
      have GV := Lib.hid (GV.out.below hb12)
      have BW := Lib.hid (BW.out.trans (hb12.mono BW.out.size))
      clear hb12
      go_wp2_with fail
      refine (busies_same _ _ _ _ GV.out W.out).mono ?_; rintro e2 w13 ⟨rfl, hb13⟩
      have BW := Lib.hid (BW.out.trans (hb13.mono BW.out.size))
      clear hb13
      clear JE LA QE J18
      go_wp2_with fail
      refine (btime_any a _).mono ?_; rintro e2 wz ⟨rfl, rfl⟩
      go_wp2_with fail
      refine (btime_any b _).mono ?_; rintro e2 wz ⟨rfl, rfl⟩
      obtain ⟨F, hF⟩ : ∃ F, F = freeE A a b := ⟨_, rfl⟩
      have FE0 := Lib.hid (show F = if e = 0 then strE a b else e by
        rw [hF, freeE]
        by_cases h : busyE A = 0
        · rw [if_pos h, if_pos (by rw [EE.out]; exact h)]
        · rw [if_neg h, if_neg (by rw [EE.out]; exact h), EE.out])
      have FF := Lib.hid hF
      obtain ⟨tx, htx⟩ : ∃ t, t = timeB a := ⟨_, rfl⟩
      obtain ⟨ty, hty⟩ : ∃ t, t = timeB b := ⟨_, rfl⟩
      have FE := Lib.hid (show F = if e = 0 then (if tx = true ∧ ty = true then (if b < a then 3 else 0) else 1) else e by rw [FE0.out, strE, htx, hty])
      rw [← htx, ← hty]
      clear hF htx hty FE0
      go_upto_region 31 with fail
      go_cut [126] (fun s126 wx => ∃ q : Bool, s126 = .bool q ∧ Hid (F = if q = true then 1 else if e = 0 then (if b < a then 3 else 0) else e) ∧ w13 = wx)
      case first => as_aux_lemma =>
        by_cases h0 : e = 0
        · have t0 : (e == 0) = true := by simpa using h0
          cases tx
          · have Q := Lib.hid (show F = if true = true then 1 else if e = 0 then (if b < a then 3 else 0) else e by rw [FE.out, if_pos h0, if_neg (by simp)]; rfl)
            clear h0 FE
            go_wp2
            go_meet
            exact ⟨true, rfl, Q, rfl⟩
          · cases ty
            · have Q := Lib.hid (show F = if true = true then 1 else if e = 0 then (if b < a then 3 else 0) else e by rw [FE.out, if_pos h0, if_neg (by simp)]; rfl)
              clear h0 FE
              go_wp2
              go_meet
              exact ⟨true, rfl, Q, rfl⟩
            · have Q := Lib.hid (show F = if false = true then 1 else if e = 0 then (if b < a then 3 else 0) else e by rw [FE.out, if_pos h0, if_pos ⟨rfl, rfl⟩]; simp [h0])
              clear h0 FE
              go_wp2
              go_meet
              exact ⟨false, rfl, Q, rfl⟩
        · have t0 : (e == 0) = false := by simpa using h0
          have Q := Lib.hid (show F = if false = true then 1 else if e = 0 then (if b < a then 3 else 0) else e by rw [FE.out, if_neg h0]; simp [h0])
          clear h0 FE
          go_wp2
          go_meet
          exact ⟨false, rfl, Q, rfl⟩
      case rest =>
      obtain ⟨q, rfl, FE, rfl⟩ := hcut
      go_upto_if 126 with fail
      go_cut [11] (fun s11 wx => s11 = .int .i64 F ∧ w13 = wx)
      case first => as_aux_lemma =>
        cases q
        · by_cases h0 : e = 0
          · have t0 : (e == 0) = true := by simpa using h0
            by_cases h2 : b < a
            · obtain rfl : F = 3 := by rw [FE.out, if_neg (by simp), if_pos h0, if_pos h2]
              have t2 : decide (b < a) = true := decide_eq_true h2
              clear h0 h2 FE
              go_wp2
              go_meet
              exact ⟨rfl, rfl⟩
            · obtain rfl : F = 0 := by rw [FE.out, if_neg (by simp), if_pos h0, if_neg h2]
              have t2 : decide (b < a) = false := decide_eq_false h2
              obtain rfl := h0
              clear h2 FE
              go_wp2
              go_meet
              exact ⟨rfl, rfl⟩
          · obtain rfl : F = e := by rw [FE.out, if_neg (by simp), if_neg h0]
            have t0 : (F == 0) = false := by simpa using h0
            clear h0 FE
            go_wp2
            go_meet
            exact ⟨rfl, rfl⟩
        · obtain rfl : F = 1 := by rw [FE.out, if_pos rfl]
          go_wp2
          go_meet
          exact ⟨rfl, rfl⟩
      case rest =>
      obtain ⟨rfl, rfl⟩ := hcut
      clear FE
      go_upto_if 135 with fail
      go_cut [12] (fun s12 wx => PairsR wx s12 (freeW A a b) ∧ Below w13.heap.size w13 wx)
      case first => as_aux_lemma =>
        by_cases h0 : F = 0
        · have h1 : freeE A a b = 0 := by rw [← FF.out]; exact h0
          have FT := Lib.hid (freeE_two h1)
          have NW := Lib.hid (show freeW A a b = freeL b (normL A) a by rw [freeW, if_pos h1])
          have t0 : (F == 0) = true := by simpa using h0
          clear h0 h1
          go_wp2_with fail
          refine (rfree_any _ A a b _ (HA.out.below BW.out) (by have := (busyE_ok FT.out.1).1; omega) (fun b hb => ((busyE_ok FT.out.1).2 b hb).2.2)).mono ?_; rintro e2 wf ⟨u, rfl, hu, hb3⟩
          have U := Lib.hid hu; have B3 := Lib.hid hb3
          clear hu hb3
          go_wp2
          go_meet
          exact ⟨by rw [NW.out]; exact U.out, B3.out⟩
        · have NW := Lib.hid (show freeW A a b = [] by rw [freeW, if_neg (by rw [← FF.out]; exact h0)])
          have t0 : (F == 0) = false := by simpa using h0
          clear h0
          go_wp2
          go_meet
          exact ⟨by rw [NW.out]; exact reads_nil _ _, Below.refl _ _⟩
      case rest =>
      obtain ⟨hw, hb⟩ := hcut
      have BW := Lib.hid (BW.out.trans (hb.mono BW.out.size))
      have W := Lib.hid hw
      obtain ⟨w14, rfl⟩ : ∃ w14, w14 = wc := ⟨_, rfl⟩
      clear hw hb
      go_wp2_with fail
      refine (free_or _ A a b _ (HA.out.below BW.out)).mono ?_; rintro e2 w15 ⟨gv3, rfl, hgv, hb15⟩
      rw [← FF.out]
      have GV := Lib.hid hgv
      have W := Lib.hid (W.out.below hb15)
      have BW := Lib.hid (BW.out.trans (hb15.mono BW.out.size))
      clear hgv hb15
      go_wp2_with fail
      refine (error_same F _ (ER.out.below BW.out)).mono ?_; rintro e2 w16 ⟨rfl, hb16⟩
      have W := Lib.hid (W.out.below hb16)
      have GV := Lib.hid (GV.out.below hb16)
      have BW := Lib.hid (BW.out.trans (hb16.mono BW.out.size))
      clear hb16
      go_wp2_with fail
      refine (busies_same _ _ _ _ GV.out W.out).mono ?_; rintro e2 w17 ⟨rfl, hb17⟩
      have W := Lib.hid (W.out.below hb17)
      have BW := Lib.hid (BW.out.trans (hb17.mono BW.out.size))
      clear hb17 GV
      obtain ⟨SV, hSV⟩ : ∃ x, x = slotV A a b n := ⟨_, rfl⟩
      obtain ⟨SL, hSL⟩ : ∃ x, x = slotE A a b n := ⟨_, rfl⟩
      have SVE := Lib.hid hSV; have SLE := Lib.hid hSL
      clear hSV hSL
      go_upto_if 154 with fail
      go_cut [29, 11] (fun s29 s11 wx => s29 = .int .i64 SV ∧ s11 = .int .i64 SL ∧ Below w17.heap.size w17 wx)
      case first => as_aux_lemma =>
        by_cases h0 : F = 0
        · have h1 : freeE A a b = 0 := by rw [← FF.out]; exact h0
          have FT := Lib.hid (freeE_two h1)
          have NW := Lib.hid (show freeW A a b = freeL b (normL A) a by rw [freeW, if_pos h1])
          have V1 := Lib.hid (show SV = firstV n (freeL b (normL A) a) by rw [SVE.out, slotV, if_pos h1])
          have V2 := Lib.hid (show SL = firstE n (freeL b (normL A) a) by rw [SLE.out, slotE, if_pos h1])
          have t0 : (F == 0) = true := by simpa using h0
          clear h0 h1
          go_wp2_with fail
          refine (rslot_any _ (freeW A a b) n _ W.out (by rw [NW.out]; exact free_good FT.out.1 FT.out.2)).mono ?_; rintro e2 wf ⟨rfl, hb3⟩
          rw [NW.out, ← V1.out, ← V2.out]
          have B3 := Lib.hid hb3
          clear hb3
          go_wp2
          go_meet
          exact ⟨rfl, rfl, B3.out⟩
        · have V1 := Lib.hid (show SV = 0 by rw [SVE.out, slotV, if_neg (by rw [← FF.out]; exact h0)])
          have V2 := Lib.hid (show SL = F by rw [SLE.out, slotE, if_neg (by rw [← FF.out]; exact h0), FF.out])
          have t0 : (F == 0) = false := by simpa using h0
          clear h0
          go_wp2
          go_meet
          exact ⟨by rw [V1.out], by rw [V2.out], Below.refl _ _⟩
      case rest =>
      obtain ⟨rfl, rfl, hb⟩ := hcut
      have BW := Lib.hid (BW.out.trans (hb.mono BW.out.size))
      obtain ⟨w18, rfl⟩ : ∃ w18, w18 = wc := ⟨_, rfl⟩
      clear hb W
      go_wp2_with fail
      refine (slot_or _ A a b n _ (HA.out.below BW.out)).mono ?_; rintro e2 w19 ⟨rfl, hb19⟩
      rw [← SVE.out, ← SLE.out]
      have BW := Lib.hid (BW.out.trans (hb19.mono BW.out.size))
      clear hb19
      go_wp2_with fail
      refine (error_same SL _ (ER.out.below BW.out)).mono ?_; rintro e2 w20 ⟨rfl, hb20⟩
      have BW := Lib.hid (BW.out.trans (hb20.mono BW.out.size))
      clear hb20
      go_wp2
      go_ret
      exact ⟨rfl, BW.out⟩

end Go.Proofs.YtdkcgggnkhbkkaaDoor
