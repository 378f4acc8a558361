/- The law MonthTells: the leaf of any month, with any marks, and what stands in any lines: the walk. Conditions: the table of months, the powers of ten, the library's ErrSyntax and the type error's handle lie as they are laid. -/
import Derived.Test.YtdkcgggnkhbkkaaGreatDoorMonthRows
import Derived.Test.YtdkcgggnkhbkkaaGreatDoorMonB
import Derived.Test.YtdkcgggnkhbkkaaGreatDoorErr
import Derived.Test.YtdkcgggnkhbkkaaGreatDoorRefN
import Derived.Test.YtdkcgggnkhbkkaaGreatDoorNumR
import Derived.Test.YtdkcgggnkhbkkaaGreatDoorRises
namespace Go.Proofs.YtdkcgggnkhbkkaaGreatDoor
open Go.RowKit Go.Shelf
set_option linter.unusedSimpArgs false
set_option linter.unusedVariables false

/-- how many days a month has; 0: there is none such. -/
def sizeM (y m : Int) : Int := if Cal.monthB y m = true then Cal.dim y m else 0
/-- its first day; 0: there is none. -/
def firstM (y m : Int) : Int := if Cal.monthB y m = true then Cal.num y m 1 else 0

theorem rsize_any (y m : Int) (w : World) :
    Calls Tryz.prog 32 #[.int .i64 y, .int .i64 m] w fun e w' => e = .returned (.int .i64 (sizeM y m)) ∧ w = w' := by
  by_cases h : Cal.monthB y m = true
  · rw [sizeM, if_pos h]; exact rdays_yes y m w h
  · rw [sizeM, if_neg h]; exact rdays_no y m w (by simpa using h)

theorem rfirst_any (y m : Int) (w : World) :
    Calls Tryz.prog 19 #[.agg #[.int .i64 y, .int .i64 m, .int .i64 1]] w fun e w' => e = .returned (.int .i64 (firstM y m)) ∧ Below w.heap.size w w' := by
  by_cases h : Cal.monthB y m = true
  · rw [firstM, if_pos h]
    exact rof_yes y m 1 w (Cal.date_mk h (by omega) (by have := Cal.dim_bd y m; omega))
  · rw [firstM, if_neg h]
    exact rof_no y m 1 w (Cal.date_mk_no' (by simpa using h))

theorem texts_same (u v : Value) (L : List (List UInt8)) (w : World) (hu : StrsR w u L) (hv : StrsR w v L) :
    Calls Tryz.prog 35 #[u, v] w fun e w' => e = .returned (.bool true) ∧ Below w.heap.size w w' := by
  refine (texts_any u v L L w hu hv).mono ?_
  rintro e w' ⟨rfl, hb⟩
  exact ⟨by rw [textsB, decide_eq_true rfl], hb⟩

/-- the first fault of marks, ahead of asking whether they rise. -/
def markE1 (y m : Int) (D : List Int) : Int := if Cal.monthB y m = false then 1 else if 100 < D.length then 4 else 0
def markE2 (y m : Int) (D : List Int) : Int := if markE1 y m D = 0 then (if D.any (outM (firstM y m) (sizeM y m)) = true then 1 else 0) else markE1 y m D

theorem markE_eq (y m : Int) (D : List Int) : marksE y m D = if markE2 y m D = 0 then (if risesB D = false then 7 else 0) else markE2 y m D := by
  unfold markE2 markE1 marksE firstM sizeM
  by_cases h : Cal.monthB y m = false
  · simp [h]
  · have h2 : Cal.monthB y m = true := by simpa using h
    rw [if_neg h, if_neg h, if_pos h2, if_pos h2]
    by_cases h3 : 100 < D.length
    · simp [h3]
    · rw [if_neg h3, if_neg h3, if_pos rfl]
      by_cases h4 : D.any (outM (Cal.num y m 1) (Cal.dim y m)) = true
      · rw [if_pos h4, if_pos h4]; simp
      · rw [if_neg h4, if_neg h4]; simp

theorem markE1_nil (y m : Int) : marksE y m [] = if sizeM y m = 0 then 1 else 0 := by
  rw [marksE_nil, sizeM]
  have hd := Cal.dim_bd y m
  by_cases h : Cal.monthB y m = false
  · simp [h]
  · have h2 : Cal.monthB y m = true := by simpa using h
    have h3 : ¬ Cal.dim y m = 0 := by omega
    simp [h2, h3]

theorem take_snocA {α : Type} (l : List α) (k : Nat) (h : k < l.length) : l.take (k + 1) = l.take k ++ [l[k]] := List.take_succ_eq_append_getElem h

theorem any_take {α : Type} {p : α → Bool} {l : List α} {k : Nat} (h : (l.take k).any p = true) : l.any p = true := by
  obtain ⟨x, hx, hp⟩ := List.any_eq_true.1 h
  exact List.any_eq_true.2 ⟨x, List.mem_of_mem_take hx, hp⟩

set_option maxRecDepth 100000 in
set_option maxHeartbeats 8000000 in
theorem monthTells_any (y m : Int) (vd : Value) (D : List Int) (vl : Value) (L : List (List UInt8)) (row col : Int) (w : World) (hw : Months w) (hP : PowT w) (hS : SynT w) (hE : ErrT w)
    (_ : (Lit.int .i64 y).wf = true) (_ : (Lit.int .i64 m).wf = true) (hD : IntsR w vd D) (hL : StrsR w vl L) (_ : (Lit.int .i64 row).wf = true) (_ : (Lit.int .i64 col).wf = true) :
    Calls Tryz.prog 5 #[.int .i64 y, .int .i64 m, vd, vl, .int .i64 row, .int .i64 col] w fun e w' => e = .returned (.bool true) ∧ Below w.heap.size w w' := by
  obtain ⟨ad, kd, rfl, kd1, kd2, -⟩ := intsR_open hD
  obtain ⟨al, kl, rfl, kl1, kl2, -⟩ := strsR_open hL
  unfold maxLen at kd2 kl2
  have MW := Lib.hid hw; have PT := Lib.hid hP; have ST := Lib.hid hS; have ER := Lib.hid hE; have ID := Lib.hid hD; have IL := Lib.hid hL
  clear hw hP hS hE hD hL
  go_enter Tryz.func5, Tryz.ntmps5
  go_wp2_with fail
  refine (rsize_any y m _).mono ?_; rintro e w1 ⟨rfl, rfl⟩
  obtain ⟨sz, hsz⟩ : ∃ s, s = sizeM y m := ⟨_, rfl⟩
  obtain ⟨e0, he0⟩ : ∃ e, e = marksE y m [] := ⟨_, rfl⟩
  have N0 := Lib.hid (show e0 = if sz = 0 then 1 else 0 by rw [he0, hsz]; exact markE1_nil y m)
  have sb : 0 ≤ sz ∧ sz ≤ 31 := by rw [hsz, sizeM]; have := Cal.dim_bd y m; split <;> omega
  obtain ⟨sb1, sb2⟩ := sb
  rw [← hsz]
  have SZ := Lib.hid hsz; have E0 := Lib.hid he0
  have MB := Lib.hid (show sz ≠ 0 → Cal.monthB y m = true by
    intro h; rw [hsz, sizeM] at h; by_cases h2 : Cal.monthB y m = true
    · exact h2
    · rw [if_neg h2] at h; exact absurd rfl h)
  clear hsz he0
  go_upto_if 38 with fail
  go_cut [14, 15] (fun s14 s15 wx => s14 = .int .i64 e0 ∧ StrsR wx s15 (marksL y m []) ∧ Below w.heap.size w wx)
  case first => as_aux_lemma =>
    by_cases h : sz = 0
    · have t0 : (sz == 0) = true := by simpa using h
      obtain rfl : e0 = 1 := by rw [N0.out, if_pos h]
      have NW := Lib.hid (show marksL y m [] = [] by rw [marksL, ← E0.out, if_neg (by decide)])
      clear h
      go_wp2
      go_meet
      exact ⟨rfl, by rw [NW.out]; exact strsR_nil _, Below.refl _ _⟩
    · have t0 : (sz == 0) = false := by simpa using h
      obtain rfl : e0 = 0 := by rw [N0.out, if_neg h]
      have NW := Lib.hid (marksL_ok E0.out.symm)
      have HM := Lib.hid (MB.out h)
      clear h
      go_wp2_with fail
      refine (rmarks_any y m _ [] _ (intsR_nil _) HM.out).mono ?_; rintro e w2 ⟨v2, rfl, hv2, hb2⟩
      have V2 := Lib.hid hv2; have B2 := Lib.hid hb2
      clear hv2 hb2
      go_wp2
      go_meet
      exact ⟨rfl, by rw [NW.out]; exact V2.out, B2.out⟩
  case rest =>
  obtain ⟨rfl, hv, hb⟩ := hcut
  have V := Lib.hid hv
  have B := Lib.hid hb
  obtain ⟨w2, rfl⟩ : ∃ x, x = wc := ⟨_, rfl⟩
  clear hv hb
  go_wp2_with fail
  refine (leaf_any y m _ (MW.out.below B.out)).mono ?_; rintro e w3 ⟨v3, rfl, hv3, hb3⟩
  rw [← E0.out]
  have V3 := Lib.hid hv3
  have V := Lib.hid (V.out.below hb3)
  have B := Lib.hid (B.out.trans (hb3.mono B.out.size))
  clear hv3 hb3
  go_wp2_with fail
  refine (error_same e0 _ (ER.out.below B.out)).mono ?_; rintro e w4 ⟨rfl, hb4⟩
  have V3 := Lib.hid (V3.out.below hb4)
  have V := Lib.hid (V.out.below hb4)
  have B := Lib.hid (B.out.trans (hb4.mono B.out.size))
  clear hb4
  go_wp2_with fail
  refine (texts_same _ _ _ _ V3.out V.out).mono ?_; rintro e w5 ⟨rfl, hb5⟩
  have B := Lib.hid (B.out.trans (hb5.mono B.out.size))
  clear hb5 V V3
  go_wp2_with fail
  refine (rfirst_any y m _).mono ?_; rintro e w6 ⟨rfl, hb6⟩
  have B := Lib.hid (B.out.trans (hb6.mono B.out.size))
  obtain ⟨fi, hfi⟩ : ∃ s, s = firstM y m := ⟨_, rfl⟩
  have FI := Lib.hid hfi
  have fb : 0 ≤ fi ∧ fi ≤ 109573 := by
    rw [hfi, firstM]; split
    · next h => have := (Cal.num_bd (Cal.date_mk (d := 1) h (by omega) (by have := Cal.dim_bd y m; omega))).2.2; omega
    · omega
  obtain ⟨fb1, fb2⟩ := fb
  rw [← hfi]
  clear hb6 hfi
  obtain ⟨e1, he1⟩ : ∃ e, e = markE1 y m D := ⟨_, rfl⟩
  have N1 := Lib.hid (show e1 = if e0 = 0 ∧ 100 < D.length then 4 else e0 by
    rw [he1, markE1, E0.out, marksE_nil]
    by_cases h : Cal.monthB y m = false
    · simp [h]
    · simp [h])
  have E1 := Lib.hid he1
  clear he1
  go_upto_region 11 with fail
  go_cut [64] (fun s64 wx => ∃ q : Bool, s64 = .bool q ∧ Hid (q = decide (e0 = 0 ∧ 100 < D.length)) ∧ w6 = wx)
  case first => as_aux_lemma =>
    by_cases h : e0 = 0
    · have t0 : (e0 == 0) = true := by simpa using h
      by_cases h2 : 100 < D.length
      · have t1 : decide ((100 : Int) < (D.length : Int)) = true := decide_eq_true (by omega)
        have t1b : decide (100 < D.length) = true := decide_eq_true h2
        have Q := Lib.hid (show true = decide (e0 = 0 ∧ 100 < D.length) from (decide_eq_true ⟨h, h2⟩).symm)
        clear h h2
        go_wp2
        go_meet
        exact ⟨true, rfl, Q, rfl⟩
      · have t1 : decide ((100 : Int) < (D.length : Int)) = false := decide_eq_false (by omega)
        have t1b : decide (100 < D.length) = false := decide_eq_false h2
        have Q := Lib.hid (show false = decide (e0 = 0 ∧ 100 < D.length) from (decide_eq_false fun x => h2 x.2).symm)
        clear h h2
        go_wp2
        go_meet
        exact ⟨false, rfl, Q, rfl⟩
    · have t0 : (e0 == 0) = false := by simpa using h
      have Q := Lib.hid (show false = decide (e0 = 0 ∧ 100 < D.length) from (decide_eq_false fun x => h x.1).symm)
      clear h
      go_wp2
      go_meet
      exact ⟨false, rfl, Q, rfl⟩
  case rest =>
  obtain ⟨q, rfl, QE, rfl⟩ := hcut
  go_upto_if 64 with fail
  go_cut [14] (fun s14 wx => s14 = .int .i64 e1 ∧ w6 = wx)
  case first => as_aux_lemma =>
    cases q
    · obtain rfl : e1 = e0 := by rw [N1.out, if_neg (of_decide_eq_false QE.out.symm)]
      go_wp2
      go_meet
      exact ⟨rfl, rfl⟩
    · obtain rfl : e1 = 4 := by rw [N1.out, if_pos (of_decide_eq_true QE.out.symm)]
      go_wp2
      go_meet
      exact ⟨rfl, rfl⟩
  case rest =>
  obtain ⟨rfl, rfl⟩ := hcut
  clear N1 QE
  obtain ⟨e2, he2⟩ : ∃ e, e = markE2 y m D := ⟨_, rfl⟩
  have N2 := Lib.hid (show e2 = if e1 = 0 then (if D.any (outM fi sz) = true then 1 else 0) else e1 by
    rw [he2, markE2, E1.out, FI.out, SZ.out])
  have E2 := Lib.hid he2
  clear he2
  have ID6 := Lib.hid (ID.out.below B.out)
  go_upto_block 0 with fail
  go_cut [14] (fun s14 wx => s14 = .int .i64 e2 ∧ ∃ n, wx = w6.drewN n)
  case first => as_aux_lemma =>
    by_cases h1 : e1 = 0
    · obtain rfl := h1
      obtain ⟨a6, c6, e6, _, _, hds⟩ := intsR_open ID6.out
      cases e6
      have HC := Lib.hid hds
      clear hds
      have N2b := Lib.hid (show e2 = if D.any (outM fi sz) = true then 1 else 0 by rw [N2.out, if_pos rfl])
      clear N2
      go_wp2_with fail
      go_loopg [14, 22] D.length (fun g ev iv wr => ∃ (k n : Nat) (e : Int), k ≤ D.length ∧ iv = .int .i64 k ∧ ev = .int .i64 e ∧ g = D.length - k ∧ (e = 0 ∨ e = 1) ∧ Hid (e = if (D.take k).any (outM fi sz) = true then 1 else 0) ∧ wr = w6.drewN n)
      case atStart => exact ⟨0, 0, 0, Nat.zero_le _, rfl, rfl, rfl, .inl rfl, Lib.hid (by simp), rfl⟩
      case round =>
        obtain ⟨k, n, e, hk, rfl, rfl, hg, he, EV, rfl⟩ := hrel
        have G := Lib.hid hg; clear hg
        rcases he with rfl | rfl
        · have EV2 := Lib.hid (show (D.take k).any (outM fi sz) = false by
            have := EV.out; by_cases h : (D.take k).any (outM fi sz) = true
            · rw [if_pos h] at this; cases this
            · simpa using h)
          by_cases hlt : k < D.length
          · obtain ⟨b1, off1, rfl, hcs⟩ := HC.out (by omega)
            have c0 := hcs k hlt
            obtain ⟨x, hx⟩ : ∃ x, x = D[k] := ⟨_, rfl⟩
            rw [← hx] at c0
            have X := Lib.hid hx
            clear hcs hx
            have i1 : (0 : Int) ≤ (k : Int) := Int.natCast_nonneg _
            have i2 : (k : Int) < (D.length : Int) := by omega
            by_cases g1 : x < fi
            · have AY := Lib.hid (show (D.take (k + 1)).any (outM fi sz) = true by
                rw [take_snocA D k hlt, List.any_append]; simp [outM, ← X.out, g1])
              have t1 : decide (x < fi) = true := decide_eq_true g1
              clear g1
              go_wp2
              go_roundg (D.length - (k + 1))
              case measure => rw [G.out]; omega
              case rel => exact ⟨k + 1, _, 1, by omega, by go_num, rfl, rfl, .inr rfl, Lib.hid (by rw [if_pos AY.out]), rfl⟩
            · have t1 : decide (x < fi) = false := decide_eq_false g1
              by_cases g2 : fi + sz ≤ x
              · have AY := Lib.hid (show (D.take (k + 1)).any (outM fi sz) = true by
                  rw [take_snocA D k hlt, List.any_append]; simp [outM, ← X.out, g2])
                have t2 : decide (fi + sz ≤ x) = true := decide_eq_true g2
                clear g1 g2
                go_wp2
                go_roundg (D.length - (k + 1))
                case measure => rw [G.out]; omega
                case rel => exact ⟨k + 1, _, 1, by omega, by go_num, rfl, rfl, .inr rfl, Lib.hid (by rw [if_pos AY.out]), rfl⟩
              · have AN := Lib.hid (show (D.take (k + 1)).any (outM fi sz) = false by
                  rw [take_snocA D k hlt, List.any_append, EV2.out]; simp [outM, ← X.out]; omega)
                have t2 : decide (fi + sz ≤ x) = false := decide_eq_false g2
                clear g1 g2
                go_wp2
                go_roundg (D.length - (k + 1))
                case measure => rw [G.out]; omega
                case rel => exact ⟨k + 1, _, 0, by omega, by go_num, rfl, rfl, .inl rfl, Lib.hid (by rw [AN.out]; rfl), rfl⟩
          · obtain rfl : k = D.length := by omega
            obtain rfl : e2 = 0 := by have := EV2.out; rw [List.take_length] at this; rw [N2b.out, this]; rfl
            go_wp2
            go_meet
            exact ⟨rfl, _, rfl⟩
        · obtain rfl : e2 = 1 := by
            rw [N2b.out, if_pos]
            have := EV.out
            by_cases h : (D.take k).any (outM fi sz) = true
            · exact any_take h
            · rw [if_neg h] at this; cases this
          by_cases hlt : k < D.length
          · have i2 : (k : Int) < (D.length : Int) := by omega
            go_wp2
            go_meet
            exact ⟨rfl, _, rfl⟩
          · obtain rfl : k = D.length := by omega
            go_wp2
            go_meet
            exact ⟨rfl, _, rfl⟩
    · have t0 : (e1 == 0) = false := by simpa using h1
      obtain rfl : e2 = e1 := by rw [N2.out, if_neg h1]
      clear h1
      go_wp2_with fail
      go_loopg [14, 22] 0 (fun g ev iv wr => ev = .int .i64 e2 ∧ iv = .int .i64 0 ∧ g = 0 ∧ wr = w6)
      case atStart => exact ⟨rfl, rfl, rfl, rfl⟩
      case round =>
        obtain ⟨rfl, rfl, hg, rfl⟩ := hrel
        by_cases hlt : 0 < D.length
        · have i2 : decide ((0 : Int) < (D.length : Int)) = true := decide_eq_true (by omega)
          have i3 : decide (0 < D.length) = true := decide_eq_true hlt
          go_wp2
          go_meet
          exact ⟨rfl, 0, rfl⟩
        · have i2 : decide ((0 : Int) < (D.length : Int)) = false := decide_eq_false (by omega)
          have i3 : decide (0 < D.length) = false := decide_eq_false hlt
          go_wp2
          go_meet
          exact ⟨rfl, 0, rfl⟩
  case rest =>
  obtain ⟨rfl, nd, rfl⟩ := hcut
  have B := Lib.hid (B.out.trans (below_drewN (Below.refl _ w6) nd))
  obtain ⟨w7, hw7⟩ : ∃ x, x = w6.drewN nd := ⟨_, rfl⟩
  rw [← hw7] at B ⊢
  clear hw7 N2 ID6
  go_wp2_with fail
  refine (rrises_any _ D _ (ID.out.below B.out)).mono ?_; rintro e w8 ⟨rfl, hb8⟩
  have B := Lib.hid (B.out.trans (hb8.mono B.out.size))
  clear hb8
  obtain ⟨rs, hrs⟩ : ∃ r, r = risesB D := ⟨_, rfl⟩
  rw [← hrs]
  obtain ⟨E, hEE⟩ : ∃ e, e = marksE y m D := ⟨_, rfl⟩
  have N3 := Lib.hid (show E = if e2 = 0 then (if rs = false then 7 else 0) else e2 by rw [hEE, markE_eq, E2.out, hrs])
  have EE := Lib.hid hEE
  clear hrs hEE
  go_upto_region 19 with fail
  go_cut [98] (fun s98 wx => ∃ q : Bool, s98 = .bool q ∧ Hid (E = if q = true then 7 else e2) ∧ w8 = wx)
  case first => as_aux_lemma =>
    by_cases h : e2 = 0
    · have t0 : (e2 == 0) = true := by simpa using h
      cases rs
      · have Q := Lib.hid (show E = if true = true then 7 else e2 by rw [N3.out, if_pos h, if_pos rfl, if_pos rfl])
        clear h
        go_wp2
        go_meet
        exact ⟨true, rfl, Q, rfl⟩
      · have Q := Lib.hid (show E = if false = true then 7 else e2 by rw [N3.out, if_pos h, if_neg (by decide), if_neg (by decide), h])
        clear h
        go_wp2
        go_meet
        exact ⟨false, rfl, Q, rfl⟩
    · have t0 : (e2 == 0) = false := by simpa using h
      have Q := Lib.hid (show E = if false = true then 7 else e2 by rw [N3.out, if_neg h, if_neg (by decide)])
      clear h
      go_wp2
      go_meet
      exact ⟨false, rfl, Q, rfl⟩
  case rest =>
  obtain ⟨q, rfl, QE, rfl⟩ := hcut
  go_upto_if 98 with fail
  go_cut [14] (fun s14 wx => s14 = .int .i64 E ∧ w8 = wx)
  case first => as_aux_lemma =>
    cases q
    · obtain rfl : E = e2 := by rw [QE.out, if_neg (by decide)]
      go_wp2
      go_meet
      exact ⟨rfl, rfl⟩
    · obtain rfl : E = 7 := by rw [QE.out, if_pos rfl]
      go_wp2
      go_meet
      exact ⟨rfl, rfl⟩
  case rest =>
  obtain ⟨rfl, rfl⟩ := hcut
  clear N3 QE
  have ME := Lib.hid (show E = 0 → Cal.monthB y m = true by
    intro h; rw [EE.out, marksE] at h
    by_cases h2 : Cal.monthB y m = false
    · rw [if_pos h2] at h; cases h
    · simpa using h2)
  go_upto_if 100 with fail
  go_cut [16] (fun s16 wx => StrsR wx s16 (marksL y m D) ∧ Below w8.heap.size w8 wx)
  case first => as_aux_lemma =>
    by_cases h : E = 0
    · have t0 : (E == 0) = true := by simpa using h
      have HM := Lib.hid (ME.out h)
      have NW := Lib.hid (marksL_ok (EE.out.symm.trans h))
      clear h
      go_wp2_with fail
      refine (rmarks_any y m _ D _ (ID.out.below B.out) HM.out).mono ?_; rintro e w9 ⟨v9, rfl, hv9, hb9⟩
      have V9 := Lib.hid hv9; have B9 := Lib.hid hb9
      clear hv9 hb9
      go_wp2
      go_meet
      exact ⟨by rw [NW.out]; exact V9.out, B9.out⟩
    · have t0 : (E == 0) = false := by simpa using h
      have NW := Lib.hid (show marksL y m D = [] by rw [marksL, ← EE.out, if_neg h])
      clear h
      go_wp2
      go_meet
      exact ⟨by rw [NW.out]; exact strsR_nil _, Below.refl _ _⟩
  case rest =>
  obtain ⟨hv, hb⟩ := hcut
  have V := Lib.hid hv
  have B := Lib.hid (B.out.trans (hb.mono B.out.size))
  obtain ⟨w9, rfl⟩ : ∃ x, x = wc := ⟨_, rfl⟩
  clear hv hb
  go_wp2_with fail
  refine (marks_any y m _ D _ (MW.out.below B.out) (ID.out.below B.out)).mono ?_; rintro e w10 ⟨v10, rfl, hv10, hb10⟩
  rw [← EE.out]
  have V10 := Lib.hid hv10
  have V := Lib.hid (V.out.below hb10)
  have B := Lib.hid (B.out.trans (hb10.mono B.out.size))
  clear hv10 hb10
  go_wp2_with fail
  refine (error_same E _ (ER.out.below B.out)).mono ?_; rintro e w11 ⟨rfl, hb11⟩
  have V10 := Lib.hid (V10.out.below hb11)
  have V := Lib.hid (V.out.below hb11)
  have B := Lib.hid (B.out.trans (hb11.mono B.out.size))
  clear hb11
  go_wp2_with fail
  refine (texts_same _ _ _ _ V10.out V.out).mono ?_; rintro e w12 ⟨rfl, hb12⟩
  have B := Lib.hid (B.out.trans (hb12.mono B.out.size))
  clear hb12 V V10
  obtain ⟨P1, hP1⟩ : ∃ x, x = (cellF L row col).1 := ⟨_, rfl⟩
  obtain ⟨P2, hP2⟩ : ∃ x, x = (cellF L row col).2 := ⟨_, rfl⟩
  have C1 := Lib.hid hP1; have C2 := Lib.hid hP2
  clear hP1 hP2
  have IL6 := Lib.hid (IL.out.below B.out)
  go_upto_region 28 with fail
  go_cut [133] (fun s133 wx => ∃ q : Bool, s133 = .bool q ∧ Hid (q = decide (row < 0 ∨ (L.length : Int) ≤ row ∨ col < 0 ∨ 6 < col)) ∧ w12 = wx)
  case first => as_aux_lemma =>
    by_cases h : row < 0 ∨ (L.length : Int) ≤ row ∨ col < 0 ∨ 6 < col
    · have Q := Lib.hid (show true = decide (row < 0 ∨ (L.length : Int) ≤ row ∨ col < 0 ∨ 6 < col) from (decide_eq_true h).symm)
      have tt : decide (row < 0) = true ∨ (decide (row < 0) = false ∧ decide ((L.length : Int) ≤ row) = true) ∨ (decide (row < 0) = false ∧ decide ((L.length : Int) ≤ row) = false ∧ decide (col < 0) = true) ∨ (decide (row < 0) = false ∧ decide ((L.length : Int) ≤ row) = false ∧ decide (col < 0) = false ∧ decide (6 < col) = true) := by
        simp only [decide_eq_true_eq, decide_eq_false_iff_not]; omega
      clear h
      rcases tt with t1 | ⟨t1, t2⟩ | ⟨t1, t2, t3⟩ | ⟨t1, t2, t3, t4⟩
      all_goals
        go_wp2
        go_meet
        exact ⟨true, rfl, Q, rfl⟩
    · have Q := Lib.hid (show false = decide (row < 0 ∨ (L.length : Int) ≤ row ∨ col < 0 ∨ 6 < col) from (decide_eq_false h).symm)
      have t1 : decide (row < 0) = false := decide_eq_false (by omega)
      have t2 : decide ((L.length : Int) ≤ row) = false := decide_eq_false (by omega)
      have t3 : decide (col < 0) = false := decide_eq_false (by omega)
      have t4 : decide (6 < col) = false := decide_eq_false (by omega)
      clear h
      go_wp2
      go_meet
      exact ⟨false, rfl, Q, rfl⟩
  case rest =>
  obtain ⟨q, rfl, QE, rfl⟩ := hcut
  go_upto_if 133 with fail
  go_cut [14, 27] (fun s14 s27 wx => s14 = .int .i64 P2 ∧ s27 = .int .i64 P1 ∧ Below w12.heap.size w12 wx)
  case first => as_aux_lemma =>
    by_cases hq : q = true
    · obtain rfl := hq
      have h := of_decide_eq_true QE.out.symm
      obtain rfl : P2 = 1 := by rw [C2.out, cellF, if_pos h]
      obtain rfl : P1 = 0 := by rw [C1.out, cellF, if_pos h]
      clear h QE
      go_wp2
      go_meet
      exact ⟨rfl, rfl, Below.refl _ _⟩
    obtain rfl : q = false := by simpa using hq
    have h := of_decide_eq_false QE.out.symm
    clear hq QE
    obtain ⟨r, rfl⟩ : ∃ r : Nat, row = (r : Int) := ⟨row.toNat, by omega⟩
    obtain ⟨c, rfl⟩ : ∃ c : Nat, col = (c : Int) := ⟨col.toNat, by omega⟩
    have hr : r < L.length := by omega
    have hc : c ≤ 6 := by omega
    have CF := Lib.hid (show cellF L (r : Int) (c : Int) = if L[r].length ≠ 21 then (0, 2) else cellQ ((L[r].drop (c * 3)).take 3) by
      rw [cellF, if_neg h, show ((r : Int)).toNat = r by omega, List.getElem?_eq_getElem hr, Option.getD_some, show ((c : Int) * 3).toNat = c * 3 by omega])
    clear h
    obtain ⟨a6, c6, e6, _, _, hds⟩ := strsR_open IL6.out
    cases e6
    obtain ⟨b, off, rfl, hcs⟩ := hds (by omega)
    have c0 := hcs r hr
    obtain ⟨l, hl⟩ : ∃ l, l = L[r] := ⟨_, rfl⟩
    rw [← hl] at CF c0
    obtain ⟨x, hx⟩ : ∃ x, x = bs l := ⟨_, rfl⟩
    rw [← hx] at c0
    have X := Lib.hid hx
    have XZ := Lib.hid (show x.size = l.length by rw [hx, bs_size])
    clear hcs hl hx hds
    have i1 : (0 : Int) ≤ (r : Int) := Int.natCast_nonneg _
    have i2 : (r : Int) < (L.length : Int) := by omega
    have i3 : (0 : Int) ≤ (c : Int) := Int.natCast_nonneg _
    have i4 : (c : Int) ≤ 6 := by omega
    by_cases h21 : ¬ x.size = 21
    · have E := show cellF L (r : Int) (c : Int) = (0, 2) by rw [CF.out, if_pos (by rw [← XZ.out]; exact h21)]
      obtain rfl : P2 = 2 := by rw [C2.out, E]
      obtain rfl : P1 = 0 := by rw [C1.out, E]
      have z : ((x.size : Int) == 21) = false := by rw [beq_eq_false_iff_ne]; omega
      have z2 : ((x.size : Int) != 21) = true := by simp [bne, z]
      clear h21 E
      go_wp2
      go_meet
      exact ⟨rfl, rfl, Below.refl _ _⟩
    replace h21 : x.size = 21 := by omega
    have z : ((x.size : Int) == 21) = true := by rw [beq_iff_eq]; omega
    have z2 : ((x.size : Int) != 21) = false := by simp [bne, z]
    obtain ⟨S, hS⟩ : ∃ S, S = x.extract (3 * c) (3 * c + 3) := ⟨_, rfl⟩
    obtain ⟨p, q, u, hl3⟩ : ∃ p q u, (l.drop (c * 3)).take 3 = [p, q, u] := by
      have hlen : ((l.drop (c * 3)).take 3).length = 3 := by have := XZ.out; rw [List.length_take, List.length_drop]; omega
      match h : (l.drop (c * 3)).take 3, hlen with
      | [p, q, u], _ => exact ⟨p, q, u, rfl⟩
    have E0 := Lib.hid (show cellF L (r : Int) (c : Int) = cellQ [p, q, u] by rw [CF.out, if_neg (by rw [← XZ.out]; omega), hl3])
    have S0 : S = bs [p, q, u] := by rw [hS, X.out, bs_extract, show 3 * c + 3 - 3 * c = 3 by omega, show 3 * c = c * 3 by omega, hl3]
    have S3 : S.size = 3 := by rw [S0, bs_size]; rfl
    obtain ⟨T, hT⟩ : ∃ T, T = S.extract 1 3 := ⟨_, rfl⟩
    have T0 : T = bs [q, u] := by rw [hT, S0, bs_extract]; rfl
    have T2 : T.size = 2 := by rw [T0, bs_size]; rfl
    have SE := Lib.hid S0; have TE := Lib.hid T0; have HS := Lib.hid hS; have HT := Lib.hid hT
    have q1 : (0 : Int) ≤ 3 * (c : Int) + 3 := by omega
    have q2 : 3 * (c : Int) + 3 ≤ (x.size : Int) := by omega
    have q3 : (0 : Int) ≤ 3 * (c : Int) := by omega
    have q4 : (3 * (c : Int) + 3).toNat = 3 * c + 3 := by omega
    have q5 : 3 * (c : Int) ≤ ((3 * c + 3 : Nat) : Int) := by omega
    clear hS hl3 CF h21 S0 T0 hT
    go_upto_region 33 with fail
    rw [← HS.out]
    clear q1 q2 q3 q4 q5
    go_upto_region 34 with fail
    rw [← HT.out]
    obtain ⟨n0, hn0⟩ : ∃ n : Int, n = (p.toNat : Int) := ⟨_, rfl⟩
    have F := Lib.hid (sign_cases (byte_is (m := 32) hn0 (by omega)) (byte_is (m := 42) hn0 (by omega)))
    have hcn : ((S[0]'(by omega)).toNat : Int) = n0 := by rw [hn0]; have := SE.out; subst this; rfl
    obtain ⟨n1, hn1⟩ : ∃ n : Int, n = (q.toNat : Int) := ⟨_, rfl⟩
    have F2 := Lib.hid (show (n1 == 32) = decide (q = 32) from byte_is (m := 32) hn1 (by omega))
    have hcn1 : ((T[0]'(by omega)).toNat : Int) = n1 := by rw [hn1]; have := TE.out; subst this; rfl
    clear hn0 hn1
    obtain ⟨tl, htl⟩ : ∃ tl, tl = trimSp [q, u] := ⟨_, rfl⟩
    have TL := Lib.hid (show trimSp (([p, q, u] : List UInt8).drop 1) = tl by rw [htl]; rfl)
    have tlen : tl.length ≤ 2 := by have := trimSp_len [q, u]; rw [htl]; simpa using this
    have HTL := Lib.hid htl
    clear htl
    go_upto_if 154 with fail
    go_cut [29] (fun s29 wx => s29 = .string (bs tl) ∧ w12 = wx)
    case first => as_aux_lemma =>
      by_cases h : q = 32
      · have t0 : (n1 == 32) = true := F2.out.trans (decide_eq_true h)
        have E := Lib.hid (show T.extract 1 2 = bs tl by rw [TE.out, bs_extract, HTL.out, h]; rfl)
        clear h
        go_wp2
        go_meet
        exact ⟨by rw [← E.out], rfl⟩
      · have t0 : (n1 == 32) = false := F2.out.trans (decide_eq_false h)
        have E := Lib.hid (show T = bs tl by rw [TE.out, HTL.out, trimSp, if_neg (by simpa using h)])
        clear h
        go_wp2
        go_meet
        exact ⟨by rw [← E.out], rfl⟩
    case rest => as_aux_lemma =>
      obtain ⟨rfl, rfl⟩ := hcut
      clear F2 hcn1 HTL HT TE T2
      go_wp2_with fail
      refine (rnum_any tl 2 _ (by omega) (by omega)).mono ?_; rintro e w13 ⟨rfl, hb13⟩
      have B13 := Lib.hid hb13
      clear hb13
      by_cases h3 : [p, q, u] = [32, 32, 32]
      · have E := show cellF L (r : Int) (c : Int) = (0, 5) by rw [E0.out, h3]; exact cellQ_none
        obtain rfl : P2 = 5 := by rw [C2.out, E]
        obtain rfl : P1 = 0 := by rw [C1.out, E]
        have u1 : S.toList = [32, 32, 32] := by rw [SE.out, bs_toList]; exact h3
        clear h3 E
        obtain ⟨v1, hv1⟩ : ∃ v, v = (numP 2 tl).getD 0 := ⟨_, rfl⟩
        obtain ⟨v2, hv2⟩ : ∃ v, v = (numP 2 tl).isSome := ⟨_, rfl⟩
        rw [← hv1, ← hv2]
        clear hv1 hv2
        go_wp2
        go_meet
        exact ⟨rfl, rfl, B13.out⟩
      have u1 : ¬ S.toList = [32, 32, 32] := by rw [SE.out, bs_toList]; exact h3
      have u1b : (S.toList == [32, 32, 32]) = false := by rw [beq_eq_false_iff_ne]; exact u1
      have NE := Lib.hid h3
      clear h3
      cases hN : numP 2 tl with
      | none => as_aux_lemma =>
        have E := show cellF L (r : Int) (c : Int) = (0, 2) by rw [E0.out]; exact cellQ_bad NE.out (fun n hn => by rw [TL.out, hN] at hn; cases hn)
        obtain rfl : P2 = 2 := by rw [C2.out, E]
        obtain rfl : P1 = 0 := by rw [C1.out, E]
        clear hN E
        rw [show (none : Option Int).getD 0 = 0 from rfl, show (none : Option Int).isSome = false from rfl]
        rcases F.out with ⟨f1, f2, _⟩ | ⟨f1, f2, f3, f4, _⟩ | ⟨f1, f2, f3, f4, _⟩
        all_goals
          go_wp2
          go_meet
          exact ⟨rfl, rfl, B13.out⟩
      | some n => as_aux_lemma =>
        rw [show (some n : Option Int).getD 0 = n from rfl, show (some n : Option Int).isSome = true from rfl]
        have HN := Lib.hid hN
        clear hN
        rcases F.out with ⟨f1, f2, fp⟩ | ⟨f1, f2, f3, f4, fp⟩ | ⟨f1, f2, f3, f4, fp⟩
        rotate_left 2
        · have E := show cellF L (r : Int) (c : Int) = (0, 2) by rw [E0.out]; exact cellQ_bad NE.out (fun m _ h => by simp at h; exact absurd h (by simpa using fp))
          obtain rfl : P2 = 2 := by rw [C2.out, E]
          obtain rfl : P1 = 0 := by rw [C1.out, E]
          clear fp E
          go_wp2
          go_meet
          exact ⟨rfl, rfl, B13.out⟩
        all_goals
          have HH : ([p, q, u] : List UInt8).head? = some 32 ∨ ([p, q, u] : List UInt8).head? = some 42 := by rw [fp]; simp
          clear fp
          by_cases h1 : n < 1
          · have E := show cellF L (r : Int) (c : Int) = (0, 2) by rw [E0.out]; exact cellQ_bad NE.out (fun m hm _ => by rw [TL.out, HN.out] at hm; cases hm; omega)
            obtain rfl : P2 = 2 := by rw [C2.out, E]
            obtain rfl : P1 = 0 := by rw [C1.out, E]
            have t3 : decide (n < 1) = true := decide_eq_true h1
            clear h1 E HH
            go_wp2
            go_meet
            exact ⟨rfl, rfl, B13.out⟩
          · have t3 : decide (n < 1) = false := decide_eq_false h1
            by_cases h2 : 31 < n
            · have E := show cellF L (r : Int) (c : Int) = (0, 2) by rw [E0.out]; exact cellQ_bad NE.out (fun m hm _ _ => by rw [TL.out, HN.out] at hm; cases hm; exact h2)
              obtain rfl : P2 = 2 := by rw [C2.out, E]
              obtain rfl : P1 = 0 := by rw [C1.out, E]
              have t4 : decide (31 < n) = true := decide_eq_true h2
              clear h1 h2 E HH
              go_wp2
              go_meet
              exact ⟨rfl, rfl, B13.out⟩
            · have E := show cellF L (r : Int) (c : Int) = (n, 0) by rw [E0.out]; exact cellQ_yes NE.out (by rw [TL.out, HN.out]) HH (by omega) (by omega)
              obtain rfl : P2 = 0 := by rw [C2.out, E]
              have P1n := Lib.hid (show P1 = n by rw [C1.out, E])
              have t4 : decide (31 < n) = false := decide_eq_false h2
              clear h1 h2 E HH
              go_wp2
              go_meet
              exact ⟨rfl, by rw [P1n.out], B13.out⟩
  case rest =>
  obtain ⟨rfl, rfl, hb⟩ := hcut
  have B := Lib.hid (B.out.trans (hb.mono B.out.size))
  obtain ⟨w13, rfl⟩ : ∃ x, x = wc := ⟨_, rfl⟩
  clear hb IL6
  go_wp2_with fail
  refine (mcell_any _ L row col _ (IL.out.below B.out) (PT.out.below B.out) (ST.out.below B.out)).mono ?_; rintro e w14 ⟨rfl, hb14⟩
  rw [← C1.out, ← C2.out]
  have B := Lib.hid (B.out.trans (hb14.mono B.out.size))
  clear hb14
  go_wp2_with fail
  refine (error_same P2 _ (ER.out.below B.out)).mono ?_; rintro e w15 ⟨rfl, hb15⟩
  have B := Lib.hid (B.out.trans (hb15.mono B.out.size))
  clear hb15
  go_wp2
  go_ret
  exact ⟨rfl, B.out⟩

end Go.Proofs.YtdkcgggnkhbkkaaGreatDoor
