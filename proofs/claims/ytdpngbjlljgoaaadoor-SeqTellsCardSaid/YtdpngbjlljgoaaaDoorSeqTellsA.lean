/- The law SeqTells: the first days of any rule, those between any two, the next one, whether any is one, how many there are: program and reference are one. The walk. (printed by gen_seqtells.py) -/
import Derived.Test.YtdpngbjlljgoaaaDoorSeqU
import Derived.Deep.CutBlock
namespace Go.Proofs.YtdpngbjlljgoaaaDoor
open Go.RowKit Go.Shelf
set_option linter.unusedSimpArgs false
set_option linter.unusedVariables false

theorem tbeq_same (c : Int) : (c == c) = true := by simp

theorem tintsB_refl (L : List Int) : intsB L L = true := by simp [intsB]

theorem trdate (n : Int) (w : World) :
    Calls Tryd.prog 18 #[.int .i64 n] w fun e w' => ∃ (y m d : Int) (b : Bool), e = .returned (.tuple #[.agg #[.int .i64 y, .int .i64 m, .int .i64 d], .bool b]) ∧ b = (decide (1 ≤ n) && decide (n ≤ 109573)) ∧ Below w.heap.size w w' := by
  by_cases h : 1 ≤ n ∧ n ≤ 109573
  · refine (rdate_yes n w h.1 h.2).mono ?_
    rintro e w' ⟨y, m, d, he, _, _, hb⟩
    exact ⟨y, m, d, true, he, by simp [h.1, h.2], hb⟩
  · refine (rdate_no n w (by omega)).mono ?_
    rintro e w' ⟨he, hb⟩
    exact ⟨0, 0, 0, false, he, by symm; rw [Bool.and_eq_false_iff]; simp; omega, hb⟩

/-- the days between, as the reference takes them. -/
theorem filt_succ {A : List Int} {af : Int} {k : Nat} (h : k < A.length) : ((A.take (k + 1)).filter fun x => decide (af ≤ x)) = ((A.take k).filter fun x => decide (af ≤ x)) ++ (if af ≤ A[k] then [A[k]] else []) := by
  rw [List.take_succ_eq_append_getElem h, List.filter_append]
  congr 1
  by_cases h1 : af ≤ A[k] <;> simp [h1]

theorem filt_btw (E : List Int) (af up : Int) : ((upto up E).filter fun x => decide (af ≤ x)) = btwL E af up := by
  unfold upto btwL
  rw [List.filter_filter]

/-- what the next one is of those that are at most so. -/
theorem next_yes {E : List Int} (hE : E.Pairwise (· < ·)) {af H x : Int} (h : (upto H E).find? (fun z => decide (af < z)) = some x) : nextP E af = (x, 0) := by
  rw [find_upto E af H hE] at h
  unfold nextP
  cases hf : E.find? (fun z => decide (af < z)) with
  | none => rw [hf] at h; simp at h
  | some z =>
    rw [hf] at h
    have : z = x := by
      simp only [Option.filter] at h
      split at h
      · simpa using h
      · simp at h
    simp [this]

theorem next_not {E : List Int} (hE : E.Pairwise (· < ·)) {af H : Int} (hb : ∀ x ∈ E, x ≤ H) (h : (upto H E).find? (fun z => decide (af < z)) = none) : nextP E af = (0, 5) := by
  rw [upto_all hb] at h
  unfold nextP
  rw [h]

theorem find_step_no {A : List Int} {af : Int} {i : Nat} (h : i < A.length) (h0 : (A.take i).find? (fun z => decide (af < z)) = none) (h1 : ¬ af < A[i]) : (A.take (i + 1)).find? (fun z => decide (af < z)) = none := by
  rw [List.take_succ_eq_append_getElem h, List.find?_append, h0]
  simp; omega

theorem find_step_yes {A : List Int} {af : Int} {i : Nat} (h : i < A.length) (h0 : (A.take i).find? (fun z => decide (af < z)) = none) (h1 : af < A[i]) : A.find? (fun z => decide (af < z)) = some A[i] := by
  conv => lhs; rw [← List.take_append_drop i A]
  rw [List.find?_append, h0, List.drop_eq_getElem_cons h]
  simp only [Option.none_or, List.find?_cons, h1, decide_true]

set_option maxRecDepth 100000 in
set_option maxHeartbeats 16000000 in
theorem seqTells_bad (fr ev ct ti st n af up : Int) (vm vd vw vp : Value) (mo da : List Int) (we : List (Int × Int)) (pk : List Int) (w : World) (hw : Months w) (hx : ErrT w)
    (h1 : IntsR w vm mo) (h2 : IntsR w vd da) (h3 : PairsR w vw we) (h4 : IntsR w vp pk) (hF : seqF (ruleF fr ev ct ti mo da we pk) st ≠ 0) :
    Calls Tryd.prog 4 #[.agg #[.int .i64 fr, .int .i64 ev, .int .i64 ct, .int .i64 ti, vm, vd, vw, vp], .int .i64 st, .int .i64 n, .int .i64 af, .int .i64 up] w fun e w' => e = .returned (.bool true) ∧ Below w.heap.size w w' := by
  obtain ⟨am, km, rfl, -, -, -⟩ := intsR_open h1
  obtain ⟨ad, kd, rfl, -, -, -⟩ := intsR_open h2
  obtain ⟨aw, kw, rfl, -, -, -⟩ := pairsR_open h3
  obtain ⟨ap, kp, rfl, -, -, -⟩ := intsR_open h4
  obtain ⟨w0, hw0⟩ : ∃ x, x = w.alloc (.cells #[.int .i64 fr, .int .i64 ev, .int .i64 ct, .int .i64 ti, .slice am mo.length km, .slice ad da.length kd, .slice aw we.length kw, .slice ap pk.length kp] 25) := ⟨_, rfl⟩
  have hb0 : Below w.heap.size w w0 := by rw [hw0]; exact (Below.refl _ _).alloc (Nat.le_refl _) _
  have xr : RlC w0 w.heap.size fr ev ct ti _ _ _ _ := hw0 ▸ rlC_new w 25 fr ev ct ti (.slice am mo.length km) (.slice ad da.length kd) (.slice aw we.length kw) (.slice ap pk.length kp)
  have S := Lib.hid (⟨hb0, hw.below hb0, hx.below hb0, h1.below hb0, h2.below hb0, h3.below hb0, h4.below hb0, xr⟩ : TellSt w w0 w.heap.size fr ev ct ti _ _ _ _ mo da we pk)
  have W0 := Lib.hid hw0
  clear hb0 xr hw0 hw hx h1 h2 h3 h4
  obtain ⟨F, hFF⟩ : ∃ F, F = seqF (ruleF fr ev ct ti mo da we pk) st := ⟨_, rfl⟩
  have FF := Lib.hid hFF
  have NZ := Lib.hid hF
  have fz : (F == 0) = false := by rw [beq_eq_false_iff_ne, hFF]; exact hF
  obtain ⟨R0, hR0⟩ : ∃ R0, R0 = ruleF fr ev ct ti mo da we pk := ⟨_, rfl⟩
  have RF := Lib.hid hR0
  have RC := Lib.hid (show (R0 ≠ 0 ∧ F = R0) ∨ (R0 = 0 ∧ F = 1 ∧ (decide (1 ≤ st) && decide (st ≤ 109573)) = false) by
    rw [hFF, ← hR0]
    by_cases h : R0 = 0
    · refine .inr ⟨h, ?_⟩
      rw [h, seqF, if_neg (by decide)]
      rw [← hR0, h, seqF, if_neg (by decide)] at hF
      by_cases h2 : 1 ≤ st ∧ st ≤ 109573
      · rw [if_pos h2] at hF; exact absurd rfl hF
      · rw [if_neg h2]; refine ⟨rfl, ?_⟩; rw [Bool.and_eq_false_iff]; simp; omega
    · exact .inl ⟨h, by rw [seqF, if_pos h]⟩)
  clear hFF hF hR0
  obtain ⟨c0, c1, c2, c3, c4, c5, c6, c7⟩ := S.out.rule
  go_enter Tryd.func4, Tryd.ntmps4
  go_upto_region 1 with fail
  rw [← W0.out]
  go_wp2_with fail
  refine (rrule_any fr ev ct ti _ _ _ _ mo da we pk _ S.out.i1 S.out.i2 S.out.i3 S.out.i4).mono ?_; rintro e w1 ⟨rfl, hb1⟩
  rw [← RF.out]
  have S := Lib.hid (S.out.next hb1)
  clear hb1 c0 c1 c2 c3 c4 c5 c6 c7
  obtain ⟨c0, c1, c2, c3, c4, c5, c6, c7⟩ := S.out.rule
  go_wp2_with fail
  refine (trdate st _).mono ?_; rintro e w2 ⟨y, m, d, b, rfl, hbb, hb2⟩
  have hb2 : Below w1.heap.size w1 (w2.alloc (.cells #[.int .i64 y, .int .i64 m, .int .i64 d] 42)) := hb2.alloc hb2.size _
  have RC := Lib.hid (show (R0 ≠ 0 ∧ F = R0) ∨ (R0 = 0 ∧ F = 1 ∧ b = false) by rw [hbb]; exact RC.out)
  clear hbb
  have S := Lib.hid (S.out.next hb2)
  clear hb2 c0 c1 c2 c3 c4 c5 c6 c7
  obtain ⟨c0, c1, c2, c3, c4, c5, c6, c7⟩ := S.out.rule
  obtain ⟨wa, hwa⟩ : ∃ x, x = w2.alloc (.cells #[.int .i64 y, .int .i64 m, .int .i64 d] 42) := ⟨_, rfl⟩
  go_upto_region 3 with fail
  rw [← hwa] at c0 c1 c2 c3 c4 c5 c6 c7 S ⊢
  clear hwa
  go_cut [52] (fun s52 wx => ∃ t : Bool, s52 = .bool t ∧ (t = true → F = 1) ∧ (t = false → F = R0) ∧ wa = wx)
  case first => as_aux_lemma =>
    rcases RC.out with ⟨hr, hf⟩ | ⟨hr, hf, rfl⟩
    · have z : (R0 == 0) = false := by rw [beq_eq_false_iff_ne]; exact hr
      have E := Lib.hid hf
      clear hr hf
      go_wp2
      go_meet
      exact ⟨false, rfl, (fun h => by cases h), (fun _ => E.out), rfl⟩
    · have z : (R0 == 0) = true := by rw [beq_iff_eq]; exact hr
      have E := Lib.hid hf
      clear hr hf
      go_wp2
      go_meet
      exact ⟨true, rfl, (fun _ => E.out), (fun h => by cases h), rfl⟩
  case rest =>
  obtain ⟨t, rfl, ht1, ht2, rfl⟩ := hcut
  have T1 := Lib.hid ht1; have T2 := Lib.hid ht2
  clear ht1 ht2
  go_upto_if 52 with fail
  go_cut [11] (fun s11 wx => s11 = .int .i64 F ∧ wa = wx)
  case first => as_aux_lemma =>
    cases t
    · have E := Lib.hid (T2.out rfl)
      clear T1 T2
      go_wp2
      go_meet
      exact ⟨by rw [E.out], rfl⟩
    · have E := Lib.hid (T1.out rfl)
      clear T1 T2
      go_wp2
      go_meet
      exact ⟨by rw [E.out], rfl⟩
  case rest =>
  obtain ⟨rfl, rfl⟩ := hcut
  clear T1 T2
  go_wp2_with fail
  refine (sfirst_err fr ev ct ti st n _ _ _ _ mo da we pk _ S.out.i1 S.out.i2 S.out.i3 S.out.i4 NZ.out).mono ?_; rintro e w3 ⟨rfl, hb3⟩
  rw [← FF.out]
  have S := Lib.hid (S.out.next hb3)
  clear hb3 c0 c1 c2 c3 c4 c5 c6 c7
  obtain ⟨c0, c1, c2, c3, c4, c5, c6, c7⟩ := S.out.rule
  go_wp2_with fail
  refine (error_same F _ S.out.err).mono ?_; rintro e w4 ⟨rfl, hb4⟩
  have S := Lib.hid (S.out.next hb4)
  clear hb4 c0 c1 c2 c3 c4 c5 c6 c7
  obtain ⟨c0, c1, c2, c3, c4, c5, c6, c7⟩ := S.out.rule
  go_wp2_with fail
  refine (ints_any _ _ [] [] _ (intsR_nil _) (intsR_nil _)).mono ?_; rintro e w5 ⟨rfl, hb5⟩
  rw [tintsB_refl]
  have S := Lib.hid (S.out.next hb5)
  clear hb5 c0 c1 c2 c3 c4 c5 c6 c7
  obtain ⟨c0, c1, c2, c3, c4, c5, c6, c7⟩ := S.out.rule
  go_wp2_with fail
  refine (scount_err fr ev ct ti st _ _ _ _ mo da we pk _ S.out.i1 S.out.i2 S.out.i3 S.out.i4 NZ.out).mono ?_; rintro e w6 ⟨rfl, hb6⟩
  rw [← FF.out]
  have S := Lib.hid (S.out.next hb6)
  clear hb6 c0 c1 c2 c3 c4 c5 c6 c7
  obtain ⟨c0, c1, c2, c3, c4, c5, c6, c7⟩ := S.out.rule
  go_wp2_with fail
  refine (error_same F _ S.out.err).mono ?_; rintro e w7 ⟨rfl, hb7⟩
  have S := Lib.hid (S.out.next hb7)
  clear hb7 c0 c1 c2 c3 c4 c5 c6 c7
  obtain ⟨c0, c1, c2, c3, c4, c5, c6, c7⟩ := S.out.rule
  go_wp2_with fail
  refine (sbetween_err fr ev ct ti st af up _ _ _ _ mo da we pk _ S.out.i1 S.out.i2 S.out.i3 S.out.i4 NZ.out).mono ?_; rintro e w8 ⟨rfl, hb8⟩
  rw [← FF.out]
  have S := Lib.hid (S.out.next hb8)
  clear hb8 c0 c1 c2 c3 c4 c5 c6 c7
  obtain ⟨c0, c1, c2, c3, c4, c5, c6, c7⟩ := S.out.rule
  go_wp2_with fail
  refine (error_same F _ S.out.err).mono ?_; rintro e w9 ⟨rfl, hb9⟩
  have S := Lib.hid (S.out.next hb9)
  clear hb9 c0 c1 c2 c3 c4 c5 c6 c7
  obtain ⟨c0, c1, c2, c3, c4, c5, c6, c7⟩ := S.out.rule
  go_wp2_with fail
  refine (ints_any _ _ [] [] _ (intsR_nil _) (intsR_nil _)).mono ?_; rintro e w10 ⟨rfl, hb10⟩
  rw [tintsB_refl]
  have S := Lib.hid (S.out.next hb10)
  clear hb10 c0 c1 c2 c3 c4 c5 c6 c7
  obtain ⟨c0, c1, c2, c3, c4, c5, c6, c7⟩ := S.out.rule
  go_wp2_with fail
  refine (snext_err fr ev ct ti st af _ _ _ _ mo da we pk _ S.out.i1 S.out.i2 S.out.i3 S.out.i4 NZ.out).mono ?_; rintro e w11 ⟨rfl, hb11⟩
  rw [← FF.out]
  have S := Lib.hid (S.out.next hb11)
  clear hb11 c0 c1 c2 c3 c4 c5 c6 c7
  obtain ⟨c0, c1, c2, c3, c4, c5, c6, c7⟩ := S.out.rule
  go_wp2_with fail
  refine (error_same F _ S.out.err).mono ?_; rintro e w12 ⟨rfl, hb12⟩
  have S := Lib.hid (S.out.next hb12)
  clear hb12 c0 c1 c2 c3 c4 c5 c6 c7
  obtain ⟨c0, c1, c2, c3, c4, c5, c6, c7⟩ := S.out.rule
  go_wp2_with fail
  refine (shas_err fr ev ct ti st af _ _ _ _ mo da we pk _ S.out.i1 S.out.i2 S.out.i3 S.out.i4 NZ.out).mono ?_; rintro e w13 ⟨rfl, hb13⟩
  rw [← FF.out]
  have S := Lib.hid (S.out.next hb13)
  clear hb13 c0 c1 c2 c3 c4 c5 c6 c7
  obtain ⟨c0, c1, c2, c3, c4, c5, c6, c7⟩ := S.out.rule
  go_wp2_with fail
  refine (error_same F _ S.out.err).mono ?_; rintro e w14 ⟨rfl, hb14⟩
  have S := Lib.hid (S.out.next hb14)
  clear hb14 c0 c1 c2 c3 c4 c5 c6 c7
  obtain ⟨c0, c1, c2, c3, c4, c5, c6, c7⟩ := S.out.rule
  have B := Lib.hid S.out.below
  clear c0 c1 c2 c3 c4 c5 c6 c7
  go_wp2
  go_ret
  exact ⟨by first | rfl | simp, B.out⟩

end Go.Proofs.YtdpngbjlljgoaaaDoor
