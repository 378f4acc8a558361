/- The walk of the law ClockBack. Conditions: the table of months, the library's powers of ten and its ErrSyntax lie as they are laid; texts are no longer than texts may be. -/
import Derived.Test.YtlinbdabkpgckaaDoorClkG
namespace Go.Proofs.YtlinbdabkpgckaaDoor
open Go.RowKit Go.Shelf
set_option linter.unusedSimpArgs false
set_option linter.unusedVariables false

theorem fact_span : spanT (-1560) = [45, 49, 100, 50, 104] := by
  simp [spanT, pcs, pc, letC, Lib.decDigits_one]

theorem fact_time : timeR 2026 11 15 16 59 = (66729179, 0) := by decide

theorem timeR_of {y m d h i : Nat} {v : Int} (hv : timeR y m d h i = (v, 0)) : Cal.dateB y m d = true ∧ h ≤ 23 ∧ i ≤ 59 ∧ 1 ≤ v ∧ v = (Cal.num y m d - 1) * 1440 + (h * 60 + i : Nat) := by
  unfold timeR at hv
  by_cases c : Cal.dateB y m d = true ∧ h ≤ 23 ∧ i ≤ 59 ∧ 1 ≤ (Cal.num y m d - 1) * 1440 + ((h * 60 + i : Nat) : Int)
  · rw [if_pos c] at hv
    have := congrArg Prod.fst hv
    simp only at this
    exact ⟨c.1, c.2.1, c.2.2.1, by omega, by omega⟩
  · rw [if_neg c] at hv
    have := congrArg Prod.snd hv
    simp at this

theorem timeR_mk {y m d : Int} {t : Int} (hd : Cal.dateB y m d = true) (hn : Cal.num y m d = t / 1440 + 1) (ht : 1 ≤ t) : timeR y.toNat m.toNat d.toNat (t % 1440 / 60).toNat (t % 60).toNat = (t, 0) := by
  obtain ⟨a1, a2, a3, a4, a5, a6⟩ := date_lim hd
  have ey : ((y.toNat : Nat) : Int) = y := by omega
  have em : ((m.toNat : Nat) : Int) = m := by omega
  have ed : ((d.toNat : Nat) : Int) = d := by omega
  have e : (((t % 1440 / 60).toNat * 60 + (t % 60).toNat : Nat) : Int) = t % 1440 := by omega
  unfold timeR
  rw [ey, em, ed, e, hn, if_pos ⟨hd, by omega, by omega, by omega⟩]
  congr 1; omega

theorem clkT_mk {y m d : Int} {t : Int} (hd : Cal.dateB y m d = true) (hn : Cal.num y m d = t / 1440 + 1) (ht : 1 ≤ t) : clkT y m d (t % 1440) = (t, 0) := by
  unfold clkT
  rw [hn, if_pos ⟨hd, by omega, by omega, by omega⟩]
  congr 1; omega

theorem errV_ne {c : Int} (h : c ≠ 0) : errV c = .iface 71 (.int .i64 c) := by rw [errV, if_neg h]

/-- what the law needs of the world. -/
def ClkW (w : World) : Prop := Months w ∧ PowT w ∧ SynT w

theorem ClkW.below {w w' : World} (h : ClkW w) (hb : Below w.heap.size w w') : ClkW w' := ⟨h.1.below hb, h.2.1.below hb, h.2.2.below hb⟩

theorem eq_errV (c : Int) (w : World) : (binOp .eql 28 (errV c) .nilIface).run Tryd.prog w = .ok (.bool (decide (c = 0))) w := by
  by_cases h : c = 0
  · subst h
    rw [errV_0, run_eql_nil_nil w 28 (by kernel_rfl)]; rfl
  · rw [errV_ne h, run_eql_held_nil w 28 _ _ (by kernel_rfl), decide_eq_false h]

theorem gd_errV (c : Int) (o : Operand) (v : Value) (w : World) : (eqGuard .eql 28 o (.const v) (errV c) .nilIface).run Tryd.prog w = .ok () w := by
  by_cases h : c = 0
  · subst h; rw [errV_0]; simp [eqGuard, go_sem]
  · rw [errV_ne h]; simp [eqGuard, go_sem]

/-- Print: the text, or the fault. -/
def PrintQ (t : Int) (w : World) (e : Ending) (w' : World) : Prop :=
  ∃ (x : ByteArray) (c : Int), e = .returned (.tuple #[.string x, errV c]) ∧ Below w.heap.size w w' ∧
    ((timeB t = true ∧ c = 0 ∧ ∃ y m d : Int, Cal.dateB y m d = true ∧ Cal.num y m d = t / 1440 + 1 ∧ x = bs (timeT y.toNat m.toNat d.toNat (t % 1440 / 60).toNat (t % 60).toNat)) ∨ (timeB t = false ∧ c ≠ 0))

theorem print_q (t : Int) (w : World) (hw : ClkW w) : Calls Tryd.prog 30 #[.int .i64 t] w (PrintQ t w) := by
  cases h : timeB t
  · refine (print_no t w h).mono fun e w' hh => ⟨_, 1, hh.1, ?_, .inr ⟨h, by omega⟩⟩
    rw [hh.2]; exact Below.refl _ _
  · refine (print_yes t w hw.1 hw.2.1 h).mono fun e w' hh => ?_
    obtain ⟨y, m, d, h1, h2, h3, h4⟩ := hh
    exact ⟨_, 0, h3, h4, .inl ⟨h, rfl, y, m, d, h1, h2, rfl⟩⟩

/-- Parse: the time, or the fault. -/
def ParseQ (s : List UInt8) (w : World) (e : Ending) (w' : World) : Prop :=
  ∃ (k c : Int), e = .returned (.tuple #[.int .i64 k, errV c]) ∧ Below w.heap.size w w' ∧ (c = 0 → ∃ y m d h i : Nat, s = timeT y m d h i ∧ y < 10000 ∧ m < 100 ∧ d < 100 ∧ h < 100 ∧ i < 100 ∧ timeR y m d h i = (k, 0))

theorem parse_q (s : List UInt8) (w : World) (hw : ClkW w) (hs : s.length ≤ 9223372036854775807) : Calls Tryd.prog 28 #[.string (bs s)] w (ParseQ s w) := by
  cases h : shB s form16
  · exact (parse_no s w hs h).mono fun e w' hh => ⟨0, 2, hh.1, hh.2, fun h => absurd h (by omega)⟩
  · obtain ⟨y, m, d, hh, i, h1, h2, h3, h4, h5, rfl⟩ := sh16 h
    exact (parse_any y m d hh i w hw.1 h1 h2 h3 h4 h5).mono fun e w' g => ⟨_, _, g.1, g.2, fun h => ⟨y, m, d, hh, i, rfl, h1, h2, h3, h4, h5, Prod.ext rfl h⟩⟩

/-- PrintSpan: the text, or the fault. -/
def PspanQ (n : Int) (w : World) (e : Ending) (w' : World) : Prop :=
  ∃ (x : ByteArray) (c : Int), e = .returned (.tuple #[.string x, errV c]) ∧ Below w.heap.size w w' ∧ (c = 0 → x = bs (spanT n) ∧ -1000000 ≤ n ∧ n ≤ 1000000)

theorem pspan_q (n : Int) (w : World) (hw : ClkW w) : Calls Tryd.prog 34 #[.int .i64 n] w (PspanQ n w) := by
  by_cases h : n < -1000000 ∨ 1000000 < n
  · refine (ps_no n w h).mono fun e w' hh => ⟨_, 1, hh.1, ?_, fun h => absurd h (by omega)⟩
    rw [hh.2]; exact Below.refl _ _
  · exact (ps_any n w hw.2.1 (by omega) (by omega)).mono fun e w' hh => ⟨_, 0, hh.1, hh.2, fun _ => ⟨rfl, by omega, by omega⟩⟩

theorem spanT_len {n : Int} (h1 : -1000000 ≤ n) (h2 : n ≤ 1000000) : (spanT n).length ≤ 100 := by
  have key : ∀ k m, m ≤ 1000000 → (pc k m).length ≤ 21 := fun k m hm => by
    unfold pc; split
    · simp
    · have := dec20 (u := m) (by omega)
      simp only [List.length_append, List.length_cons, List.length_nil]; omega
  unfold spanT
  split
  · simp
  · have a := key 0 (n.natAbs / 1440) (by omega)
    have b := key 1 (n.natAbs % 1440 / 60) (by omega)
    have c := key 2 (n.natAbs % 60) (by omega)
    simp only [pcs, List.length_append]
    split <;> simp only [List.length_cons, List.length_nil] <;> omega

set_option maxRecDepth 100000 in
set_option maxHeartbeats 8000000 in
theorem clockBack_any (t : Int) (s : List UInt8) (n : Int) (u : List UInt8) (w : World) (hM : Months w) (hP : PowT w) (hS : SynT w) (_ : (Lit.int .i64 t).wf = true) (hs : s.length ≤ 9223372036854775807) (_ : (Lit.int .i64 n).wf = true) (hu : u.length ≤ 9223372036854775807) :
    Calls Tryd.prog 6 #[.int .i64 t, .string (bs s), .int .i64 n, .string (bs u)] w fun e w' => e = .returned (.bool true) ∧ Below w.heap.size w w' := by
  have CW := Lib.hid (show ClkW w from ⟨hM, hP, hS⟩)
  have F1 := Lib.hid (fun w (hw : ClkW w) => show Calls Tryd.prog 28 #[.string { data := #[50, 48, 50, 54, 45, 49, 49, 45, 49, 53, 32, 49, 54, 58, 53, 57] }] w (fun e w' => e = .returned (.tuple #[.int .i64 66729179, .nilIface]) ∧ Below w.heap.size w w') from by
    have h := parse_any 2026 11 15 16 59 w hw.1 (by omega) (by omega) (by omega) (by omega) (by omega)
    rw [fact_time] at h; exact h)
  have F2 := Lib.hid (fun w (hw : ClkW w) => show Calls Tryd.prog 29 #[.string { data := #[45, 49, 100, 50, 104] }] w (fun e w' => e = .returned (.tuple #[.int .i64 (-1560), .nilIface]) ∧ Below w.heap.size w w') from by
    refine (span_any [45, 49, 100, 50, 104] w hw.2.1 hw.2.2 (by decide)).mono fun e w' h => ?_
    obtain ⟨v, h1, h2, h3⟩ := h
    have h4 := span_back (n := -1560) (by omega) (by omega)
    rw [fact_span] at h4
    obtain rfl := spanR_one h1 h4
    exact ⟨h2, h3⟩)
  obtain ⟨SB, hSB⟩ : ∃ x, x = bs s := ⟨_, rfl⟩
  obtain ⟨UB, hUB⟩ : ∃ x, x = bs u := ⟨_, rfl⟩
  rw [← hSB, ← hUB]
  have HS := Lib.hid hSB; have HU := Lib.hid hUB; have LS := Lib.hid hs; have LU := Lib.hid hu
  have B0 := Lib.hid (Below.refl w.heap.size w)
  clear hM hP hS hSB hUB hs hu
  go_enter Tryd.func6, Tryd.ntmps6
  go_wp2_with fail
  refine (F1.out _ CW.out).mono ?_; rintro e w1 ⟨rfl, hb1⟩
  have B1 := Lib.hid hb1
  have C1 := Lib.hid (CW.out.below hb1)
  clear hb1
  go_wp2_with fail
  refine (F2.out _ C1.out).mono ?_; rintro e w2 ⟨rfl, hb2⟩
  have B2 := Lib.hid (B1.out.trans (hb2.mono B1.out.size))
  have C2 := Lib.hid (C1.out.below hb2)
  clear hb2 F1 F2
  have EQ := eq_errV
  have EG := gd_errV
  go_wp2_with fail
  refine (print_q t w2 C2.out).mono ?_; rintro e w3 ⟨x, c, rfl, hb3, hor⟩
  have B3 := Lib.hid (B2.out.trans (hb3.mono B2.out.size))
  have C3 := Lib.hid (C2.out.below hb3)
  have OR := Lib.hid hor
  clear hb3 hor
  go_upto_if 63 with fail
  go_cut [] (fun wx => Below w3.heap.size w3 wx)
  case first => as_aux_lemma =>
    rcases OR.out with ⟨ht, rfl, y, m, d, hd, hn, hx⟩ | ⟨ht, hc⟩
    · have TV := Lib.hid ht
      obtain ⟨t1, t2⟩ := timeB_yes ht
      obtain ⟨a1, a2, a3, a4, a5, a6⟩ := date_lim hd
      have P1 := Lib.hid (fun w (hw : ClkW w) => show Calls Tryd.prog 28 #[.string x] w (fun e w' => e = .returned (.tuple #[.int .i64 t, .nilIface]) ∧ Below w.heap.size w w') from by
        have h := parse_any y.toNat m.toNat d.toNat (t % 1440 / 60).toNat (t % 60).toNat w hw.1 (by omega) (by omega) (by omega) (by omega) (by omega)
        rw [timeR_mk hd hn t1] at h; rw [hx]; exact h)
      have P2 := Lib.hid (fun w => split_yes t w TV.out)
      have P3 := Lib.hid (fun w (hw : ClkW w) => show Calls Tryd.prog 32 #[.int .i64 (t / 1440 + 1)] w (fun e w' => e = .returned (.tuple #[.agg #[.int .i64 y, .int .i64 m, .int .i64 d], .nilIface]) ∧ Below w.heap.size w w') from by
        rw [← hn]; exact date_num y m d w hw.1 hd)
      have P4 := Lib.hid (fun w (hw : ClkW w) => show Calls Tryd.prog 33 #[.agg #[.int .i64 y, .int .i64 m, .int .i64 d], .int .i64 (t % 1440)] w (fun e w' => e = .returned (.tuple #[.int .i64 t, .nilIface]) ∧ Below w.heap.size w w') from by
        have h := ctime_any y m d (t % 1440) w hw.1
        rw [clkT_mk hd hn t1] at h; exact h)
      have S0 := Lib.hid (Below.refl w3.heap.size w3)
      clear ht hd hn hx a1 a2 a3 a4 a5 a6
      go_wp2_with fail
      refine (P1.out _ C3.out).mono ?_; rintro e w4 ⟨rfl, hb4⟩
      have S4 := Lib.hid hb4
      clear hb4
      go_wp2_with fail
      refine (P2.out _).mono ?_; rintro e w5 ⟨rfl, rfl⟩
      go_wp2_with fail
      refine (P3.out _ (C3.out.below S4.out)).mono ?_; rintro e w5 ⟨rfl, hb5⟩
      have S5 := Lib.hid (S4.out.trans (hb5.mono S4.out.size))
      have hs5 := S5.out.size
      clear hb5
      go_wp2_with fail
      refine (P4.out _ (C3.out.below (S5.out.alloc hs5 _))).mono ?_; rintro e w6 ⟨rfl, hb6⟩
      have S6 := Lib.hid ((S5.out.alloc hs5 _).trans (hb6.mono (S5.out.alloc hs5 _).size))
      clear hb6
      go_wp2
      go_meet
      exact S6.out
    · clear ht
      go_wp2
      go_meet
      exact Below.refl _ _
  case rest =>
  have hb4 := hcut
  obtain ⟨w4, rfl⟩ : ∃ x, x = wc := ⟨_, rfl⟩
  have B4 := Lib.hid (B3.out.trans (hb4.mono B3.out.size))
  have C4 := Lib.hid (C3.out.below hb4)
  clear hb4 hcut OR
  have SL := Lib.hid (fun w (hw : ClkW w) => show Calls Tryd.prog 28 #[.string SB] w (ParseQ s w) from by rw [HS.out]; exact parse_q s w hw LS.out)
  go_wp2_with fail
  refine (SL.out w4 C4.out).mono ?_; rintro e w5 ⟨k5, c5, rfl, hb5, hor⟩
  have B5 := Lib.hid (B4.out.trans (hb5.mono B4.out.size))
  have C5 := Lib.hid (C4.out.below hb5)
  have OR := Lib.hid hor
  clear hb5 hor SL
  go_upto_if 116 with fail
  go_cut [] (fun wx => Below w5.heap.size w5 wx)
  case first => as_aux_lemma =>
    by_cases hc : c5 = 0
    · have PX := Lib.hid (fun w (hw : ClkW w) => show Calls Tryd.prog 30 #[.int .i64 k5] w (fun e w' => e = .returned (.tuple #[.string SB, .nilIface]) ∧ Below w.heap.size w w') from by
        obtain ⟨y, m, d, h, i, hs, h1, h2, h3, h4, h5, hv⟩ := OR.out hc
        obtain ⟨v1, v2, v3, v4, v5⟩ := timeR_of hv
        obtain ⟨-, -, n1, n2⟩ := Cal.num_bd v1
        refine (print_yes k5 w hw.1 hw.2.1 (timeB_mk v4 (by omega))).mono fun e w' hh => ?_
        obtain ⟨y', m', d', g1, g2, g3, g4⟩ := hh
        obtain ⟨e1, e2, e3⟩ := Cal.num_inj g1 v1 (by rw [g2]; omega)
        refine ⟨?_, g4⟩
        rw [g3, HS.out, hs, e1, e2, e3]
        rw [show ((y : Int)).toNat = y by omega, show ((m : Int)).toNat = m by omega, show ((d : Int)).toNat = d by omega, show (k5 % 1440 / 60).toNat = h by omega, show (k5 % 60).toNat = i by omega])
      subst hc
      go_wp2_with fail
      refine (PX.out _ C5.out).mono ?_; rintro e w6 ⟨rfl, hb6⟩
      have S6 := Lib.hid hb6
      clear hb6
      go_wp2
      go_meet
      exact S6.out
    · go_wp2
      go_meet
      exact Below.refl _ _
  case rest =>
  have hb6 := hcut
  obtain ⟨w6, rfl⟩ : ∃ x, x = wc := ⟨_, rfl⟩
  have B6 := Lib.hid (B5.out.trans (hb6.mono B5.out.size))
  have C6 := Lib.hid (C5.out.below hb6)
  clear hb6 hcut OR
  go_wp2_with fail
  refine (pspan_q n w6 C6.out).mono ?_; rintro e w7 ⟨x7, c7, rfl, hb7, hor⟩
  have B7 := Lib.hid (B6.out.trans (hb7.mono B6.out.size))
  have C7 := Lib.hid (C6.out.below hb7)
  have OR := Lib.hid hor
  clear hb7 hor
  go_upto_if 135 with fail
  go_cut [] (fun wx => Below w7.heap.size w7 wx)
  case first => as_aux_lemma =>
    by_cases hc : c7 = 0
    · have PX := Lib.hid (fun w (hw : ClkW w) => show Calls Tryd.prog 29 #[.string x7] w (fun e w' => e = .returned (.tuple #[.int .i64 n, .nilIface]) ∧ Below w.heap.size w w') from by
        obtain ⟨hx, h1, h2⟩ := OR.out hc
        rw [hx]
        refine (span_any (spanT n) w hw.2.1 hw.2.2 (by have := spanT_len h1 h2; omega)).mono fun e w' hh => ?_
        obtain ⟨v, g1, g2, g3⟩ := hh
        obtain rfl := spanR_one g1 (span_back h1 h2)
        exact ⟨g2, g3⟩)
      subst hc
      go_wp2_with fail
      refine (PX.out _ C7.out).mono ?_; rintro e w8 ⟨rfl, hb8⟩
      have S8 := Lib.hid hb8
      clear hb8
      go_wp2
      go_meet
      exact S8.out
    · go_wp2
      go_meet
      exact Below.refl _ _
  case rest =>
  have hb8 := hcut
  obtain ⟨w8, rfl⟩ : ∃ x, x = wc := ⟨_, rfl⟩
  have B8 := Lib.hid (B7.out.trans (hb8.mono B7.out.size))
  have C8 := Lib.hid (C7.out.below hb8)
  clear hb8 hcut OR
  have SU := Lib.hid (fun w (hw : ClkW w) => show Calls Tryd.prog 29 #[.string UB] w (SpanP u w) from by rw [HU.out]; exact span_any u w hw.2.1 hw.2.2 LU.out)
  go_wp2_with fail
  refine (SU.out w8 C8.out).mono ?_; rintro e w9 ⟨⟨k9, c9⟩, hsr, rfl, hb9⟩
  have B9 := Lib.hid (B8.out.trans (hb9.mono B8.out.size))
  have C9 := Lib.hid (C8.out.below hb9)
  have SR := Lib.hid hsr
  clear hb9 hsr SU
  go_upto_if 154 with fail
  go_cut [] (fun wx => Below w9.heap.size w9 wx)
  case first => as_aux_lemma =>
    by_cases hc : c9 = 0
    · have PX := Lib.hid (fun w (hw : ClkW w) => show Calls Tryd.prog 34 #[.int .i64 k9] w (fun e w' => e = .returned (.tuple #[.string UB, .nilIface]) ∧ Below w.heap.size w w') from by
        have hr := SR.out
        rw [hc] at hr
        obtain ⟨h1, h2, h3⟩ := span_print hr
        rw [HU.out, ← h3]
        exact ps_any k9 w hw.2.1 h1 h2)
      subst hc
      go_wp2_with fail
      refine (PX.out _ C9.out).mono ?_; rintro e w10 ⟨rfl, hb10⟩
      have S10 := Lib.hid hb10
      clear hb10
      go_wp2
      go_meet
      exact S10.out
    · go_wp2
      go_meet
      exact Below.refl _ _
  case rest =>
  have hb10 := hcut
  obtain ⟨w10, rfl⟩ : ∃ x, x = wc := ⟨_, rfl⟩
  have B10 := Lib.hid (B9.out.trans (hb10.mono B9.out.size))
  clear hb10 hcut SR EQ EG
  by_cases hadd : timeB t = true ∧ -157785120 ≤ n ∧ n ≤ 157785120 ∧ timeB (t + n) = true
  · obtain ⟨h1, h2, h3, h4⟩ := hadd
    have A1 := Lib.hid (add_yes t n w10 h1 h2 h3 h4)
    have A2 := Lib.hid (add_yes (t + n) (-n) w10 h4 (by omega) (by omega) (by rw [show t + n + -n = t by omega]; exact h1))
    rw [show t + n + -n = t by omega] at A2
    obtain ⟨l1, l2⟩ := timeB_yes h1
    clear h1 h4
    go_wp2_with fail
    refine A1.out.mono ?_; rintro e w11 ⟨rfl, rfl⟩
    go_wp2_with fail
    refine A2.out.mono ?_; rintro e w12 ⟨rfl, rfl⟩
    go_wp2
    go_ret
    exact ⟨rfl, B10.out⟩
  · have A1 := Lib.hid (add_no t n w10 (by
      by_cases h1 : timeB t = true
      · by_cases h2 : timeB (t + n) = true
        · rcases Int.lt_or_le n (-157785120) with h | h
          · exact .inr (.inl h)
          · rcases Int.lt_or_le 157785120 n with h' | h'
            · exact .inr (.inr (.inl h'))
            · exact absurd ⟨h1, h, h', h2⟩ hadd
        · exact .inr (.inr (.inr (by simpa using h2)))
      · exact .inl (by simpa using h1)))
    clear hadd
    go_wp2_with fail
    refine A1.out.mono ?_; rintro e w11 ⟨rfl, rfl⟩
    go_wp2
    go_ret
    exact ⟨rfl, B10.out⟩

end Go.Proofs.YtlinbdabkpgckaaDoor
