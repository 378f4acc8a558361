/- What the law ClockTells asks of the clock's functions and of the reference's. -/
import Derived.Test.YtiihkdefhhdfnaaGreatDoorRefCc
import Derived.Test.YtiihkdefhhdfnaaGreatDoorRefCd
import Derived.Test.YtiihkdefhhdfnaaGreatDoorClkG
import Derived.Test.YtiihkdefhhdfnaaGreatDoorErr
namespace Go.Proofs.YtiihkdefhhdfnaaGreatDoor
open Go.RowKit Go.Shelf
set_option linter.unusedSimpArgs false
set_option linter.unusedVariables false

theorem errV_ne {c : Int} (h : c ≠ 0) : errV c = .iface 44 (.int .i64 c) := by rw [errV, if_neg h]

/-- what the law needs of the world. -/
def ClkW (w : World) : Prop := Months w ∧ PowT w ∧ SynT w ∧ ErrT w

theorem ClkW.below {w w' : World} (h : ClkW w) (hb : Below w.heap.size w w') : ClkW w' := ⟨h.1.below hb, h.2.1.below hb, h.2.2.1.below hb, h.2.2.2.below hb⟩

theorem eq_errV (c : Int) (w : World) : (binOp .eql 26 (errV c) .nilIface).run Tryz.prog w = .ok (.bool (decide (c = 0))) w := by
  by_cases h : c = 0
  · subst h
    rw [errV_0, run_eql_nil_nil w 26 (by kernel_rfl)]; rfl
  · rw [errV_ne h, run_eql_held_nil w 26 _ _ (by kernel_rfl), decide_eq_false h]

theorem gd_errV (c : Int) (o : Operand) (v : Value) (w : World) : (eqGuard .eql 26 o (.const v) (errV c) .nilIface).run Tryz.prog w = .ok () w := by
  by_cases h : c = 0
  · subst h; rw [errV_0]; simp [eqGuard, go_sem]
  · rw [errV_ne h]; simp [eqGuard, go_sem]

/-- Print and Show tell the same. -/
theorem print_show (t : Int) (ht : timeB t = true) : ∃ X : ByteArray, X.size ≤ 40 ∧
    (∀ w, Calls Tryz.prog 8 #[.int .i64 t] w fun e w' => e = .returned (.string X) ∧ Below w.heap.size w w') ∧
    (∀ w, ClkW w → Calls Tryz.prog 10 #[.int .i64 t] w fun e w' => e = .returned (.tuple #[.string X, .nilIface]) ∧ Below w.heap.size w w') := by
  obtain ⟨t1, t2⟩ := timeB_yes ht
  obtain ⟨y, m, d, h1, h2⟩ := Cal.ex_date (t / 1440 + 1) (by omega) (by omega)
  refine ⟨_, ?_, fun w => rshow_any t w ht y m d h1 h2, fun w hw => (print_yes t w hw.1 hw.2.1 ht).mono fun e w' hh => ?_⟩
  · rw [bs_size, time_len]; omega
  · obtain ⟨y', m', d', g1, g2, g3, g4⟩ := hh
    obtain ⟨e1, e2, e3⟩ := Cal.num_inj g1 h1 (by rw [g2, h2])
    subst e1 e2 e3
    exact ⟨g3, g4⟩

/-- the three of a time's parts: the day, the minute, the text; the fault. -/
theorem parts_q (t : Int) : ∃ (a b c : Int) (X : ByteArray), (timeB t = true → a = t / 1440 + 1 ∧ b = t % 1440 ∧ c = 0 ∧ ∀ w, Calls Tryz.prog 8 #[.int .i64 t] w fun e w' => e = .returned (.string X) ∧ Below w.heap.size w w') ∧
    (timeB t = false → a = 0 ∧ b = 0 ∧ c = 1 ∧ X = { data := #[] }) ∧ X.size ≤ 40 ∧
    (∀ w, Calls Tryz.prog 9 #[.int .i64 t] w fun e w' => e = .returned (.tuple #[.int .i64 a, .int .i64 b, errV c]) ∧ w = w') ∧
    (∀ w, ClkW w → Calls Tryz.prog 10 #[.int .i64 t] w fun e w' => e = .returned (.tuple #[.string X, errV c]) ∧ Below w.heap.size w w') := by
  cases h : timeB t
  · refine ⟨0, 0, 1, { data := #[] }, fun x => by (cases x), fun _ => ⟨rfl, rfl, rfl, rfl⟩, by decide, fun w => split_no t w h, fun w _ => (print_no t w h).mono fun e w' hh => ⟨hh.1, by rw [hh.2]; exact Below.refl _ _⟩⟩
  · obtain ⟨X, h1, h2, h3⟩ := print_show t h
    exact ⟨t / 1440 + 1, t % 1440, 0, X, fun _ => ⟨rfl, rfl, rfl, h2⟩, fun x => by (cases x), h1, fun w => split_yes t w h, h3⟩

/-- so many minutes later: the time, or the fault. -/
theorem add_q (t n : Int) : ∃ (c k : Int), (timeB t = true → -200000000 ≤ n → n ≤ 200000000 → timeB (t + n) = true → c = 0 ∧ k = t + n) ∧
    (¬ (timeB t = true ∧ -200000000 ≤ n ∧ n ≤ 200000000 ∧ timeB (t + n) = true) → c = 1 ∧ k = 0) ∧
    (∀ w, Calls Tryz.prog 13 #[.int .i64 t, .int .i64 n] w fun e w' => e = .returned (.tuple #[.int .i64 k, errV c]) ∧ w = w') := by
  by_cases h : timeB t = true ∧ -200000000 ≤ n ∧ n ≤ 200000000 ∧ timeB (t + n) = true
  · obtain ⟨h1, h2, h3, h4⟩ := h
    obtain ⟨a1, a2⟩ := timeB_yes h1
    obtain ⟨b1, b2⟩ := timeB_yes h4
    exact ⟨0, t + n, fun _ _ _ _ => ⟨rfl, rfl⟩, fun x => absurd ⟨h1, h2, h3, h4⟩ x, fun w => add_yes t n w h1 (by omega) (by omega) h4⟩
  · refine ⟨1, 0, fun a b c d => absurd ⟨a, b, c, d⟩ h, fun _ => ⟨rfl, rfl⟩, fun w => add_no t n w ?_⟩
    by_cases h1 : timeB t = true
    · by_cases h2 : timeB (t + n) = true
      · rcases Int.lt_or_le n (-157785120) with h3 | h3
        · exact .inr (.inl h3)
        · rcases Int.lt_or_le 157785120 n with h4 | h4
          · exact .inr (.inr (.inl h4))
          · exact absurd ⟨h1, by omega, by omega, h2⟩ h
      · exact .inr (.inr (.inr (by simpa using h2)))
    · exact .inl (by simpa using h1)

/-- the text of a span; the fault. -/
theorem pspan_q (n : Int) : ∃ (c : Int) (X : ByteArray), (n < -1000000 ∨ 1000000 < n → c = 1 ∧ X = { data := #[] }) ∧
    (¬ (n < -1000000 ∨ 1000000 < n) → c = 0 ∧ ∀ w, Calls Tryz.prog 14 #[.int .i64 n] w fun e w' => e = .returned (.string X) ∧ w = w') ∧
    (∀ w, ClkW w → Calls Tryz.prog 15 #[.int .i64 n] w fun e w' => e = .returned (.tuple #[.string X, errV c]) ∧ Below w.heap.size w w') := by
  by_cases h : n < -1000000 ∨ 1000000 < n
  · exact ⟨1, { data := #[] }, fun _ => ⟨rfl, rfl⟩, fun x => absurd h x, fun w _ => (ps_no n w h).mono fun e w' hh => ⟨hh.1, by rw [hh.2]; exact Below.refl _ _⟩⟩
  · exact ⟨0, bs (spanT n), fun x => absurd x h, fun _ => ⟨rfl, fun w => rspant_any n w (by omega) (by omega)⟩, fun w hw => ps_any n w hw.2.1 (by omega) (by omega)⟩

/-- Parse and Read tell the same. -/
theorem parse_read (s : List UInt8) (hs : s.length ≤ 9223372036854775807) : ∃ v : Int × Int,
    (∀ w, Calls Tryz.prog 11 #[.string (bs s)] w fun e w' => e = .returned (.tuple #[.int .i64 v.1, .int .i64 v.2]) ∧ Below w.heap.size w w') ∧
    (∀ w, ClkW w → Calls Tryz.prog 12 #[.string (bs s)] w fun e w' => e = .returned (.tuple #[.int .i64 v.1, errV v.2]) ∧ Below w.heap.size w w') := by
  cases h : shB s form16
  · exact ⟨(0, 2), fun w => rread_no s w hs h, fun w _ => parse_no s w hs h⟩
  · obtain ⟨y, m, d, hh, i, h1, h2, h3, h4, h5, rfl⟩ := sh16 h
    exact ⟨timeR y m d hh i, fun w => rread_yes y m d hh i w h1 h2 h3 h4 h5, fun w hw => parse_any y m d hh i w hw.1 h1 h2 h3 h4 h5⟩

/-- Span and ReadSpan tell the same. -/
theorem span_read (u : List UInt8) (w w' : World) (hu : u.length ≤ 9223372036854775807) (hw : ClkW w') (e : Ending) (wr : World) (h : RSpanP u w e wr) :
    ∃ v : Int × Int, e = .returned (.tuple #[.int .i64 v.1, .int .i64 v.2]) ∧ w = wr ∧ Calls Tryz.prog 17 #[.string (bs u)] w' (fun e w2 => e = .returned (.tuple #[.int .i64 v.1, errV v.2]) ∧ Below w'.heap.size w' w2) := by
  obtain ⟨v, h1, h2, h3⟩ := h
  refine ⟨v, h2, h3, (span_any u w' hw.2.1 hw.2.2.1 hu).mono fun e w2 hh => ?_⟩
  obtain ⟨v2, g1, g2, g3⟩ := hh
  obtain rfl := spanR_one g1 h1
  exact ⟨g2, g3⟩

end Go.Proofs.YtiihkdefhhdfnaaGreatDoor
