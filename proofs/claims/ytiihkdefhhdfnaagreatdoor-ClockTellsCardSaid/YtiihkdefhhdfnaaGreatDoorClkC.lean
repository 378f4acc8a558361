/- Contracts of clock.Time, ParseDate, Parse. Conditions: the table of months lies as it is laid. -/
import Derived.Test.YtiihkdefhhdfnaaGreatDoorClkB
namespace Go.Proofs.YtiihkdefhhdfnaaGreatDoor
open Go.RowKit Go.Shelf
set_option linter.unusedSimpArgs false
set_option linter.unusedVariables false

/-- the time of a date and a minute, or the fault. -/
def clkT (y m d i : Int) : Int × Int :=
  if Cal.dateB y m d = true ∧ 0 ≤ i ∧ i < 1440 ∧ 1 ≤ (Cal.num y m d - 1) * 1440 + i then ((Cal.num y m d - 1) * 1440 + i, 0) else (0, 1)

set_option maxHeartbeats 2000000 in
theorem ctime_any (y m d i : Int) (w : World) (hw : Months w) :
    Calls Tryz.prog 5 #[.agg #[.int .i64 y, .int .i64 m, .int .i64 d], .int .i64 i] w
      fun e w' => e = .returned (.tuple #[.int .i64 (clkT y m d i).1, errV (clkT y m d i).2]) ∧ Below w.heap.size w w' := by
  have MW := Lib.hid (hw.alloc (.cells #[.int .i64 y, .int .i64 m, .int .i64 d] 23))
  have BA := Lib.hid ((Below.refl w.heap.size w).alloc (Nat.le_refl _) (.cells #[.int .i64 y, .int .i64 m, .int .i64 d] 23))
  clear hw
  cases hd : Cal.dateB y m d
  · have E := Lib.hid (show clkT y m d i = (0, 1) by rw [clkT, if_neg]; rw [hd]; rintro ⟨h, -⟩; cases h)
    have C := Lib.hid (of_no y m d _ MW.out hd)
    clear hd
    go_enter Tryz.func5, Tryz.ntmps5
    go_wp2_with fail
    refine C.out.mono ?_; rintro e w1 ⟨rfl, hb1⟩
    have B1 := Lib.hid (BA.out.trans (hb1.mono BA.out.size)); clear hb1
    go_wp2
    go_ret2
    exact ⟨by rw [E.out]; rfl, B1.out⟩
  · have C := Lib.hid (of_yes y m d _ MW.out hd)
    obtain ⟨-, -, n1, n2⟩ := Cal.num_bd hd
    obtain ⟨n, hn⟩ : ∃ n, n = Cal.num y m d := ⟨_, rfl⟩
    have EQ := Lib.hid (show clkT y m d i = if 0 ≤ i ∧ i < 1440 ∧ 1 ≤ (n - 1) * 1440 + i then ((n - 1) * 1440 + i, 0) else (0, 1) by rw [clkT, ← hn]; simp [hd])
    rw [← hn] at C n1 n2
    clear hd hn
    by_cases h1 : i < 0
    · have E := Lib.hid (show clkT y m d i = (0, 1) by rw [EQ.out, if_neg (by omega)])
      go_enter Tryz.func5, Tryz.ntmps5
      go_wp2_with fail
      refine C.out.mono ?_; rintro e w1 ⟨rfl, hb1⟩
      have B1 := Lib.hid (BA.out.trans (hb1.mono BA.out.size)); clear hb1
      go_wp2
      go_ret2
      exact ⟨by rw [E.out]; rfl, B1.out⟩
    by_cases h2 : 1440 ≤ i
    · have E := Lib.hid (show clkT y m d i = (0, 1) by rw [EQ.out, if_neg (by omega)])
      go_enter Tryz.func5, Tryz.ntmps5
      go_wp2_with fail
      refine C.out.mono ?_; rintro e w1 ⟨rfl, hb1⟩
      have B1 := Lib.hid (BA.out.trans (hb1.mono BA.out.size)); clear hb1
      go_wp2
      go_ret2
      exact ⟨by rw [E.out]; rfl, B1.out⟩
    have h1b : 0 ≤ i := by omega
    have h2b : i < 1440 := by omega
    clear h1 h2
    by_cases h3 : 1 ≤ (n - 1) * 1440 + i
    · have E := Lib.hid (show clkT y m d i = ((n - 1) * 1440 + i, 0) by rw [EQ.out, if_pos ⟨h1b, h2b, h3⟩])
      have V := Lib.hid (fun w => valid_yes ((n - 1) * 1440 + i) w (timeB_mk h3 (by omega)))
      go_enter Tryz.func5, Tryz.ntmps5
      go_wp2_with fail
      refine C.out.mono ?_; rintro e w1 ⟨rfl, hb1⟩
      have B1 := Lib.hid (BA.out.trans (hb1.mono BA.out.size)); clear hb1
      go_wp2_with fail
      refine (V.out _).mono ?_; rintro e w2 ⟨rfl, rfl⟩
      go_wp2
      go_ret2
      exact ⟨by rw [E.out]; rfl, B1.out⟩
    · have E := Lib.hid (show clkT y m d i = (0, 1) by rw [EQ.out, if_neg (by omega)])
      have V := Lib.hid (fun w => valid_no ((n - 1) * 1440 + i) w (timeB_mk_no (by omega)))
      go_enter Tryz.func5, Tryz.ntmps5
      go_wp2_with fail
      refine C.out.mono ?_; rintro e w1 ⟨rfl, hb1⟩
      have B1 := Lib.hid (BA.out.trans (hb1.mono BA.out.size)); clear hb1
      go_wp2_with fail
      refine (V.out _).mono ?_; rintro e w2 ⟨rfl, rfl⟩
      go_wp2
      go_ret2
      exact ⟨by rw [E.out]; rfl, B1.out⟩

theorem below_nx {a b c : World} (h : Below a.heap.size a b) (hb : Below b.heap.size b c) : Below a.heap.size a c := h.trans (hb.mono h.size)

/-- a new date's three cells. -/
def Dat3 (w : World) (b : Nat) (y m d : Int) : Prop :=
  w.cell? ⟨b, 0, none⟩ = some (.int .i64 y) ∧ w.cell? ⟨b, 1, none⟩ = some (.int .i64 m) ∧ w.cell? ⟨b, 2, none⟩ = some (.int .i64 d) ∧ w.frozen? ⟨b, 0, none⟩ = false ∧ w.frozen? ⟨b, 1, none⟩ = false ∧ w.frozen? ⟨b, 2, none⟩ = false

theorem dat3_new (w : World) (y m d : Int) (t : TypeId) : Dat3 (w.alloc (.cells #[.int .i64 y, .int .i64 m, .int .i64 d] t)) w.heap.size y m d := by
  refine ⟨?_, ?_, ?_, ?_, ?_, ?_⟩ <;> simp

theorem frozen_below {w w' : World} {p : Addr} {b : Bool} (hb : Below w.heap.size w w') (hp : p.block < w.heap.size) (h : w.frozen? p = b) : w'.frozen? p = b := (hb.frozen hp).trans h

theorem dat3_below {w w' : World} {b : Nat} {y m d : Int} (h : Dat3 w b y m d) (hb : Below w.heap.size w w') : Dat3 w' b y m d := by
  have hp := World.block_lt_of_cell? w _ h.1
  exact ⟨cell_below hb h.1, cell_below hb h.2.1, cell_below hb h.2.2.1, frozen_below hb hp h.2.2.2.1, frozen_below hb hp h.2.2.2.2.1, frozen_below hb hp h.2.2.2.2.2⟩

theorem dat3_set {w : World} {b : Nat} {x y z y' m' d' : Int} (h : Dat3 w b x y z) : Dat3 (((w.setCell ⟨b, 0, none⟩ (.int .i64 y')).setCell ⟨b, 1, none⟩ (.int .i64 m')).setCell ⟨b, 2, none⟩ (.int .i64 d')) b y' m' d' := by
  obtain ⟨h0, h1, h2, h3, h4, h5⟩ := h
  have ne : ∀ {i j : Nat}, i ≠ j → (⟨b, i, none⟩ : Addr) ≠ ⟨b, j, none⟩ := fun h e => h (congrArg Addr.off e)
  have q1 : (w.setCell ⟨b, 0, none⟩ (.int .i64 y')).cell? ⟨b, 1, none⟩ = some (.int .i64 y) := (World.cell?_setCell_other _ _ _ _ (ne (show 0 ≠ 1 by decide))).trans h1
  have q2 : ((w.setCell ⟨b, 0, none⟩ (.int .i64 y')).setCell ⟨b, 1, none⟩ (.int .i64 m')).cell? ⟨b, 2, none⟩ = some (.int .i64 z) := (World.cell?_setCell_other _ _ _ _ (ne (show 1 ≠ 2 by decide))).trans ((World.cell?_setCell_other _ _ _ _ (ne (show 0 ≠ 2 by decide))).trans h2)
  refine ⟨?_, ?_, ?_, ?_, ?_, ?_⟩
  · exact (World.cell?_setCell_other _ _ _ _ (ne (show 2 ≠ 0 by decide))).trans ((World.cell?_setCell_other _ _ _ _ (ne (show 1 ≠ 0 by decide))).trans (World.cell?_setCell_same _ _ _ h0))
  · exact (World.cell?_setCell_other _ _ _ _ (ne (show 2 ≠ 1 by decide))).trans (World.cell?_setCell_same _ _ _ q1)
  · exact World.cell?_setCell_same _ _ _ q2
  all_goals (simp only [World.frozen?_setCell]; assumption)

theorem below_st3 {a w v : World} {x y z : Value} (h : Below a.heap.size a w) (hv : Below a.heap.size a v) : Below a.heap.size a (((w.setCell ⟨v.heap.size, 0, none⟩ x).setCell ⟨v.heap.size, 1, none⟩ y).setCell ⟨v.heap.size, 2, none⟩ z) :=
  ((h.setCell hv.size _).setCell hv.size _).setCell hv.size _

theorem numA {f : FuncId} {args : Array Value} {v : Value} {y m d : Int} {t : TypeId} (h : ∀ w, Calls Tryz.prog f args w (fun e w' => e = .returned v ∧ Below w.heap.size w w')) {w : World} :
    Calls Tryz.prog f args (w.alloc (.cells #[.int .i64 y, .int .i64 m, .int .i64 d] t)) (fun e w' => e = .returned v ∧ Below (w.alloc (.cells #[.int .i64 y, .int .i64 m, .int .i64 d] t)).heap.size (w.alloc (.cells #[.int .i64 y, .int .i64 m, .int .i64 d] t)) w' ∧ Dat3 w' w.heap.size y m d) :=
  (h _).mono fun _ _ h => ⟨h.1, h.2, dat3_below (dat3_new _ _ _ _ _) h.2⟩

theorem numW {f : FuncId} {args : Array Value} {v : Value} {y m d : Int} {t : TypeId} (h : ∀ w, Calls Tryz.prog f args w (fun e w' => e = .returned v ∧ Below w.heap.size w w')) {w : World} :
    Calls Tryz.prog f args (w.drew.alloc (.cells #[.int .i64 y, .int .i64 m, .int .i64 d] t)) (fun e w' => e = .returned v ∧ Below (w.drew.alloc (.cells #[.int .i64 y, .int .i64 m, .int .i64 d] t)).heap.size (w.drew.alloc (.cells #[.int .i64 y, .int .i64 m, .int .i64 d] t)) w' ∧ Dat3 w' w.heap.size y m d) := numA h

theorem numE {f : FuncId} {args : Array Value} {v : Value} {y m d : Int} {t : TypeId} (h : ∀ w, Calls Tryz.prog f args w (fun e w' => e = .returned v ∧ Below w.heap.size w w')) {w : World} :
    Calls Tryz.prog f args (w.alloc (.cells #[.int .i64 y, .int .i64 m, .int .i64 d] t)).drew (fun e w' => e = .returned v ∧ Below (w.alloc (.cells #[.int .i64 y, .int .i64 m, .int .i64 d] t)).heap.size (w.alloc (.cells #[.int .i64 y, .int .i64 m, .int .i64 d] t)) w' ∧ Dat3 w' w.heap.size y m d) :=
  (h _).mono fun _ _ h => ⟨h.1, (Below.refl _ (w.alloc (.cells #[.int .i64 y, .int .i64 m, .int .i64 d] t))).drew.trans h.2, dat3_below (dat3_new w.drew _ _ _ _) h.2⟩

theorem numD {f : FuncId} {args : Array Value} {v : Value} {b : Nat} {y m d : Int} {w : World} (h : ∀ w, Calls Tryz.prog f args w (fun e w' => e = .returned v ∧ Below w.heap.size w w')) (hd : Dat3 w b y m d) :
    Calls Tryz.prog f args w (fun e w' => e = .returned v ∧ Below w.heap.size w w' ∧ Dat3 w' b y m d) :=
  (h _).mono fun _ _ h => ⟨h.1, h.2, dat3_below hd h.2⟩

theorem below_al {B : Nat} {a w : World} (h : Below B a w) (hB : B ≤ a.heap.size) (o : Obj) : Below B a (w.alloc o) := h.alloc (Nat.le_trans hB h.size) o

/-- the date that a text says, or the fault. -/
def pdtV (y m d : Nat) : Value := if Cal.dateB y m d = true then .tuple #[.agg #[.int .i64 y, .int .i64 m, .int .i64 d], .nilIface] else .tuple #[.agg #[.int .i64 0, .int .i64 0, .int .i64 0], .iface 44 (.int .i64 1)]

set_option maxRecDepth 100000 in
set_option maxHeartbeats 4000000 in
theorem pdt_any (y m d : Nat) (w : World) (hw : Months w) (hy : y < 10000) (hm : m < 100) (hd : d < 100) :
    Calls Tryz.prog 32 #[.string (bs (dateT y m d))] w
      fun e w' => e = .returned (pdtV y m d) ∧ Below w.heap.size w w' := by
  obtain ⟨s, hs⟩ : ∃ s, s = bs (dateT y m d) := ⟨_, rfl⟩
  have SH := Lib.hid (fun w => show Calls Tryz.prog 31 #[.string s, .string { data := #[48, 48, 48, 48, 45, 48, 48, 45, 48, 48] }] w (fun e w' => e = .returned (.bool true) ∧ Below w.heap.size w w') from by
    rw [hs, show ({ data := #[48, 48, 48, 48, 45, 48, 48, 45, 48, 48] } : ByteArray) = bs form10 from rfl]
    exact (shaped_any _ _ w (by simp [dateT, d2_len]) (by decide)).mono fun e w' h => ⟨by rw [h.1, sh_date10 hy hm hd], h.2⟩)
  have sz : s.size = 10 := by rw [hs, bs_size]; simp [dateT, d2_len]
  have N1 := Lib.hid (fun w => show Calls Tryz.prog 33 #[.string (s.extract 0 4)] w (fun e w' => e = .returned (.int .i64 y) ∧ Below w.heap.size w w') from by
    rw [hs, bs_extract]; exact number_any _ y w (by exact d4_num hy) (by simp [dateT, d2]))
  have N2 := Lib.hid (fun w => show Calls Tryz.prog 33 #[.string (s.extract 5 7)] w (fun e w' => e = .returned (.int .i64 m) ∧ Below w.heap.size w w') from by
    rw [hs, bs_extract]; exact number_any _ m w (by exact d2_num hm) (by simp [dateT, d2]))
  have N3 := Lib.hid (fun w => show Calls Tryz.prog 33 #[.string (s.extract 8 10)] w (fun e w' => e = .returned (.int .i64 d) ∧ Below w.heap.size w w') from by
    rw [hs, bs_extract]; exact number_any _ d w (by exact d2_num hd) (by simp [dateT, d2]))
  have MW := Lib.hid hw
  rw [← hs]
  clear hs hw
  go_enter Tryz.func32, Tryz.ntmps32
  go_wp2_with fail
  refine (SH.out _).mono ?_; rintro e w1 ⟨rfl, hb1⟩
  have B1 := Lib.hid hb1; clear hb1
  go_upto_region 3 with fail
  have S0 := Lib.hid (Below.refl w1.heap.size w1)
  go_cut [4] (fun s4 wx => ∃ b, s4 = .pointer (some ⟨b, 0, none⟩) ∧ wx.cell? ⟨b, 0, none⟩ = some (.int .i64 y) ∧ wx.cell? ⟨b, 1, none⟩ = some (.int .i64 m) ∧ wx.cell? ⟨b, 2, none⟩ = some (.int .i64 d) ∧ Below w1.heap.size w1 wx)
  case first =>
    go_region_held3 (fun w' => Below w1.heap.size w1 w')
      (first | exact S0.out | exact S0.out.drew | exact below_al (by assumption) (Nat.le_refl _) _ | exact below_nx (by assumption) (by assumption) | exact below_al (below_nx (below_nx (below_nx S0.out.drew (by assumption)) (by assumption)) (by assumption)) (Nat.le_refl _) _ | exact below_nx (S0.out.alloc (Nat.le_refl _) _) (by assumption) | exact below_nx (below_al S0.out.drew (Nat.le_refl _) _) (by assumption) | exact below_st3 (by assumption) S0.out | exact below_st3 (by assumption) (below_nx S0.out.drew (by assumption)) | exact below_st3 (by assumption) (below_nx (below_nx S0.out.drew (by assumption)) (by assumption)))
      (first
        | (go_at_call 33; (with_reducible refine (numW N1.out).mono ?_); rintro e w' ⟨rfl, hb, hd1⟩; have hd2 := hd1; obtain ⟨z0, z1, z2, z3, z4, z5⟩ := hd2)
        | (go_at_call 33; (with_reducible refine (numE N1.out).mono ?_); rintro e w' ⟨rfl, hb, hd1⟩; have hd2 := hd1; obtain ⟨z0, z1, z2, z3, z4, z5⟩ := hd2)
        | (go_at_call 33; (with_reducible refine (numA N1.out).mono ?_); rintro e w' ⟨rfl, hb, hd1⟩; have hd2 := hd1; obtain ⟨z0, z1, z2, z3, z4, z5⟩ := hd2)
        | (go_at_call 33; rename Dat3 _ _ _ _ _ => hd0; (with_reducible refine (numD N1.out hd0).mono ?_); rintro e w' ⟨rfl, hb, hd1⟩; have hd2 := hd1; obtain ⟨z0, z1, z2, z3, z4, z5⟩ := hd2)
        | (go_at_call 33; (with_reducible refine (N1.out _).mono ?_); rintro e w' ⟨rfl, hb⟩)
        | (go_at_call 33; (with_reducible refine (numW N2.out).mono ?_); rintro e w' ⟨rfl, hb, hd1⟩; have hd2 := hd1; obtain ⟨z0, z1, z2, z3, z4, z5⟩ := hd2)
        | (go_at_call 33; (with_reducible refine (numE N2.out).mono ?_); rintro e w' ⟨rfl, hb, hd1⟩; have hd2 := hd1; obtain ⟨z0, z1, z2, z3, z4, z5⟩ := hd2)
        | (go_at_call 33; (with_reducible refine (numA N2.out).mono ?_); rintro e w' ⟨rfl, hb, hd1⟩; have hd2 := hd1; obtain ⟨z0, z1, z2, z3, z4, z5⟩ := hd2)
        | (go_at_call 33; rename Dat3 _ _ _ _ _ => hd0; (with_reducible refine (numD N2.out hd0).mono ?_); rintro e w' ⟨rfl, hb, hd1⟩; have hd2 := hd1; obtain ⟨z0, z1, z2, z3, z4, z5⟩ := hd2)
        | (go_at_call 33; (with_reducible refine (N2.out _).mono ?_); rintro e w' ⟨rfl, hb⟩)
        | (go_at_call 33; (with_reducible refine (numW N3.out).mono ?_); rintro e w' ⟨rfl, hb, hd1⟩; have hd2 := hd1; obtain ⟨z0, z1, z2, z3, z4, z5⟩ := hd2)
        | (go_at_call 33; (with_reducible refine (numE N3.out).mono ?_); rintro e w' ⟨rfl, hb, hd1⟩; have hd2 := hd1; obtain ⟨z0, z1, z2, z3, z4, z5⟩ := hd2)
        | (go_at_call 33; (with_reducible refine (numA N3.out).mono ?_); rintro e w' ⟨rfl, hb, hd1⟩; have hd2 := hd1; obtain ⟨z0, z1, z2, z3, z4, z5⟩ := hd2)
        | (go_at_call 33; rename Dat3 _ _ _ _ _ => hd0; (with_reducible refine (numD N3.out hd0).mono ?_); rintro e w' ⟨rfl, hb, hd1⟩; have hd2 := hd1; obtain ⟨z0, z1, z2, z3, z4, z5⟩ := hd2)
        | (go_at_call 33; (with_reducible refine (N3.out _).mono ?_); rintro e w' ⟨rfl, hb⟩))
    all_goals
      go_wp2
      go_meet
      first
        | exact ⟨_, rfl, (dat3_new _ _ _ _ _).1, (dat3_new _ _ _ _ _).2.1, (dat3_new _ _ _ _ _).2.2.1, by assumption⟩
        | exact ⟨_, rfl, (dat3_set hd1).1, (dat3_set hd1).2.1, (dat3_set hd1).2.2.1, by assumption⟩
  case rest =>
  obtain ⟨b, rfl, c0, c1, c2, hb2⟩ := hcut
  obtain ⟨w2, rfl⟩ : ∃ x, x = wc := ⟨_, rfl⟩
  have hA : Below w.heap.size w (w.alloc (.cells #[.int .i64 0, .int .i64 0, .int .i64 0] 23)) := (Below.refl _ w).alloc (Nat.le_refl _) _
  have hB2 : Below w.heap.size w w2 := (hA.trans (B1.out.mono hA.size)).trans (hb2.mono (hA.trans (B1.out.mono hA.size)).size)
  have RZ := Lib.hid (dat3_below (dat3_below (dat3_new w 0 0 0 23) B1.out) hb2)
  have MW2 := Lib.hid (MW.out.below hB2)
  have B2 := Lib.hid hB2
  clear hb2 S0 hA hB2
  cases hq : Cal.dateB y m d
  · have C := Lib.hid (of_no y m d w2 MW2.out hq)
    have E := Lib.hid (show pdtV y m d = .tuple #[.agg #[.int .i64 0, .int .i64 0, .int .i64 0], .iface 44 (.int .i64 1)] by rw [pdtV, hq]; rfl); clear hq
    go_wp2_with fail
    refine C.out.mono ?_; rintro e w3 ⟨rfl, hb3⟩
    have B3 := Lib.hid (B2.out.trans (hb3.mono B2.out.size))
    obtain ⟨r0, r1, r2, r3, r4, r5⟩ := dat3_below RZ.out hb3
    have RZ3 := Lib.hid (dat3_below RZ.out hb3)
    clear hb3
    go_wp2
    exact bodyPost_ret (v := .tuple #[.agg #[.int .i64 0, .int .i64 0, .int .i64 0], .iface 44 (.int .i64 1)]) (by simp [results, Tryz.results32, go_sem, r0, r1, r2]) rfl ⟨by rw [E.out], by first | exact B3.out | exact ((B3.out.setCell (Nat.le_refl _) _).setCell (Nat.le_refl _) _).setCell (Nat.le_refl _) _⟩
  · have C := Lib.hid (of_yes y m d w2 MW2.out hq)
    have E := Lib.hid (show pdtV y m d = .tuple #[.agg #[.int .i64 y, .int .i64 m, .int .i64 d], .nilIface] by rw [pdtV, hq]; rfl); clear hq
    go_wp2_with fail
    refine C.out.mono ?_; rintro e w3 ⟨rfl, hb3⟩
    have B3 := Lib.hid (B2.out.trans (hb3.mono B2.out.size))
    obtain ⟨r0, r1, r2, r3, r4, r5⟩ := dat3_below RZ.out hb3
    have RZ3 := Lib.hid (dat3_below RZ.out hb3)
    have c0 := cell_below hb3 c0
    have c1 := cell_below hb3 c1
    have c2 := cell_below hb3 c2
    clear hb3
    go_wp2
    obtain ⟨s0, s1, s2, -⟩ := dat3_set (y' := y) (m' := m) (d' := d) RZ3.out
    exact bodyPost_ret (v := .tuple #[.agg #[.int .i64 y, .int .i64 m, .int .i64 d], .nilIface]) (by simp [results, Tryz.results32, go_sem, s0, s1, s2]) rfl ⟨by rw [E.out], ((B3.out.setCell (Nat.le_refl _) _).setCell (Nat.le_refl _) _).setCell (Nat.le_refl _) _⟩

end Go.Proofs.YtiihkdefhhdfnaaGreatDoor
