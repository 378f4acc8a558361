/- The law SeqHolds: the walk. Conditions: the table of months. (printed by gen_seqholds.py) -/
import Derived.Test.YtdpngbjlljgoaaaDoorSeqL
import Derived.BigQuiet
namespace Go.Proofs.YtdpngbjlljgoaaaDoor
open Go.RowKit Go.Shelf
set_option linter.unusedSimpArgs false
set_option linter.unusedVariables false

theorem thuF : ruleF 4 1 0 0 [11] [] [(4, 4)] [] = 0 := by decide

/-- the worlds ahead of the first call: the rule's box; the months; the weeks. -/
theorem thu_laid (w0 : World) : IntsR (((w0.alloc (.cells #[.int .i64 11] 3)).alloc (.cells #[.int .i64 4, .int .i64 4] 31))) (.slice (some ⟨w0.heap.size, 0, none⟩) 1 1) [11] ∧
    PairsR (((w0.alloc (.cells #[.int .i64 11] 3)).alloc (.cells #[.int .i64 4, .int .i64 4] 31))) (.slice (some ⟨w0.heap.size + 1, 0, none⟩) 1 1) [(4, 4)] := by
  refine ⟨(intsR_of_owns (L := [11]) (owns_one w0 3 (.int .i64 11))).below ((Below.refl _ _).alloc (Nat.le_refl _) _), ?_⟩
  refine ⟨_, 1, rfl, rfl, Nat.le_refl _, by decide, fun _ => ⟨w0.heap.size + 1, 0, rfl, fun j u hj => ?_⟩⟩
  have hn := heap_alloc_new (w0.alloc (.cells #[.int .i64 11] 3)) (.cells #[.int .i64 4, .int .i64 4] 31)
  rw [World.size_alloc] at hn
  match j, hj with
  | 0, hj => simp [pairsV] at hj; subst hj; simp only [World.cell?, hn]; rfl
  | 1, hj => simp [pairsV] at hj; subst hj; simp only [World.cell?, hn]; rfl
  | j + 2, hj => simp [pairsV] at hj

set_option maxRecDepth 100000 in
set_option maxHeartbeats 4000000 in
theorem seqHolds_bad (fr ev ct ti st n y mm d : Int) (vm vd vw vp : Value) (mo da : List Int) (we : List (Int × Int)) (pk : List Int) (w : World) (hw : Months w)
    (h1 : IntsR w vm mo) (h2 : IntsR w vd da) (h3 : PairsR w vw we) (h4 : IntsR w vp pk) (hF : seqF (ruleF fr ev ct ti mo da we pk) st ≠ 0) :
    Calls Tryd.prog 3 #[.agg #[.int .i64 fr, .int .i64 ev, .int .i64 ct, .int .i64 ti, vm, vd, vw, vp], .int .i64 st, .int .i64 n] w fun e w' => e = .returned (.bool true) ∧ Below w.heap.size w w' := by
  obtain ⟨am, km, rfl, _, _, _⟩ := intsR_open h1
  obtain ⟨ad, kd, rfl, _, _, _⟩ := intsR_open h2
  obtain ⟨aw, kw, rfl, _, _, _⟩ := pairsR_open h3
  obtain ⟨ap, kp, rfl, _, _, _⟩ := intsR_open h4
  have tl := thu_laid (w.alloc (.cells #[.int .i64 fr, .int .i64 ev, .int .i64 ct, .int .i64 ti, .slice am mo.length km, .slice ad da.length kd, .slice aw we.length kw, .slice ap pk.length kp] 25))
  rw [World.size_alloc] at tl
  have hb0 : Below w.heap.size w (((w.alloc (.cells #[.int .i64 fr, .int .i64 ev, .int .i64 ct, .int .i64 ti, .slice am mo.length km, .slice ad da.length kd, .slice aw we.length kw, .slice ap pk.length kp] 25)).alloc (.cells #[.int .i64 11] 3)).alloc (.cells #[.int .i64 4, .int .i64 4] 31)) := (((Below.refl _ _).alloc (Nat.le_refl _) _).alloc (by rw [World.size_alloc]; omega) _).alloc (by rw [World.size_alloc, World.size_alloc]; omega) _
  have xr : RlC (((w.alloc (.cells #[.int .i64 fr, .int .i64 ev, .int .i64 ct, .int .i64 ti, .slice am mo.length km, .slice ad da.length kd, .slice aw we.length kw, .slice ap pk.length kp] 25)).alloc (.cells #[.int .i64 11] 3)).alloc (.cells #[.int .i64 4, .int .i64 4] 31)) w.heap.size fr ev ct ti _ _ _ _ := ((rlC_new w 25 fr ev ct ti _ _ _ _).same (Below.heap_alloc _ _ _ (by rw [World.size_alloc]; omega))).same (Below.heap_alloc _ _ _ (by rw [World.size_alloc, World.size_alloc]; omega))
  go_enter Tryd.func3, Tryd.ntmps3
  go_wp2_with fail
  refine (sfirst_ok 4 1 0 0 2026 11 15 46340 3 _ _ _ _ [11] [] [(4, 4)] [] _ (hw.below hb0) tl.1 (intsR_nil _) tl.2 (intsR_nil _) (by decide) (by decide) thuF (by omega)).mono ?_; rintro e w1 ⟨v, rfl, ⟨hv, hfr⟩, hb1⟩
  have hv : IntsR w1 v [46340, 46351, 46715] := thu_fact ▸ hv
  obtain ⟨va, vc, rfl, _, _, hvc⟩ := intsR_open hv
  obtain ⟨lb, lo, rfl, hcs⟩ := hvc (by decide)
  have f0 := hcs 0 (by decide); have f1 := hcs 1 (by decide); have f2 := hcs 2 (by decide)
  simp only [List.getElem_cons_zero, List.getElem_cons_succ, Nat.add_zero, List.length_cons, List.length_nil, Nat.zero_add, Nat.reduceAdd] at f0 f1 f2 ⊢
  obtain ⟨c0, c1, c2, c3, c4, c5, c6, c7⟩ := xr.same (hb1.block _ (by rw [World.size_alloc, World.size_alloc, World.size_alloc]; omega))
  have hbb := hb0.trans (hb1.mono hb0.size)
  have hw1 := hw.below hbb
  have I1 := h1.below hbb; have I2 := h2.below hbb; have I3 := h3.below hbb; have I4 := h4.below hbb
  clear hb0 hb1 hv hvc hcs hfr tl xr
  go_wp2_with fail
  refine (sfirst_err fr ev ct ti st n _ _ _ _ mo da we pk _ I1 I2 I3 I4 hF).mono ?_; rintro e w2 ⟨rfl, hb2⟩
  rw [show errV (seqF (ruleF fr ev ct ti mo da we pk) st) = .iface 113 (.int .i64 (seqF (ruleF fr ev ct ti mo da we pk) st)) by rw [errV, if_neg hF]]
  have B := Lib.hid (hbb.trans (hb2.mono hbb.size))
  clear hbb hb2 c0 c1 c2 c3 c4 c5 c6 c7 f0 f1 f2 I1 I2 I3 I4 h1 h2 h3 h4 hw hw1
  go_wp2
  go_ret
  exact ⟨rfl, B.out⟩

set_option maxRecDepth 100000 in
set_option maxHeartbeats 4000000 in
theorem seqHolds_rng (fr ev ct ti st n y mm d : Int) (vm vd vw vp : Value) (mo da : List Int) (we : List (Int × Int)) (pk : List Int) (w : World) (hw : Months w)
    (h1 : IntsR w vm mo) (h2 : IntsR w vd da) (h3 : PairsR w vw we) (h4 : IntsR w vp pk) (hF : seqF (ruleF fr ev ct ti mo da we pk) st = 0) (hn : n < 0 ∨ 200 < n) :
    Calls Tryd.prog 3 #[.agg #[.int .i64 fr, .int .i64 ev, .int .i64 ct, .int .i64 ti, vm, vd, vw, vp], .int .i64 st, .int .i64 n] w fun e w' => e = .returned (.bool true) ∧ Below w.heap.size w w' := by
  obtain ⟨am, km, rfl, _, _, _⟩ := intsR_open h1
  obtain ⟨ad, kd, rfl, _, _, _⟩ := intsR_open h2
  obtain ⟨aw, kw, rfl, _, _, _⟩ := pairsR_open h3
  obtain ⟨ap, kp, rfl, _, _, _⟩ := intsR_open h4
  have tl := thu_laid (w.alloc (.cells #[.int .i64 fr, .int .i64 ev, .int .i64 ct, .int .i64 ti, .slice am mo.length km, .slice ad da.length kd, .slice aw we.length kw, .slice ap pk.length kp] 25))
  rw [World.size_alloc] at tl
  have hb0 : Below w.heap.size w (((w.alloc (.cells #[.int .i64 fr, .int .i64 ev, .int .i64 ct, .int .i64 ti, .slice am mo.length km, .slice ad da.length kd, .slice aw we.length kw, .slice ap pk.length kp] 25)).alloc (.cells #[.int .i64 11] 3)).alloc (.cells #[.int .i64 4, .int .i64 4] 31)) := (((Below.refl _ _).alloc (Nat.le_refl _) _).alloc (by rw [World.size_alloc]; omega) _).alloc (by rw [World.size_alloc, World.size_alloc]; omega) _
  have xr : RlC (((w.alloc (.cells #[.int .i64 fr, .int .i64 ev, .int .i64 ct, .int .i64 ti, .slice am mo.length km, .slice ad da.length kd, .slice aw we.length kw, .slice ap pk.length kp] 25)).alloc (.cells #[.int .i64 11] 3)).alloc (.cells #[.int .i64 4, .int .i64 4] 31)) w.heap.size fr ev ct ti _ _ _ _ := ((rlC_new w 25 fr ev ct ti _ _ _ _).same (Below.heap_alloc _ _ _ (by rw [World.size_alloc]; omega))).same (Below.heap_alloc _ _ _ (by rw [World.size_alloc, World.size_alloc]; omega))
  go_enter Tryd.func3, Tryd.ntmps3
  go_wp2_with fail
  refine (sfirst_ok 4 1 0 0 2026 11 15 46340 3 _ _ _ _ [11] [] [(4, 4)] [] _ (hw.below hb0) tl.1 (intsR_nil _) tl.2 (intsR_nil _) (by decide) (by decide) thuF (by omega)).mono ?_; rintro e w1 ⟨v, rfl, ⟨hv, hfr⟩, hb1⟩
  have hv : IntsR w1 v [46340, 46351, 46715] := thu_fact ▸ hv
  obtain ⟨va, vc, rfl, _, _, hvc⟩ := intsR_open hv
  obtain ⟨lb, lo, rfl, hcs⟩ := hvc (by decide)
  have f0 := hcs 0 (by decide); have f1 := hcs 1 (by decide); have f2 := hcs 2 (by decide)
  simp only [List.getElem_cons_zero, List.getElem_cons_succ, Nat.add_zero, List.length_cons, List.length_nil, Nat.zero_add, Nat.reduceAdd] at f0 f1 f2 ⊢
  obtain ⟨c0, c1, c2, c3, c4, c5, c6, c7⟩ := xr.same (hb1.block _ (by rw [World.size_alloc, World.size_alloc, World.size_alloc]; omega))
  have hbb := hb0.trans (hb1.mono hb0.size)
  have hw1 := hw.below hbb
  have I1 := h1.below hbb; have I2 := h2.below hbb; have I3 := h3.below hbb; have I4 := h4.below hbb
  clear hb0 hb1 hv hvc hcs hfr tl xr
  go_wp2_with fail
  refine (sfirst_rng fr ev ct ti st n _ _ _ _ mo da we pk _ I1 I2 I3 I4 hF hn).mono ?_; rintro e w2 ⟨rfl, hb2⟩
  have B := Lib.hid (hbb.trans (hb2.mono hbb.size))
  clear hbb hb2 c0 c1 c2 c3 c4 c5 c6 c7 f0 f1 f2 I1 I2 I3 I4 h1 h2 h3 h4 hw hw1 hn
  go_wp2
  go_ret
  exact ⟨rfl, B.out⟩

set_option maxRecDepth 100000 in
set_option maxHeartbeats 4000000 in
theorem seqHolds_big (fr ev ct ti st n y mm d : Int) (vm vd vw vp : Value) (mo da : List Int) (we : List (Int × Int)) (pk : List Int) (w : World) (hw : Months w)
    (h1 : IntsR w vm mo) (h2 : IntsR w vd da) (h3 : PairsR w vw we) (h4 : IntsR w vp pk) (hd : Cal.dateB y mm d = true) (hst : Cal.num y mm d = st) (hF : ruleF fr ev ct ti mo da we pk = 0) (hn : 60 < n ∧ n ≤ 200) :
    Calls Tryd.prog 3 #[.agg #[.int .i64 fr, .int .i64 ev, .int .i64 ct, .int .i64 ti, vm, vd, vw, vp], .int .i64 st, .int .i64 n] w fun e w' => e = .returned (.bool true) ∧ Below w.heap.size w w' := by
  obtain ⟨am, km, rfl, _, _, _⟩ := intsR_open h1
  obtain ⟨ad, kd, rfl, _, _, _⟩ := intsR_open h2
  obtain ⟨aw, kw, rfl, _, _, _⟩ := pairsR_open h3
  obtain ⟨ap, kp, rfl, _, _, _⟩ := intsR_open h4
  have tl := thu_laid (w.alloc (.cells #[.int .i64 fr, .int .i64 ev, .int .i64 ct, .int .i64 ti, .slice am mo.length km, .slice ad da.length kd, .slice aw we.length kw, .slice ap pk.length kp] 25))
  rw [World.size_alloc] at tl
  have hb0 : Below w.heap.size w (((w.alloc (.cells #[.int .i64 fr, .int .i64 ev, .int .i64 ct, .int .i64 ti, .slice am mo.length km, .slice ad da.length kd, .slice aw we.length kw, .slice ap pk.length kp] 25)).alloc (.cells #[.int .i64 11] 3)).alloc (.cells #[.int .i64 4, .int .i64 4] 31)) := (((Below.refl _ _).alloc (Nat.le_refl _) _).alloc (by rw [World.size_alloc]; omega) _).alloc (by rw [World.size_alloc, World.size_alloc]; omega) _
  have xr : RlC (((w.alloc (.cells #[.int .i64 fr, .int .i64 ev, .int .i64 ct, .int .i64 ti, .slice am mo.length km, .slice ad da.length kd, .slice aw we.length kw, .slice ap pk.length kp] 25)).alloc (.cells #[.int .i64 11] 3)).alloc (.cells #[.int .i64 4, .int .i64 4] 31)) w.heap.size fr ev ct ti _ _ _ _ := ((rlC_new w 25 fr ev ct ti _ _ _ _).same (Below.heap_alloc _ _ _ (by rw [World.size_alloc]; omega))).same (Below.heap_alloc _ _ _ (by rw [World.size_alloc, World.size_alloc]; omega))
  go_enter Tryd.func3, Tryd.ntmps3
  go_wp2_with fail
  refine (sfirst_ok 4 1 0 0 2026 11 15 46340 3 _ _ _ _ [11] [] [(4, 4)] [] _ (hw.below hb0) tl.1 (intsR_nil _) tl.2 (intsR_nil _) (by decide) (by decide) thuF (by omega)).mono ?_; rintro e w1 ⟨v, rfl, ⟨hv, hfr⟩, hb1⟩
  have hv : IntsR w1 v [46340, 46351, 46715] := thu_fact ▸ hv
  obtain ⟨va, vc, rfl, _, _, hvc⟩ := intsR_open hv
  obtain ⟨lb, lo, rfl, hcs⟩ := hvc (by decide)
  have f0 := hcs 0 (by decide); have f1 := hcs 1 (by decide); have f2 := hcs 2 (by decide)
  simp only [List.getElem_cons_zero, List.getElem_cons_succ, Nat.add_zero, List.length_cons, List.length_nil, Nat.zero_add, Nat.reduceAdd] at f0 f1 f2 ⊢
  obtain ⟨c0, c1, c2, c3, c4, c5, c6, c7⟩ := xr.same (hb1.block _ (by rw [World.size_alloc, World.size_alloc, World.size_alloc]; omega))
  have hbb := hb0.trans (hb1.mono hb0.size)
  have hw1 := hw.below hbb
  have I1 := h1.below hbb; have I2 := h2.below hbb; have I3 := h3.below hbb; have I4 := h4.below hbb
  clear hb0 hb1 hv hvc hcs hfr tl xr
  go_wp2_with fail
  refine (sfirst_ok fr ev ct ti y mm d st n _ _ _ _ mo da we pk _ hw1 I1 I2 I3 I4 hd hst hF (by omega)).mono ?_; rintro e w2 ⟨v2, rfl, ⟨hv2, hfr2⟩, hb2⟩
  have B := Lib.hid (hbb.trans (hb2.mono hbb.size))
  obtain ⟨va2, vc2, rfl, _, _, _⟩ := intsR_open hv2
  obtain ⟨hn1, hn2⟩ := hn
  clear hbb hb2 c0 c1 c2 c3 c4 c5 c6 c7 f0 f1 f2 I1 I2 I3 I4 h1 h2 h3 h4 hw hw1 hv2 hfr2 hd hst hF
  go_wp2
  go_ret
  exact ⟨rfl, B.out⟩

end Go.Proofs.YtdpngbjlljgoaaaDoor
