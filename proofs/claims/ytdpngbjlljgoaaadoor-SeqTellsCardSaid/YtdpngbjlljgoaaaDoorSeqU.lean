/- What the law SeqTells asks of the program and of the reference, each in one form; and where something is wrong. -/
import Derived.Test.YtdpngbjlljgoaaaDoorSeqL
import Derived.Test.YtdpngbjlljgoaaaDoorRefT
import Derived.Test.YtdpngbjlljgoaaaDoorRefR
import Derived.Test.YtdpngbjlljgoaaaDoorErr
namespace Go.Proofs.YtdpngbjlljgoaaaDoor
open Go.RowKit Go.Shelf
set_option linter.unusedSimpArgs false
set_option linter.unusedVariables false

/-- what stays true from call to call. -/
structure TellSt (w W : World) (rb : Nat) (fr ev ct ti : Int) (vm vd vw vp : Value) (mo da : List Int) (we : List (Int × Int)) (pk : List Int) : Prop where
  below : Below w.heap.size w W
  months : Months W
  err : ErrT W
  i1 : IntsR W vm mo
  i2 : IntsR W vd da
  i3 : PairsR W vw we
  i4 : IntsR W vp pk
  rule : RlC W rb fr ev ct ti vm vd vw vp

section
variable {w W W' : World} {rb : Nat} {fr ev ct ti y mm d st : Int} {vm vd vw vp : Value} {mo da : List Int} {we : List (Int × Int)} {pk E : List Int}

theorem TellSt.next (h : TellSt w W rb fr ev ct ti vm vd vw vp mo da we pk) (hb : Below W.heap.size W W') : TellSt w W' rb fr ev ct ti vm vd vw vp mo da we pk :=
  ⟨h.below.trans (hb.mono h.below.size), h.months.below hb, h.err.below hb, h.i1.below hb, h.i2.below hb, h.i3.below hb, h.i4.below hb, h.rule.same (hb.block _ (World.block_lt_of_cell? W _ h.rule.1))⟩

theorem tfirst {n fN : Int} {L : List Int} (h : TellSt w W rb fr ev ct ti vm vd vw vp mo da we pk) (hd : Cal.dateB y mm d = true) (hst : Cal.num y mm d = st) (hF : ruleF fr ev ct ti mo da we pk = 0) (hE : E = eachL fr ev ct ti y mm d mo da we pk st)
    (hN : ((0 ≤ n ∧ n ≤ 200) ∧ fN = 0 ∧ L = E.take n.toNat) ∨ ((n < 0 ∨ 200 < n) ∧ fN = 1 ∧ L = [])) :
    Calls Tryd.prog 11 #[.agg #[.int .i64 fr, .int .i64 ev, .int .i64 ct, .int .i64 ti, vm, vd, vw, vp], .int .i64 st, .int .i64 n] W
      fun e w' => ∃ v, e = .returned (.tuple #[v, errV fN]) ∧ IntsR w' v L ∧ Below W.heap.size W w' := by
  rcases hN with ⟨hn, rfl, rfl⟩ | ⟨hn, rfl, rfl⟩
  · exact (sfirst_ok fr ev ct ti y mm d st n _ _ _ _ mo da we pk W h.months h.i1 h.i2 h.i3 h.i4 hd hst hF hn).mono fun e w' ⟨v, h1, h2, h3⟩ => ⟨v, h1, by rw [hE]; exact h2.1, h3⟩
  · have hs : seqF (ruleF fr ev ct ti mo da we pk) st = 0 := by
      have := Cal.num_bd hd
      rw [hF, seqF, if_neg (by decide), if_pos (by omega)]
    exact (sfirst_rng fr ev ct ti st n _ _ _ _ mo da we pk W h.i1 h.i2 h.i3 h.i4 hs hn).mono fun e w' ⟨h1, h2⟩ => ⟨_, h1, intsR_nil _, h2⟩

theorem tseq {tt mx : Int} {X : List Int} (h : TellSt w W rb fr ev ct ti vm vd vw vp mo da we pk) (hd : Cal.dateB y mm d = true) (hst : Cal.num y mm d = st) (hF : ruleF fr ev ct ti mo da we pk = 0) (hE : E = eachL fr ev ct ti y mm d mo da we pk st)
    (hm : mx ≤ 200000) (hX : X = (upto tt E).take mx.toNat) :
    Calls Tryd.prog 19 #[.agg #[.int .i64 fr, .int .i64 ev, .int .i64 ct, .int .i64 ti, vm, vd, vw, vp], .int .i64 st, .int .i64 tt, .int .i64 mx] W
      fun e w' => ∃ v, e = .returned v ∧ IntsR w' v X ∧ Below W.heap.size W w' := by
  have hr := ruleF_0 hF
  have ht : 0 ≤ ti := by
    have hu := hF
    unfold ruleF at hu
    by_cases h1 : numsB fr ev ct ti = true
    · simp [numsB, dayOk] at h1; omega
    · rw [if_neg h1] at hu; omega
  have hu := all_up hd hst hr.2.1 (fr := fr) (mo := mo) (da := da) (we := we) (pk := pk)
  refine (rseq_any fr ev ct ti y mm d st tt mx _ _ _ _ mo da we pk W h.i1 h.i2 h.i3 h.i4 hd hst hF hm).mono fun e w' ⟨v, h1, h2, h3⟩ => ⟨v, h1, ?_, h3⟩
  rw [seqR_each hr.2.2.1.1 ht hu.1] at h2
  rw [hX, hE]
  exact h2

theorem tcount {M : Int} (h : TellSt w W rb fr ev ct ti vm vd vw vp mo da we pk) (hd : Cal.dateB y mm d = true) (hst : Cal.num y mm d = st) (hF : ruleF fr ev ct ti mo da we pk = 0) (hE : E = eachL fr ev ct ti y mm d mo da we pk st)
    (hM : M = ((min E.length 201 : Nat) : Int)) :
    Calls Tryd.prog 12 #[.agg #[.int .i64 fr, .int .i64 ev, .int .i64 ct, .int .i64 ti, vm, vd, vw, vp], .int .i64 st] W
      fun e w' => e = .returned (.tuple #[.int .i64 M, .nilIface]) ∧ Below W.heap.size W w' :=
  (scount_ok fr ev ct ti y mm d st _ _ _ _ mo da we pk W h.months h.i1 h.i2 h.i3 h.i4 hd hst hF).mono fun e w' ⟨h1, h2⟩ => ⟨by rw [h1, hM, hE], h2⟩

theorem tbtw {af up fB : Int} {L : List Int} (h : TellSt w W rb fr ev ct ti vm vd vw vp mo da we pk) (hd : Cal.dateB y mm d = true) (hst : Cal.num y mm d = st) (hF : ruleF fr ev ct ti mo da we pk = 0) (hE : E = eachL fr ev ct ti y mm d mo da we pk st)
    (hL : fB = fullF (btwL E af up) ∧ L = cutL (btwL E af up)) :
    Calls Tryd.prog 15 #[.agg #[.int .i64 fr, .int .i64 ev, .int .i64 ct, .int .i64 ti, vm, vd, vw, vp], .int .i64 st, .int .i64 af, .int .i64 up] W
      fun e w' => ∃ v, e = .returned (.tuple #[v, errV fB]) ∧ IntsR w' v L ∧ Below W.heap.size W w' :=
  (sbetween_ok fr ev ct ti y mm d st af up _ _ _ _ mo da we pk W h.months h.i1 h.i2 h.i3 h.i4 hd hst hF).mono fun e w' ⟨v, h1, h2, h3⟩ => ⟨v, by rw [h1, hL.1, hE], by rw [hL.2, hE]; exact h2.1, h3⟩

theorem tnext {af n1 n2 : Int} (h : TellSt w W rb fr ev ct ti vm vd vw vp mo da we pk) (hd : Cal.dateB y mm d = true) (hst : Cal.num y mm d = st) (hF : ruleF fr ev ct ti mo da we pk = 0) (hE : E = eachL fr ev ct ti y mm d mo da we pk st)
    (hN : nextP E af = (n1, n2)) :
    Calls Tryd.prog 14 #[.agg #[.int .i64 fr, .int .i64 ev, .int .i64 ct, .int .i64 ti, vm, vd, vw, vp], .int .i64 st, .int .i64 af] W
      fun e w' => e = .returned (.tuple #[.int .i64 n1, errV n2]) ∧ Below W.heap.size W w' :=
  (snext_ok fr ev ct ti y mm d st af _ _ _ _ mo da we pk W h.months h.i1 h.i2 h.i3 h.i4 hd hst hF).mono fun e w' ⟨h1, h2⟩ => ⟨by rw [h1, ← hE, hN], h2⟩

theorem thas {af : Int} {b : Bool} (h : TellSt w W rb fr ev ct ti vm vd vw vp mo da we pk) (hd : Cal.dateB y mm d = true) (hst : Cal.num y mm d = st) (hF : ruleF fr ev ct ti mo da we pk = 0) (hE : E = eachL fr ev ct ti y mm d mo da we pk st)
    (hb : inB E af = b) :
    Calls Tryd.prog 13 #[.agg #[.int .i64 fr, .int .i64 ev, .int .i64 ct, .int .i64 ti, vm, vd, vw, vp], .int .i64 st, .int .i64 af] W
      fun e w' => e = .returned (.tuple #[.bool b, .nilIface]) ∧ Below W.heap.size W w' :=
  (shas_ok fr ev ct ti y mm d st af _ _ _ _ mo da we pk W h.months h.i1 h.i2 h.i3 h.i4 hd hst hF).mono fun e w' ⟨h1, h2⟩ => ⟨by rw [h1, ← hE, hb], h2⟩
end

set_option maxRecDepth 100000 in
set_option maxHeartbeats 2000000 in
theorem sbetween_err (fr ev ct ti st fo up : Int) (vm vd vw vp : Value) (mo da : List Int) (we : List (Int × Int)) (pk : List Int) (w : World)
    (h1 : IntsR w vm mo) (h2 : IntsR w vd da) (h3 : PairsR w vw we) (h4 : IntsR w vp pk) (hF : seqF (ruleF fr ev ct ti mo da we pk) st ≠ 0) :
    Calls Tryd.prog 15 #[.agg #[.int .i64 fr, .int .i64 ev, .int .i64 ct, .int .i64 ti, vm, vd, vw, vp], .int .i64 st, .int .i64 fo, .int .i64 up] w
      fun e w' => e = .returned (.tuple #[.slice none 0 0, errV (seqF (ruleF fr ev ct ti mo da we pk) st)]) ∧ Below w.heap.size w w' := by
  obtain ⟨am, km, rfl, _, _, _⟩ := intsR_open h1
  obtain ⟨ad, kd, rfl, _, _, _⟩ := intsR_open h2
  obtain ⟨aw, kw, rfl, _, _, _⟩ := pairsR_open h3
  obtain ⟨ap, kp, rfl, _, _, _⟩ := intsR_open h4
  have hb0 : Below w.heap.size w (((w.alloc (.cells #[.int .i64 fr, .int .i64 ev, .int .i64 ct, .int .i64 ti, .slice am mo.length km, .slice ad da.length kd, .slice aw we.length kw, .slice ap pk.length kp] 25)).alloc (.cells #[.int .i64 fo] 3)).alloc (.cells #[.int .i64 up] 3)) := ((((Below.refl _ _).alloc (Nat.le_refl _) _).alloc (by simp only [World.size_alloc]; omega) _).alloc (by simp only [World.size_alloc]; omega) _)
  obtain ⟨F, hFF⟩ : ∃ F, F = seqF (ruleF fr ev ct ti mo da we pk) st := ⟨_, rfl⟩
  rw [← hFF] at hF ⊢
  have FF := Lib.hid hFF
  clear hFF
  go_enter Tryd.func15, Tryd.ntmps15
  go_wp2_with fail
  refine (sready_any fr ev ct ti st _ _ _ _ mo da we pk _ (h1.below hb0) (h2.below hb0) (h3.below hb0) (h4.below hb0)).mono ?_; rintro e w1 ⟨rfl, hb1⟩
  rw [← FF.out]
  have B := Lib.hid (hb0.trans (hb1.mono hb0.size))
  have EV := Lib.hid (show errV F = .iface 113 (.int .i64 F) by rw [errV, if_neg hF])
  rw [EV.out]
  clear hb0 hb1 hF
  go_wp2
  refine bodyPost_ret (results_tmp2 rfl _ _ _) rfl ?_
  exact ⟨by rw [EV.out]; rfl, B.out⟩

set_option maxRecDepth 100000 in
set_option maxHeartbeats 2000000 in
theorem shas_err (fr ev ct ti st n : Int) (vm vd vw vp : Value) (mo da : List Int) (we : List (Int × Int)) (pk : List Int) (w : World)
    (h1 : IntsR w vm mo) (h2 : IntsR w vd da) (h3 : PairsR w vw we) (h4 : IntsR w vp pk) (hF : seqF (ruleF fr ev ct ti mo da we pk) st ≠ 0) :
    Calls Tryd.prog 13 #[.agg #[.int .i64 fr, .int .i64 ev, .int .i64 ct, .int .i64 ti, vm, vd, vw, vp], .int .i64 st, .int .i64 n] w
      fun e w' => e = .returned (.tuple #[.bool false, errV (seqF (ruleF fr ev ct ti mo da we pk) st)]) ∧ Below w.heap.size w w' := by
  obtain ⟨am, km, rfl, _, _, _⟩ := intsR_open h1
  obtain ⟨ad, kd, rfl, _, _, _⟩ := intsR_open h2
  obtain ⟨aw, kw, rfl, _, _, _⟩ := pairsR_open h3
  obtain ⟨ap, kp, rfl, _, _, _⟩ := intsR_open h4
  have hb0 : Below w.heap.size w (w.alloc (.cells #[.int .i64 fr, .int .i64 ev, .int .i64 ct, .int .i64 ti, .slice am mo.length km, .slice ad da.length kd, .slice aw we.length kw, .slice ap pk.length kp] 25)) := ((Below.refl _ _).alloc (Nat.le_refl _) _)
  obtain ⟨F, hFF⟩ : ∃ F, F = seqF (ruleF fr ev ct ti mo da we pk) st := ⟨_, rfl⟩
  rw [← hFF] at hF ⊢
  have FF := Lib.hid hFF
  clear hFF
  go_enter Tryd.func13, Tryd.ntmps13
  go_wp2_with fail
  refine (sbetween_err fr ev ct ti st n n _ _ _ _ mo da we pk _ (h1.below hb0) (h2.below hb0) (h3.below hb0) (h4.below hb0) (by rw [← FF.out]; exact hF)).mono ?_; rintro e w1 ⟨rfl, hb1⟩
  rw [← FF.out]
  have B := Lib.hid (hb0.trans (hb1.mono hb0.size))
  have EV := Lib.hid (show errV F = .iface 113 (.int .i64 F) by rw [errV, if_neg hF])
  rw [EV.out]
  clear hb0 hb1 hF
  go_wp2_with fail
  refine (scont_any _ [] n _ (intsR_nil _)).mono ?_; rintro e w2 ⟨rfl, hb2⟩
  have B2 := Lib.hid (B.out.trans (hb2.mono B.out.size))
  rw [show inB [] n = false from rfl]
  clear hb2
  go_wp2
  refine bodyPost_ret (results_tmp2 rfl _ _ _) rfl ?_
  exact ⟨by rw [EV.out]; rfl, B2.out⟩

set_option maxRecDepth 100000 in
set_option maxHeartbeats 2000000 in
theorem scount_err (fr ev ct ti st : Int) (vm vd vw vp : Value) (mo da : List Int) (we : List (Int × Int)) (pk : List Int) (w : World)
    (h1 : IntsR w vm mo) (h2 : IntsR w vd da) (h3 : PairsR w vw we) (h4 : IntsR w vp pk) (hF : seqF (ruleF fr ev ct ti mo da we pk) st ≠ 0) :
    Calls Tryd.prog 12 #[.agg #[.int .i64 fr, .int .i64 ev, .int .i64 ct, .int .i64 ti, vm, vd, vw, vp], .int .i64 st] w
      fun e w' => e = .returned (.tuple #[.int .i64 0, errV (seqF (ruleF fr ev ct ti mo da we pk) st)]) ∧ Below w.heap.size w w' := by
  obtain ⟨am, km, rfl, _, _, _⟩ := intsR_open h1
  obtain ⟨ad, kd, rfl, _, _, _⟩ := intsR_open h2
  obtain ⟨aw, kw, rfl, _, _, _⟩ := pairsR_open h3
  obtain ⟨ap, kp, rfl, _, _, _⟩ := intsR_open h4
  have hb0 : Below w.heap.size w (w.alloc (.cells #[.int .i64 fr, .int .i64 ev, .int .i64 ct, .int .i64 ti, .slice am mo.length km, .slice ad da.length kd, .slice aw we.length kw, .slice ap pk.length kp] 25)) := ((Below.refl _ _).alloc (Nat.le_refl _) _)
  obtain ⟨F, hFF⟩ : ∃ F, F = seqF (ruleF fr ev ct ti mo da we pk) st := ⟨_, rfl⟩
  rw [← hFF] at hF ⊢
  have FF := Lib.hid hFF
  clear hFF
  go_enter Tryd.func12, Tryd.ntmps12
  go_wp2_with fail
  refine (sready_any fr ev ct ti st _ _ _ _ mo da we pk _ (h1.below hb0) (h2.below hb0) (h3.below hb0) (h4.below hb0)).mono ?_; rintro e w1 ⟨rfl, hb1⟩
  rw [← FF.out]
  have B := Lib.hid (hb0.trans (hb1.mono hb0.size))
  have EV := Lib.hid (show errV F = .iface 113 (.int .i64 F) by rw [errV, if_neg hF])
  rw [EV.out]
  clear hb0 hb1 hF
  go_wp2
  refine bodyPost_ret (results_tmp2 rfl _ _ _) rfl ?_
  exact ⟨by rw [EV.out]; rfl, B.out⟩

set_option maxRecDepth 100000 in
set_option maxHeartbeats 2000000 in
theorem snext_err (fr ev ct ti st af : Int) (vm vd vw vp : Value) (mo da : List Int) (we : List (Int × Int)) (pk : List Int) (w : World)
    (h1 : IntsR w vm mo) (h2 : IntsR w vd da) (h3 : PairsR w vw we) (h4 : IntsR w vp pk) (hF : seqF (ruleF fr ev ct ti mo da we pk) st ≠ 0) :
    Calls Tryd.prog 14 #[.agg #[.int .i64 fr, .int .i64 ev, .int .i64 ct, .int .i64 ti, vm, vd, vw, vp], .int .i64 st, .int .i64 af] w
      fun e w' => e = .returned (.tuple #[.int .i64 0, errV (seqF (ruleF fr ev ct ti mo da we pk) st)]) ∧ Below w.heap.size w w' := by
  obtain ⟨am, km, rfl, _, _, _⟩ := intsR_open h1
  obtain ⟨ad, kd, rfl, _, _, _⟩ := intsR_open h2
  obtain ⟨aw, kw, rfl, _, _, _⟩ := pairsR_open h3
  obtain ⟨ap, kp, rfl, _, _, _⟩ := intsR_open h4
  have hb0 : Below w.heap.size w ((((w.alloc (.cells #[.int .i64 fr, .int .i64 ev, .int .i64 ct, .int .i64 ti, .slice am mo.length km, .slice ad da.length kd, .slice aw we.length kw, .slice ap pk.length kp] 25)).alloc (.cells #[.int .i64 af] 3)).alloc (.cells #[.int .i64 0] 3)).alloc (.cells #[.nilIface] 27)) := (((((Below.refl _ _).alloc (Nat.le_refl _) _).alloc (by simp only [World.size_alloc]; omega) _).alloc (by simp only [World.size_alloc]; omega) _).alloc (by simp only [World.size_alloc]; omega) _)
  obtain ⟨F, hFF⟩ : ∃ F, F = seqF (ruleF fr ev ct ti mo da we pk) st := ⟨_, rfl⟩
  rw [← hFF] at hF ⊢
  have FF := Lib.hid hFF
  clear hFF
  go_enter Tryd.func14, Tryd.ntmps14
  go_wp2_with fail
  obtain ⟨wa, hwa⟩ : ∃ x, x = (w.alloc (.cells #[.int .i64 fr, .int .i64 ev, .int .i64 ct, .int .i64 ti, .slice am mo.length km, .slice ad da.length kd, .slice aw we.length kw, .slice ap pk.length kp] 25)).alloc (.cells #[.int .i64 af] 3) := ⟨_, rfl⟩
  have za : wa.heap.size = w.heap.size + 1 + 1 := by rw [hwa]; simp only [World.size_alloc]
  obtain ⟨wc, hwc⟩ : ∃ x, x = wa.alloc (.cells #[.int .i64 0] 3) := ⟨_, rfl⟩
  have zc : wc.heap.size = w.heap.size + 1 + 1 + 1 := by rw [hwc, World.size_alloc, za]
  obtain ⟨we2, hwe⟩ : ∃ x, x = wc.alloc (.cells #[.nilIface] 27) := ⟨_, rfl⟩
  have ze : we2.heap.size = w.heap.size + 1 + 1 + 1 + 1 := by rw [hwe, World.size_alloc, zc]
  have be : Below wc.heap.size wc we2 := by rw [hwe]; exact (Below.refl _ _).alloc (Nat.le_refl _) _
  have x6 : Boxed we2 (w.heap.size + 1 + 1) 3 (.int .i64 0) := (be.block _ (by omega)).trans (by rw [hwc, ← za]; exact Boxed.new wa _ _)
  have x7 : Boxed we2 (w.heap.size + 1 + 1 + 1) 27 .nilIface := by rw [hwe, ← zc]; exact Boxed.new wc _ _
  rw [← hwa, ← hwc, ← hwe] at hb0 ⊢
  clear hwa hwc hwe be
  refine (sready_any fr ev ct ti st _ _ _ _ mo da we pk _ (h1.below hb0) (h2.below hb0) (h3.below hb0) (h4.below hb0)).mono ?_; rintro e w1 ⟨rfl, hb1⟩
  rw [← FF.out]
  have y6 : Boxed w1 (w.heap.size + 1 + 1) 3 (.int .i64 0) := (hb1.block _ (by omega)).trans x6
  have y7 : Boxed w1 (w.heap.size + 1 + 1 + 1) 27 .nilIface := (hb1.block _ (by omega)).trans x7
  have e6 := y6.cell
  have e7 := y7.cell
  have f6 := y6.frozen
  have f7 := y7.frozen
  have B := Lib.hid (hb0.trans (hb1.mono hb0.size))
  have EV := Lib.hid (show errV F = .iface 113 (.int .i64 F) by rw [errV, if_neg hF])
  rw [EV.out]
  have r6 : ((w1.setCell ⟨w.heap.size + 1 + 1, 0, none⟩ (.int .i64 0)).setCell ⟨w.heap.size + 1 + 1 + 1, 0, none⟩ (.iface 113 (.int .i64 F))).cell? ⟨w.heap.size + 1 + 1, 0, none⟩ = some (.int .i64 0) := by
    rw [cell_other (by simp)]; exact cell_same e6
  have r7 : ((w1.setCell ⟨w.heap.size + 1 + 1, 0, none⟩ (.int .i64 0)).setCell ⟨w.heap.size + 1 + 1 + 1, 0, none⟩ (.iface 113 (.int .i64 F))).cell? ⟨w.heap.size + 1 + 1 + 1, 0, none⟩ = some (.iface 113 (.int .i64 F)) :=
    cell_same (u := .nilIface) (by rw [cell_other (by simp)]; exact e7)
  have R6 := Lib.hid r6; have R7 := Lib.hid r7
  clear hb0 hb1 hF x6 x7 y6 y7 r6 r7 za zc ze
  go_wp2
  refine bodyPost_ret (results_next rfl rfl R6.out R7.out) rfl ?_
  exact ⟨by rw [EV.out], (B.out.setCell (by simp; omega) _).setCell (by simp; omega) _⟩

end Go.Proofs.YtdpngbjlljgoaaaDoor
