/- seq.First: where something is wrong; and where nothing is. -/
import Derived.Test.YtdpngbjlljgoaaaDoorSeqE
namespace Go.Proofs.YtdpngbjlljgoaaaDoor
open Go.RowKit Go.Shelf
set_option linter.unusedSimpArgs false
set_option linter.unusedVariables false

theorem sfirst_ok (fr ev ct ti y mm d st n : Int) (vm vd vw vp : Value) (mo da : List Int) (we : List (Int × Int)) (pk : List Int) (w : World) (hw : Months w)
    (h1 : IntsR w vm mo) (h2 : IntsR w vd da) (h3 : PairsR w vw we) (h4 : IntsR w vp pk) (hd : Cal.dateB y mm d = true) (hst : Cal.num y mm d = st) (hF : ruleF fr ev ct ti mo da we pk = 0) (hn : 0 ≤ n ∧ n ≤ 200) :
    Calls Tryd.prog 11 #[.agg #[.int .i64 fr, .int .i64 ev, .int .i64 ct, .int .i64 ti, vm, vd, vw, vp], .int .i64 st, .int .i64 n] w
      fun e w' => ∃ v, e = .returned (.tuple #[v, .nilIface]) ∧ (IntsR w' v ((eachL fr ev ct ti y mm d mo da we pk st).take n.toNat) ∧ FreshV w.heap.size v) ∧ Below w.heap.size w w' :=
  (callsIn_wide (n := 10)).1 (sfirst_in 9 fr ev ct ti y mm d st n vm vd vw vp mo da we pk w hw h1 h2 h3 h4 hd hst hF hn)

set_option maxRecDepth 100000 in
set_option maxHeartbeats 2000000 in
theorem sfirst_err (fr ev ct ti st n : Int) (vm vd vw vp : Value) (mo da : List Int) (we : List (Int × Int)) (pk : List Int) (w : World)
    (h1 : IntsR w vm mo) (h2 : IntsR w vd da) (h3 : PairsR w vw we) (h4 : IntsR w vp pk) (hF : seqF (ruleF fr ev ct ti mo da we pk) st ≠ 0) :
    Calls Tryd.prog 11 #[.agg #[.int .i64 fr, .int .i64 ev, .int .i64 ct, .int .i64 ti, vm, vd, vw, vp], .int .i64 st, .int .i64 n] w
      fun e w' => e = .returned (.tuple #[.slice none 0 0, errV (seqF (ruleF fr ev ct ti mo da we pk) st)]) ∧ Below w.heap.size w w' := by
  obtain ⟨am, km, rfl, _, _, _⟩ := intsR_open h1
  obtain ⟨ad, kd, rfl, _, _, _⟩ := intsR_open h2
  obtain ⟨aw, kw, rfl, _, _, _⟩ := pairsR_open h3
  obtain ⟨ap, kp, rfl, _, _, _⟩ := intsR_open h4
  have hb0 : Below w.heap.size w ((w.alloc (.cells #[.int .i64 fr, .int .i64 ev, .int .i64 ct, .int .i64 ti, .slice am mo.length km, .slice ad da.length kd, .slice aw we.length kw, .slice ap pk.length kp] 25)).alloc (.cells #[.int .i64 n] 3)) := ((Below.refl _ _).alloc (Nat.le_refl _) _).alloc (by rw [World.size_alloc]; omega) _
  obtain ⟨F, hFF⟩ : ∃ F, F = seqF (ruleF fr ev ct ti mo da we pk) st := ⟨_, rfl⟩
  rw [← hFF] at hF ⊢
  have FF := Lib.hid hFF
  clear hFF
  go_enter Tryd.func11, Tryd.ntmps11
  go_wp2_with fail
  refine (sready_any fr ev ct ti st _ _ _ _ mo da we pk _ (h1.below hb0) (h2.below hb0) (h3.below hb0) (h4.below hb0)).mono ?_; rintro e w1 ⟨rfl, hb1⟩
  rw [← FF.out]
  have B := Lib.hid (hb0.trans (hb1.mono hb0.size))
  have EV := Lib.hid (show errV F = .iface 113 (.int .i64 F) by rw [errV, if_neg hF])
  rw [EV.out]
  clear hb0 hb1 hF
  go_wp2
  refine bodyPost_ret (results_tmp2 rfl _ _ _) rfl ?_
  exact ⟨by rw [EV.out]; rfl, B.out⟩

end Go.Proofs.YtdpngbjlljgoaaaDoor
