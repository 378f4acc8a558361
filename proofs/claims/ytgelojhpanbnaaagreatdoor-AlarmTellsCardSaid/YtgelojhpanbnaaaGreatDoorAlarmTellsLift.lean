/- The law AlarmTells: its walk, lifted to the given row's form. -/
import Derived.Test.YtgelojhpanbnaaaGreatDoorRows
import Derived.Test.YtgelojhpanbnaaaGreatDoorQ29
import Derived.Test.YtgelojhpanbnaaaGreatDoorQ09
import Derived.Test.YtgelojhpanbnaaaGreatDoorCards
import Derived.Test.YtgelojhpanbnaaaGreatDoorTie
import Derived.Test.YtgelojhpanbnaaaGreatDoorQ21
import Derived.SevenTiedAt
import Derived.Test.YtgelojhpanbnaaaGreatDoorOpenJ
import Derived.WalkKit
import Derived.ProofKit
import Derived.OpenShut
import Derived.ShutString
import Derived.ChangeOld
import Derived.Below
import Derived.Deep.DeepHandedRow
import Derived.Shelf.Vars
import Derived.Lib.SmallJoins
namespace Go.Proofs.YtgelojhpanbnaaaGreatDoor.lawAlarmTells
open Go.ChangeShapes Go.WideShapes Go.ChangeAt Go.RowKit
open Go.ChangeMaps (open_string shut_string)
open Go.Joins
set_option linter.unusedVariables false
theorem own : ownKnob Tryz.prog.godebug = none := by kernel_rfl
theorem laidOut : laidOutB Tryz.prog = true := by kernel_rfl
/-- The door's own heap meets the condition: closed facts. -/
theorem door_met (os : Os) (args : Array Value) : laidMetH Tryz.prog Rows.alarmTellsRow.laid ((World.doorLaid Tryz.prog 400 os).forCall (fun _ _ => 0) ⟨#[], args, []⟩).memory :=
  laidMetH_of_parts3 (fuel := 8) (laidMet_of_run' 8 (by kernel_rfl) (by kernel_rfl)) (by kernel_rfl) (by kernel_rfl)
set_option maxRecDepth 100000 in
theorem lifted (os : Os) (started : os.Started) (H : Type) (enc : TypeId × Value → H) (F : Stop.Interp) :
    ReturnsInHanded {} Tryz.checked os 5 .any ((OpenSpec.ofChange Rows.alarmTellsSpec).preRow enc Tryz.prog Tryz.f5 Rows.alarmTellsRow.domain false Rows.alarmTellsRow.laid) (((OpenSpec.ofChange Rows.alarmTellsSpec).at F).post enc Tryz.prog Tryz.f5 false true false false) := by
  refine returnsInHanded_of_row (C := Tryz.checked) (s := (OpenSpec.ofChange Rows.alarmTellsSpec)) own started (by kernel_rfl) Tryz.func5
    (witness_row_at (enc := enc) (C := Tryz.checked) false (World.doorLaid Tryz.prog 400 os) #[.agg #[.int .i64 0, .slice none 0 0], .agg #[.string ⟨#[]⟩, .string ⟨#[]⟩, .int .i64 0, .int .i64 0, .bool false, .int .i64 0, .int .i64 0, .int .i64 0, .int .i64 0, .slice none 0 0, .slice none 0 0, .slice none 0 0, .slice none 0 0, .slice none 0 0, .slice none 0 0, .slice none 0 0, .slice none 0 0], .int .i64 0, .int .i64 0, .agg #[.int .i64 0, .string ⟨#[]⟩, .int .i64 0, .int .i64 0, .int .i64 0], .agg #[.int .i64 0, .string ⟨#[]⟩, .int .i64 0, .int .i64 0, .int .i64 0]] rfl (by kernel_rfl) (by kernel_rfl) (by kernel_rfl)
      (OpenSpec.preRow_of_cond 8 (x := ([.agg [.lit (.int .i64 0), .nil], .agg [.lit (.string []), .lit (.string []), .lit (.int .i64 0), .lit (.int .i64 0), .lit (.bool false), .agg [.lit (.int .i64 0), .lit (.int .i64 0), .lit (.int .i64 0), .lit (.int .i64 0), .nil, .nil, .nil, .nil], .nil, .nil, .nil, .nil], .lit (.int .i64 0), .lit (.int .i64 0), .agg [.lit (.int .i64 0), .lit (.string []), .lit (.int .i64 0), .lit (.int .i64 0), .lit (.int .i64 0)], .agg [.lit (.int .i64 0), .lit (.string []), .lit (.int .i64 0), .lit (.int .i64 0), .lit (.int .i64 0)]], [], [])) (by kernel_rfl) (by kernel_rfl) (fun k hk => by cases hk) (by kernel_rfl) (door_met os _))) ?_
  intro W base args ds gs before hval0 hW _ hcond hreach hL hshape _
  have hval : ∀ (j : Nat) t v, Tryz.f5.params[j]? = some t → args[j]? = some v → Value.okWide Tryz.prog W .any base t v := hval0
  have hW' := hW
  obtain ⟨p, q, hA0, hV, rfl, hfz, hnd⟩ := hW
  have hA : DataW.TrodAll enc Tryz.prog W 0 (fun _ => true) true Tryz.f5.params.toList args.toList ds p := hA0
  rw [Tryz.params5] at hA hval
  obtain ⟨v0, vs0, d0, ds0, p0, q0, hargs, rfl, rfl, h0, r0⟩ := trodAll_cons hA
  obtain ⟨v1, vs1, d1, ds1, p1, q1, rfl, rfl, rfl, h1, r1⟩ := trodAll_cons r0
  obtain ⟨v2, vs2, d2, ds2, p2, q2, rfl, rfl, rfl, h2, r2⟩ := trodAll_cons r1
  obtain ⟨v3, vs3, d3, ds3, p3, q3, rfl, rfl, rfl, h3, r3⟩ := trodAll_cons r2
  obtain ⟨v4, vs4, d4, ds4, p4, q4, rfl, rfl, rfl, h4, r4⟩ := trodAll_cons r3
  obtain ⟨v5, vs5, d5, ds5, p5, q5, rfl, rfl, rfl, h5, r5⟩ := trodAll_cons r4
  obtain ⟨rfl, rfl, rfl⟩ := trodAll_nil r5
  obtain rfl : args = #[v0, v1, v2, v3, v4, v5] := Array.ext' hargs
  obtain ⟨rfl, rfl⟩ := trodVars_none hV
  have hMonths := months_of_laid (Rows.alarmTellsRow.named.getD 0 "") (by kernel_rfl) hL (by rfl)
  have hErrT := errT_of_laid (Rows.alarmTellsRow.named.getD 1 "") (by kernel_rfl) hL (List.mem_filter.2 ⟨List.mem_of_getElem? (i := 1) rfl, rfl⟩)
  have k0 := h0
  have lt0 : ∀ x ∈ p0, x.block < W.heap.size := by obtain ⟨m, hm⟩ := k0; exact DataW.trod_lt m _ _ _ hm
  obtain ⟨c00, c01, y00, y01, n0, rfl, hd0, hp0, g00, g01⟩ := open_agg2 Tryz.underlying33 (by kernel_rfl) (by kernel_rfl) (hval 0 33 v0 rfl rfl) h0
  obtain ⟨a00, e00, z00, w00⟩ := DataW.trod_int Tryz.underlying3 g00
  simp only [List.cons.injEq, and_true] at e00; subst e00
  obtain ⟨L01, hL01⟩ := open_pairsR Tryz.underlying31 Tryz.underlying126 (by kernel_rfl) rfl rfl (by kernel_rfl) (by kernel_rfl) Tryz.underlying3 Tryz.underlying3 g01
  have k1 := h1
  have lt1 : ∀ x ∈ p1, x.block < W.heap.size := by obtain ⟨m, hm⟩ := k1; exact DataW.trod_lt m _ _ _ hm
  obtain ⟨nm1, tx1, st1, ln1, rp1, fr1, ev1, ct1, ti1, vm1, vd1, vw1, vp1, vM1, vN1, vC1, vA1, mo1, da1, we1, pk1, M1, N1, C1, A1, rfl, xmo1, xda1, xwe1, xpk1, xM1, xN1, xC1, xA1, xwf1, xB1⟩ := open_event2 (hval 1 29 v1 rfl rfl) h1
  obtain ⟨b01, b11, b21, b31⟩ := xB1 _ _ (by have hq := hreach; rw [Tryz.params5] at hq; exact each_tail (hq))
  obtain ⟨a2, rfl, rfl, rfl, w2⟩ := open_int Tryz.underlying3 (hval 2 3 v2 rfl rfl) h2
  obtain ⟨a3, rfl, rfl, rfl, w3⟩ := open_int Tryz.underlying3 (hval 3 3 v3 rfl rfl) h3
  have k4 := h4
  have lt4 : ∀ x ∈ p4, x.block < W.heap.size := by obtain ⟨m, hm⟩ := k4; exact DataW.trod_lt m _ _ _ hm
  obtain ⟨c40, c41, c42, c43, c44, y40, y41, y42, y43, y44, n4, rfl, hd4, hp4, g40, g41, g42, g43, g44⟩ := open_agg5 Tryz.underlying66 (by kernel_rfl) (by kernel_rfl) (hval 4 66 v4 rfl rfl) h4
  obtain ⟨a40, e40, z40, w40⟩ := DataW.trod_int Tryz.underlying3 g40
  simp only [List.cons.injEq, and_true] at e40; subst e40
  obtain ⟨a41, e41, z41, w41⟩ := DataW.trod_string Tryz.underlying9 g41
  simp only [List.cons.injEq, and_true] at e41; subst e41
  obtain ⟨a42, e42, z42, w42⟩ := DataW.trod_int Tryz.underlying3 g42
  simp only [List.cons.injEq, and_true] at e42; subst e42
  obtain ⟨a43, e43, z43, w43⟩ := DataW.trod_int Tryz.underlying3 g43
  simp only [List.cons.injEq, and_true] at e43; subst e43
  obtain ⟨a44, e44, z44, w44⟩ := DataW.trod_int Tryz.underlying3 g44
  simp only [List.cons.injEq, and_true] at e44; subst e44
  have k5 := h5
  have lt5 : ∀ x ∈ p5, x.block < W.heap.size := by obtain ⟨m, hm⟩ := k5; exact DataW.trod_lt m _ _ _ hm
  obtain ⟨c50, c51, c52, c53, c54, y50, y51, y52, y53, y54, n5, rfl, hd5, hp5, g50, g51, g52, g53, g54⟩ := open_agg5 Tryz.underlying66 (by kernel_rfl) (by kernel_rfl) (hval 5 66 v5 rfl rfl) h5
  obtain ⟨a50, e50, z50, w50⟩ := DataW.trod_int Tryz.underlying3 g50
  simp only [List.cons.injEq, and_true] at e50; subst e50
  obtain ⟨a51, e51, z51, w51⟩ := DataW.trod_string Tryz.underlying9 g51
  simp only [List.cons.injEq, and_true] at e51; subst e51
  obtain ⟨a52, e52, z52, w52⟩ := DataW.trod_int Tryz.underlying3 g52
  simp only [List.cons.injEq, and_true] at e52; subst e52
  obtain ⟨a53, e53, z53, w53⟩ := DataW.trod_int Tryz.underlying3 g53
  simp only [List.cons.injEq, and_true] at e53; subst e53
  obtain ⟨a54, e54, z54, w54⟩ := DataW.trod_int Tryz.underlying3 g54
  simp only [List.cons.injEq, and_true] at e54; subst e54
  clear hA0 hval0
  refine (alarmTells_law a00 c01 L01 nm1 tx1 st1 ln1 rp1 fr1 ev1 ct1 ti1 vm1 vd1 vw1 vp1 vM1 vN1 vC1 vA1 mo1 da1 we1 pk1 M1 N1 C1 A1 a2 a3 a40 a41 a42 a43 a44 a50 a51 a52 a53 a54 W hMonths hErrT w00 hL01 xmo1 xda1 xwe1 xpk1 xM1 xN1 xC1 xA1 b01 b11 b21 b31 w2 w3 w40 w42 w43 w44 w50 w52 w53 w54).mono fun e W' ⟨he, bel⟩ => ?_
  subst he
  exact ⟨_, rfl, _, _, _, [], _, [], hW', trodAll_mk1 (shut_bool Tryz.underlying4 _), (trodAll_cons_mk (Below.trod laidOut (by kernel_rfl) (of_decide_eq_true (by kernel_rfl)) k0 bel lt0) (trodAll_cons_mk (Below.trod laidOut (by kernel_rfl) (of_decide_eq_true (by kernel_rfl)) k1 bel lt1) (trodAll_cons_mk (shut_int Tryz.underlying3 w2) (trodAll_cons_mk (shut_int Tryz.underlying3 w3) (trodAll_cons_mk (Below.trod laidOut (by kernel_rfl) (of_decide_eq_true (by kernel_rfl)) k4 bel lt4) (trodAll_cons_mk (Below.trod laidOut (by kernel_rfl) (of_decide_eq_true (by kernel_rfl)) k5 bel lt5) trodAll_mk0)))))), rfl, bel.frame _, fun h => by cases h⟩
end Go.Proofs.YtgelojhpanbnaaaGreatDoor.lawAlarmTells
