/- seq.Has, where nothing is wrong; the others at Calls. -/
import Derived.Test.YtdpngbjlljgoaaaDoorSeqG
import Derived.Test.YtdpngbjlljgoaaaDoorSeqI
import Derived.Test.YtdpngbjlljgoaaaDoorSeqF
namespace Go.Proofs.YtdpngbjlljgoaaaDoor
open Go.RowKit Go.Shelf
set_option linter.unusedSimpArgs false
set_option linter.unusedVariables false

theorem btw_one {E : List Int} (hE : E.Pairwise (· < ·)) (n : Int) : (btwL E n n).length ≤ 1 ∧ ∀ x ∈ btwL E n n, x = n := by
  have hm : ∀ x ∈ btwL E n n, x = n := fun x hx => by
    have := (List.mem_filter.1 hx).2
    simp at this; omega
  have hp : (btwL E n n).Pairwise (· < ·) := hE.sublist List.filter_sublist
  refine ⟨?_, hm⟩
  match h : btwL E n n with
  | [] => simp
  | [x] => simp
  | x :: z :: r =>
    rw [h] at hm hp
    have h1 := hm x (by simp)
    have h2 := hm z (by simp)
    have h3 := (List.pairwise_cons.1 hp).1 z (by simp)
    omega

theorem inB_btw {E : List Int} (n : Int) : inB (btwL E n n) n = inB E n := by
  rw [Bool.eq_iff_iff]
  simp [inB, btwL]

theorem scount_ok (fr ev ct ti y mm d st : Int) (vm vd vw vp : Value) (mo da : List Int) (we : List (Int × Int)) (pk : List Int) (w : World) (hw : Months w)
    (h1 : IntsR w vm mo) (h2 : IntsR w vd da) (h3 : PairsR w vw we) (h4 : IntsR w vp pk) (hd : Cal.dateB y mm d = true) (hst : Cal.num y mm d = st) (hF : ruleF fr ev ct ti mo da we pk = 0) :
    Calls Tryd.prog 12 #[.agg #[.int .i64 fr, .int .i64 ev, .int .i64 ct, .int .i64 ti, vm, vd, vw, vp], .int .i64 st] w
      fun e w' => e = .returned (.tuple #[.int .i64 ((min (eachL fr ev ct ti y mm d mo da we pk st).length 201 : Nat) : Int), .nilIface]) ∧ Below w.heap.size w w' :=
  (callsIn_wide (n := 10)).1 (scount_in 9 fr ev ct ti y mm d st vm vd vw vp mo da we pk w hw h1 h2 h3 h4 hd hst hF)

theorem snext_ok (fr ev ct ti y mm d st af : Int) (vm vd vw vp : Value) (mo da : List Int) (we : List (Int × Int)) (pk : List Int) (w : World) (hw : Months w)
    (h1 : IntsR w vm mo) (h2 : IntsR w vd da) (h3 : PairsR w vw we) (h4 : IntsR w vp pk) (hd : Cal.dateB y mm d = true) (hst : Cal.num y mm d = st) (hF : ruleF fr ev ct ti mo da we pk = 0) :
    Calls Tryd.prog 14 #[.agg #[.int .i64 fr, .int .i64 ev, .int .i64 ct, .int .i64 ti, vm, vd, vw, vp], .int .i64 st, .int .i64 af] w
      fun e w' => e = .returned (.tuple #[.int .i64 (nextP (eachL fr ev ct ti y mm d mo da we pk st) af).1, errV (nextP (eachL fr ev ct ti y mm d mo da we pk st) af).2]) ∧ Below w.heap.size w w' :=
  (callsIn_wide (n := 10)).1 (snext_in 9 fr ev ct ti y mm d st af vm vd vw vp mo da we pk w hw h1 h2 h3 h4 hd hst hF)

theorem sbetween_ok (fr ev ct ti y mm d st fo up : Int) (vm vd vw vp : Value) (mo da : List Int) (we : List (Int × Int)) (pk : List Int) (w : World) (hw : Months w)
    (h1 : IntsR w vm mo) (h2 : IntsR w vd da) (h3 : PairsR w vw we) (h4 : IntsR w vp pk) (hd : Cal.dateB y mm d = true) (hst : Cal.num y mm d = st) (hF : ruleF fr ev ct ti mo da we pk = 0) :
    Calls Tryd.prog 15 #[.agg #[.int .i64 fr, .int .i64 ev, .int .i64 ct, .int .i64 ti, vm, vd, vw, vp], .int .i64 st, .int .i64 fo, .int .i64 up] w
      fun e w' => ∃ v, e = .returned (.tuple #[v, errV (fullF (btwL (eachL fr ev ct ti y mm d mo da we pk st) fo up))]) ∧ (IntsR w' v (cutL (btwL (eachL fr ev ct ti y mm d mo da we pk st) fo up)) ∧ FreshV w.heap.size v) ∧ Below w.heap.size w w' :=
  (callsIn_wide (n := 10)).1 (sbetween_in 9 fr ev ct ti y mm d st fo up vm vd vw vp mo da we pk w hw h1 h2 h3 h4 hd hst hF)

set_option maxRecDepth 100000 in
set_option maxHeartbeats 2000000 in
theorem shas_ok (fr ev ct ti y mm d st n : Int) (vm vd vw vp : Value) (mo da : List Int) (we : List (Int × Int)) (pk : List Int) (w : World) (hw : Months w)
    (h1 : IntsR w vm mo) (h2 : IntsR w vd da) (h3 : PairsR w vw we) (h4 : IntsR w vp pk) (hd : Cal.dateB y mm d = true) (hst : Cal.num y mm d = st) (hF : ruleF fr ev ct ti mo da we pk = 0) :
    Calls Tryd.prog 13 #[.agg #[.int .i64 fr, .int .i64 ev, .int .i64 ct, .int .i64 ti, vm, vd, vw, vp], .int .i64 st, .int .i64 n] w
      fun e w' => e = .returned (.tuple #[.bool (inB (eachL fr ev ct ti y mm d mo da we pk st) n), .nilIface]) ∧ Below w.heap.size w w' := by
  have hEu := (eachL_up hd hst (ruleF_0 hF).2.1 (fr := fr) (ct := ct) (ti := ti) (mo := mo) (da := da) (we := we) (pk := pk)).1
  obtain ⟨L, hL⟩ : ∃ L, L = btwL (eachL fr ev ct ti y mm d mo da we pk st) n n := ⟨_, rfl⟩
  have hl1 : L.length ≤ 1 := by rw [hL]; exact (btw_one hEu n).1
  rw [← inB_btw n, ← hL]
  obtain ⟨am, km, rfl, _, _, _⟩ := intsR_open h1
  obtain ⟨ad, kd, rfl, _, _, _⟩ := intsR_open h2
  obtain ⟨aw, kw, rfl, _, _, _⟩ := pairsR_open h3
  obtain ⟨ap, kp, rfl, _, _, _⟩ := intsR_open h4
  have hb0 : Below w.heap.size w (w.alloc (.cells #[.int .i64 fr, .int .i64 ev, .int .i64 ct, .int .i64 ti, .slice am mo.length km, .slice ad da.length kd, .slice aw we.length kw, .slice ap pk.length kp] 25)) := (Below.refl _ _).alloc (Nat.le_refl _) _
  go_enter Tryd.func13, Tryd.ntmps13
  go_wp2_with fail
  refine (sbetween_ok fr ev ct ti y mm d st n n _ _ _ _ mo da we pk _ (hw.below hb0) (h1.below hb0) (h2.below hb0) (h3.below hb0) (h4.below hb0) hd hst hF).mono ?_; rintro e w1 ⟨v, rfl, ⟨hv, hf⟩, hb1⟩
  rw [← hL] at hv
  rw [← hL, show fullF L = 0 by rw [fullF, if_neg (by omega)], errV_0]
  rw [show cutL L = L by rw [cutL, if_neg (by omega)]] at hv
  have hbb := hb0.trans (hb1.mono hb0.size)
  obtain ⟨va, vc, rfl, _, _, _⟩ := intsR_open hv
  clear hL hl1
  go_wp2_with fail
  refine (scont_any _ L n _ hv).mono ?_; rintro e w2 ⟨rfl, hb2⟩
  have hfin := hbb.trans (hb2.mono hbb.size)
  go_wp2
  refine bodyPost_ret (results_tmp2 rfl _ _ _) rfl ?_
  exact ⟨rfl, hfin⟩

end Go.Proofs.YtdpngbjlljgoaaaDoor
