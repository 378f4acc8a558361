/- The statement of the law SeqTells, for every input: from its walk to the given row, and the row's tied card. -/
import Derived.Test.YtdpngbjlljgoaaaDoorRows
import Derived.Test.YtdpngbjlljgoaaaDoorDayB
import Derived.ProofKit
import Derived.LaidMore
import Derived.LaidSub
import Derived.MakeChecks
import Derived.OpenShut
import Derived.Lib.LaidTab
import Derived.Stop.Joined
import Derived.Test.YtdpngbjlljgoaaaDoorErr
import Derived.LaidHandle
import Derived.Test.YtdpngbjlljgoaaaDoorOpen
import Derived.Lib.SmallJoins
import Derived.Test.YtdpngbjlljgoaaaDoorSeqTells
import Derived.Test.YtdpngbjlljgoaaaDoorCards
import Derived.Test.YtdpngbjlljgoaaaDoorTie
import Derived.SevenTiedAt
import Derived.WalkKit
import Derived.ShutString
import Derived.ChangeOld
import Derived.Below
namespace Go.Proofs.YtdpngbjlljgoaaaDoor
open Go.ChangeShapes Go.WideShapes Go.ChangeAt Go.RowKit

theorem tMonths : (Tryd.prog.globals[1]?).map (·.type) = some 221 := by kernel_rfl

theorem months_of_laid {W : World} {l : List (String × DataW Unit)} (nm : String) (hg : Tryd.prog.globalNamed nm = some 1) (h : laidMetH Tryd.prog l W)
    (hl : (l.filter fun x => x.1 == nm) = [(nm, Lib.tabData .i64 [31, 28, 31, 30, 31, 30, 31, 31, 30, 31, 30, 31])]) : Months W := by
  have h1 := h.filter (fun x => x.1 == nm)
  rw [hl] at h1
  rw [MakeChecks.laidMetH_plain _ _ _ (by rfl)] at h1
  have hT := Lib.tabIs_of_head hg tMonths Tryd.underlying221 Tryd.underlying3 (by kernel_rfl) (by kernel_rfl) h1
  intro m h2 h3
  have hc := hT.cell hg (m.toNat - 1) (by simp; omega)
  rw [hc]
  obtain h | h | h | h | h | h | h | h | h | h | h | h : m = 1 ∨ m = 2 ∨ m = 3 ∨ m = 4 ∨ m = 5 ∨ m = 6 ∨ m = 7 ∨ m = 8 ∨ m = 9 ∨ m = 10 ∨ m = 11 ∨ m = 12 := by omega
  all_goals (subst h; rfl)
end Go.Proofs.YtdpngbjlljgoaaaDoor

namespace Go.Proofs.YtdpngbjlljgoaaaDoor
open Go.ChangeShapes Go.WideShapes Go.ChangeAt Go.RowKit

theorem errOneRow : ((List.range 320).filter fun t => Tryd.prog.rowNamed t [101, 114, 114, 111, 114]) = [27] := by kernel_rfl

theorem errTypes : Tryd.prog.types.size = 320 := by kernel_rfl

theorem errT_of_laid {W : World} {l : List (String × DataW Unit)} (nm : String) (hg : Tryd.prog.globalNamed nm = some 0) (h : laidMetH Tryd.prog l W)
    (hx : (nm, Rows.laid_errors_errorType) ∈ l.filter fun x => x.2.handleName?.isSome) : ErrT W := by
  obtain ⟨_, hs⟩ := laidMetH_iff.1 h
  obtain ⟨name, u, ty, e1, e2, e3, e4, e5⟩ := hs _ hx
  have en : name = [101, 114, 114, 111, 114] := (Option.some.inj e1).symm
  subst en
  have eu : some u = some 248 := e2.symm.trans (by kernel_rfl)
  obtain rfl := Option.some.inj eu
  have hm : ty ∈ (List.range 320).filter fun t => Tryd.prog.rowNamed t [101, 114, 114, 111, 114] := List.mem_filter.2 ⟨List.mem_range.2 (by rw [← errTypes]; exact e3), e4⟩
  rw [errOneRow] at hm
  obtain rfl := List.mem_singleton.1 hm
  have hh : typeHandle Tryd.prog 27 = .pointer (some ⟨6, 27, none⟩) := by kernel_rfl
  rw [hh] at e5
  simpa [ErrT] using World.var?_cell hg e5 0

end Go.Proofs.YtdpngbjlljgoaaaDoor

namespace Go.Proofs.YtdpngbjlljgoaaaDoor
open Go.Joins Go.ChangeShapes Go.WideShapes Go.RowKit Go.Deep

section
variable {H : Type} {enc : TypeId × Value → H} {P : Program} {w : World} {base : Nat} {spare : Nat → Bool} {held : Bool}
theorem open_agg8 {r : Reach} {b0 : Nat} {t : TypeId} {f0 f1 f2 f3 f4 f5 f6 f7 : Field} {v : Value} {d : DataW H} {p : List MemPlace} (hs : P.underlying t = some (.struct #[f0, f1, f2, f3, f4, f5, f6, f7])) (hone : oneCellFields P #[f0, f1, f2, f3, f4, f5, f6, f7] = true) (hC : P.cellsOf t = 8)
    (hv : Value.okWide P w r b0 t v) (h : DataW.Trod enc P w base spare held t v d p) :
    ∃ (v0 v1 v2 v3 v4 v5 v6 v7 : Value) (y0 y1 y2 y3 y4 y5 y6 y7 : DataW H × List MemPlace) (n : Nat), v = .agg #[v0, v1, v2, v3, v4, v5, v6, v7] ∧ d = .agg [y0.1, y1.1, y2.1, y3.1, y4.1, y5.1, y6.1, y7.1] ∧ p = y0.2 ++ (y1.2 ++ (y2.2 ++ (y3.2 ++ (y4.2 ++ (y5.2 ++ (y6.2 ++ y7.2)))))) ∧
      DataW.trod enc P w base spare held n f0.type [v0] = some y0 ∧ DataW.trod enc P w base spare held n f1.type [v1] = some y1 ∧ DataW.trod enc P w base spare held n f2.type [v2] = some y2 ∧ DataW.trod enc P w base spare held n f3.type [v3] = some y3 ∧ DataW.trod enc P w base spare held n f4.type [v4] = some y4 ∧ DataW.trod enc P w base spare held n f5.type [v5] = some y5 ∧ DataW.trod enc P w base spare held n f6.type [v6] = some y6 ∧ DataW.trod enc P w base spare held n f7.type [v7] = some y7 := by
  obtain ⟨cs, rfl, hsz⟩ := okWide_struct hs hv
  obtain ⟨l⟩ := cs
  match l, hsz.trans hC with
  | [c0, c1, c2, c3, c4, c5, c6, c7], _ =>
    obtain ⟨fuel, hf⟩ := h
    obtain ⟨xs, n, _, hx, _, hlen, hg⟩ := DataW.trod_struct hs hf
    obtain ⟨o0, k0⟩ := hone_of hone 0 f0 rfl
    obtain ⟨o1, k1⟩ := hone_of hone 1 f1 rfl
    obtain ⟨o2, k2⟩ := hone_of hone 2 f2 rfl
    obtain ⟨o3, k3⟩ := hone_of hone 3 f3 rfl
    obtain ⟨o4, k4⟩ := hone_of hone 4 f4 rfl
    obtain ⟨o5, k5⟩ := hone_of hone 5 f5 rfl
    obtain ⟨o6, k6⟩ := hone_of hone 6 f6 rfl
    obtain ⟨o7, k7⟩ := hone_of hone 7 f7 rfl
    match xs, hlen with
    | [y0, y1, y2, y3, y4, y5, y6, y7], _ =>
      simp only [Prod.mk.injEq] at hx
      exact ⟨c0, c1, c2, c3, c4, c5, c6, c7, y0, y1, y2, y3, y4, y5, y6, y7, n, rfl, by simpa using hx.1, by simpa using hx.2, by simpa [Value.cells, o0, k0] using hg 0 f0 rfl, by simpa [Value.cells, o1, k1] using hg 1 f1 rfl, by simpa [Value.cells, o2, k2] using hg 2 f2 rfl, by simpa [Value.cells, o3, k3] using hg 3 f3 rfl, by simpa [Value.cells, o4, k4] using hg 4 f4 rfl, by simpa [Value.cells, o5, k5] using hg 5 f5 rfl, by simpa [Value.cells, o6, k6] using hg 6 f6 rfl, by simpa [Value.cells, o7, k7] using hg 7 f7 rfl⟩
end

end Go.Proofs.YtdpngbjlljgoaaaDoor

namespace Go.Proofs.YtdpngbjlljgoaaaDoor
open Go.RowKit Go.Shelf
set_option linter.unusedVariables false

theorem seqTells_top (fr ev ct ti : Int) (vm : Value) (mo : List Int) (vd : Value) (da : List Int) (vw : Value) (we : List (Int × Int)) (vp : Value) (pk : List Int) (st n af up : Int) (w : World) (hw : Months w) (hx : ErrT w)
    (_ : (Lit.int .i64 fr).wf = true) (_ : (Lit.int .i64 ev).wf = true) (_ : (Lit.int .i64 ct).wf = true) (_ : (Lit.int .i64 ti).wf = true)
    (h1 : IntsR w vm mo) (h2 : IntsR w vd da) (h3 : PairsR w vw we) (h4 : IntsR w vp pk) (_ : (Lit.int .i64 st).wf = true) (_ : (Lit.int .i64 n).wf = true) (_ : (Lit.int .i64 af).wf = true) (_ : (Lit.int .i64 up).wf = true) :
    Calls Tryd.prog 4 #[.agg #[.int .i64 fr, .int .i64 ev, .int .i64 ct, .int .i64 ti, vm, vd, vw, vp], .int .i64 st, .int .i64 n, .int .i64 af, .int .i64 up] w fun e w' => e = .returned (.bool true) ∧ Below w.heap.size w w' := by
  by_cases hF : seqF (ruleF fr ev ct ti mo da we pk) st = 0
  · have hR : ruleF fr ev ct ti mo da we pk = 0 := by
      unfold seqF at hF
      by_cases h : ruleF fr ev ct ti mo da we pk ≠ 0
      · rw [if_pos h] at hF; exact hF
      · omega
    have hs : 1 ≤ st ∧ st ≤ 109573 := by
      unfold seqF at hF
      rw [if_neg (by omega)] at hF
      by_cases h : 1 ≤ st ∧ st ≤ 109573
      · exact h
      · rw [if_neg h] at hF; omega
    obtain ⟨y, m, d, hd, hst⟩ := Cal.ex_date st hs.1 hs.2
    exact seqTells_ok fr ev ct ti st n af up y m d vm vd vw vp mo da we pk w hw hx h1 h2 h3 h4 hd hst hR
  · exact seqTells_bad fr ev ct ti st n af up vm vd vw vp mo da we pk w hw hx h1 h2 h3 h4 hF

end Go.Proofs.YtdpngbjlljgoaaaDoor

namespace Go.Proofs.YtdpngbjlljgoaaaDoor.lawSeqTells
open Go.ChangeShapes Go.WideShapes Go.ChangeAt Go.RowKit
open Go.ChangeMaps (open_string shut_string)
open Go.Joins
set_option linter.unusedVariables false
theorem own : ownKnob Tryd.prog.godebug = none := by kernel_rfl
theorem laidOut : laidOutB Tryd.prog = true := by kernel_rfl
/-- The door's own heap meets the condition: closed facts. -/
theorem door_met (os : Os) (args : Array Value) : laidMetH Tryd.prog Rows.seqTellsRow.laid ((World.doorLaid Tryd.prog 400 os).forCall (fun _ _ => 0) ⟨#[], args, []⟩).memory :=
  laidMetH_of_parts3 (fuel := 8) (laidMet_of_run' 8 (by kernel_rfl) (by kernel_rfl)) (by kernel_rfl) (by kernel_rfl)
set_option maxRecDepth 100000 in
theorem lifted (os : Os) (started : os.Started) (H : Type) (enc : TypeId × Value → H) :
    ReturnsInHanded {} Tryd.checked os 4 .any (fun w args => (Rows.seqTellsSpec.pre enc Tryd.prog Tryd.f4 [] false w args ∧ laidMetH Tryd.prog Rows.seqTellsRow.laid w) ∧ sizedMet enc Tryd.prog Tryd.f4 (OpenSpec.ofChange Rows.seqTellsSpec) false w args)
      (Rows.seqTellsSpec.post enc Tryd.prog Tryd.f4 false true false false) := by
  refine returnsInHanded_of_change_and (C := Tryd.checked) (X := fun w _ => laidMetH Tryd.prog Rows.seqTellsRow.laid w) (fun _ _ _ hh h => h.of_heap hh) own started (by kernel_rfl) Tryd.func4
    (ChangeSpec.witness_shaped (enc := enc) (C := Tryd.checked) (os := os) (X := fun w _ => laidMetH Tryd.prog Rows.seqTellsRow.laid w) false (World.doorLaid Tryd.prog 400 os) #[.agg #[.int .i64 0, .int .i64 0, .int .i64 0, .int .i64 0, .slice none 0 0, .slice none 0 0, .slice none 0 0, .slice none 0 0], .int .i64 0, .int .i64 0, .int .i64 0, .int .i64 0] 8 rfl (World.shaped_of_RefB (by kernel_rfl) (by kernel_rfl)) (by kernel_rfl) (by kernel_rfl) (by kernel_rfl) (door_met os _)) ?_
  intro W base args ds gs before hval0 hW hcnd hreach hL _
  have hval : ∀ (j : Nat) t v, Tryd.f4.params[j]? = some t → args[j]? = some v → Value.okWide Tryd.prog W .any base t v := hval0
  have hW' := hW
  obtain ⟨p, q, hA0, hV, rfl, hfz, hnd⟩ := hW
  have hA : DataW.TrodAll enc Tryd.prog W 0 (fun _ => true) true Tryd.f4.params.toList args.toList ds p := hA0
  rw [Tryd.params4] at hA hval
  obtain ⟨v0, vs0, d0, ds0, p0, q0, hargs, rfl, rfl, h0, r0⟩ := trodAll_cons hA
  obtain ⟨v1, vs1, d1, ds1, p1, q1, rfl, rfl, rfl, h1, r1⟩ := trodAll_cons r0
  obtain ⟨v2, vs2, d2, ds2, p2, q2, rfl, rfl, rfl, h2, r2⟩ := trodAll_cons r1
  obtain ⟨v3, vs3, d3, ds3, p3, q3, rfl, rfl, rfl, h3, r3⟩ := trodAll_cons r2
  obtain ⟨v4, vs4, d4, ds4, p4, q4, rfl, rfl, rfl, h4, r4⟩ := trodAll_cons r3
  obtain ⟨rfl, rfl, rfl⟩ := trodAll_nil r4
  obtain rfl : args = #[v0, v1, v2, v3, v4] := Array.ext' hargs
  obtain ⟨rfl, rfl⟩ := trodVars_none hV
  have hMonths := months_of_laid (Rows.seqTellsRow.named.getD 0 "") (by kernel_rfl) hL (by rfl)
  have hErrT := errT_of_laid (Rows.seqTellsRow.named.getD 1 "") (by kernel_rfl) hL (List.mem_filter.2 ⟨List.mem_of_getElem? (i := 1) rfl, rfl⟩)
  have k0 := h0
  have lt0 : ∀ x ∈ p0, x.block < W.heap.size := by obtain ⟨m, hm⟩ := k0; exact DataW.trod_lt m _ _ _ hm
  obtain ⟨c00, c01, c02, c03, c04, c05, c06, c07, y00, y01, y02, y03, y04, y05, y06, y07, n0, rfl, hd0, hp0, g00, g01, g02, g03, g04, g05, g06, g07⟩ := open_agg8 Tryd.underlying25 (by kernel_rfl) (by kernel_rfl) (hval 0 25 v0 rfl rfl) h0
  obtain ⟨a00, e00, z00, w00⟩ := DataW.trod_int Tryd.underlying3 g00
  simp only [List.cons.injEq, and_true] at e00; subst e00
  obtain ⟨a01, e01, z01, w01⟩ := DataW.trod_int Tryd.underlying3 g01
  simp only [List.cons.injEq, and_true] at e01; subst e01
  obtain ⟨a02, e02, z02, w02⟩ := DataW.trod_int Tryd.underlying3 g02
  simp only [List.cons.injEq, and_true] at e02; subst e02
  obtain ⟨a03, e03, z03, w03⟩ := DataW.trod_int Tryd.underlying3 g03
  simp only [List.cons.injEq, and_true] at e03; subst e03
  obtain ⟨L04, hL04⟩ := open_intsR Tryd.underlying22 (by kernel_rfl) Tryd.underlying3 g04
  obtain ⟨L05, hL05⟩ := open_intsR Tryd.underlying22 (by kernel_rfl) Tryd.underlying3 g05
  obtain ⟨L06, hL06⟩ := open_pairsR Tryd.underlying23 Tryd.underlying31 (by kernel_rfl) rfl rfl (by kernel_rfl) (by kernel_rfl) Tryd.underlying3 Tryd.underlying3 g06
  obtain ⟨L07, hL07⟩ := open_intsR Tryd.underlying22 (by kernel_rfl) Tryd.underlying3 g07
  obtain ⟨a1, rfl, rfl, rfl, w1⟩ := open_int Tryd.underlying3 (hval 1 3 v1 rfl rfl) h1
  obtain ⟨a2, rfl, rfl, rfl, w2⟩ := open_int Tryd.underlying3 (hval 2 3 v2 rfl rfl) h2
  obtain ⟨a3, rfl, rfl, rfl, w3⟩ := open_int Tryd.underlying3 (hval 3 3 v3 rfl rfl) h3
  obtain ⟨a4, rfl, rfl, rfl, w4⟩ := open_int Tryd.underlying3 (hval 4 3 v4 rfl rfl) h4
  clear hA0 hval0
  refine (seqTells_top a00 a01 a02 a03 c04 L04 c05 L05 c06 L06 c07 L07 a1 a2 a3 a4 W hMonths hErrT w00 w01 w02 w03 hL04 hL05 hL06 hL07 w1 w2 w3 w4).mono fun e W' ⟨he, bel⟩ => ?_
  subst he
  exact ⟨_, rfl, _, _, _, [], _, [], hW', trodAll_mk1 (shut_bool Tryd.underlying4 _), (trodAll_cons_mk (Below.trod laidOut (by kernel_rfl) (of_decide_eq_true (by kernel_rfl)) k0 bel lt0) (trodAll_cons_mk (shut_int Tryd.underlying3 w1) (trodAll_cons_mk (shut_int Tryd.underlying3 w2) (trodAll_cons_mk (shut_int Tryd.underlying3 w3) (trodAll_cons_mk (shut_int Tryd.underlying3 w4) trodAll_mk0))))), rfl, bel.frame _, fun h => by cases h⟩
theorem over : Rows.seqTellsRow.holds Tryd.pinned (OpenSpec.ofChange Rows.seqTellsSpec) :=
  OpenClaim.holds_of_wide 4 Tryd.f4 rfl rfl rfl rfl rfl rfl rfl ⟨rfl, rfl, rfl, rfl, rfl⟩ rfl rfl rfl rfl rfl (by kernel_rfl) Tryd.func4 (by kernel_rfl)
    (of_decide_eq_true (by kernel_rfl)) (by unfold Func.isWrapper; first | (rw [if_pos (by decide +kernel)]; kernel_rfl) | (rw [if_neg (by decide +kernel)]; exact ⟨rfl, rfl⟩))
    (fun os started H enc _ => lifted os started H enc)
theorem bare : Rows.SeqTellsSaid := over
/-- The statement: the tied card. -/
theorem proved : Rows.SeqTellsCardSaid :=
  Claim7.holds_tied_plain_at .later [] [.data, .handle] true _ true
    bare (fun _ h => by cases h) (by kernel_rfl) (fun _ h => by cases h) seqTells_row_tie rfl ⟨rfl, rfl⟩ (by kernel_rfl) rfl
    (fun f fn hf hfn => by
      obtain rfl : f = 4 := Option.some.inj ((show Tryd.prog.funcNamed Rows.seqTellsRow.func = some 4 by kernel_rfl).symm.trans hf) |>.symm
      obtain rfl : fn = Tryd.f4 := (Option.some.inj (Tryd.func4.symm.trans hfn)).symm
      exact ⟨by kernel_rfl, fun j t ht => by
        rw [Tryd.params4] at ht
        have hm : t ∈ [25, 3] := by simpa using Array.mem_of_getElem? ht
        have hall : ([25, 3].all fun u => !Tryd.prog.wantsStandIn u) = true := by kernel_rfl
        exact (show Tryd.prog.wantsStandIn t = false by simpa using List.all_eq_true.1 hall t hm)⟩)
    (by kernel_rfl)
#print axioms proved
end Go.Proofs.YtdpngbjlljgoaaaDoor.lawSeqTells
