/- The law PlanFits, as its frame takes it. -/
import Derived.Test.YtkpmddlinlcobaaGreatDoorPlanFits
namespace Go.Proofs.YtkpmddlinlcobaaGreatDoor
open Go.RowKit Go.Shelf
set_option linter.unusedVariables false

theorem planFits_law (ah : Int) (vZ : Value) (Z : List (Int × Int)) (v1 : Value) (L1 : List Ev) (ah2 : Int) (vY : Value) (Z2 : List (Int × Int)) (v2 : Value) (L2 : List Ev) (a b n : Int) (w : World) (hw : Months w)
    (w0 : (Lit.int .i64 ah).wf = true) (hZ : PairsR w vZ Z) (hL1 : EvsR w v1 L1) (w1 : (Lit.int .i64 ah2).wf = true) (hZ2 : PairsR w vY Z2) (hL2 : EvsR w v2 L2) (w2 : (Lit.int .i64 a).wf = true) (w3 : (Lit.int .i64 b).wf = true) (w4 : (Lit.int .i64 n).wf = true) :
    Calls Tryz.prog 11 #[.agg #[.int .i64 ah, vZ], v1, .agg #[.int .i64 ah2, vY], v2, .int .i64 a, .int .i64 b, .int .i64 n] w fun e w' => e = .returned (.bool true) ∧ Below w.heap.size w w' :=
  planFits_any ah vZ Z v1 L1 ah2 vY Z2 v2 L2 a b n w hw hZ hL1 hZ2 hL2

end Go.Proofs.YtkpmddlinlcobaaGreatDoor
