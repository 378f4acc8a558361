/- The law TimesHold, as its frame takes it. -/
import Derived.Test.YtkpmddlinlcobaaGreatDoorTimesHold
namespace Go.Proofs.YtkpmddlinlcobaaGreatDoor
open Go.RowKit Go.Shelf
set_option linter.unusedVariables false

theorem timesHold_law (ah : Int) (vZ : Value) (Z : List (Int × Int)) (nm tx : List UInt8) (st ln : Int) (rp : Bool) (fr ev ct ti : Int) (vm vd vw vp vM vN vC vA : Value) (mo da : List Int) (we : List (Int × Int)) (pk M N : List Int) (C : List (Int × Int)) (A : List Alm) (a c b : Int) (w : World) (hw : Months w) (w0 : (Lit.int .i64 ah).wf = true) (hZ : PairsR w vZ Z)
    (hmo : IntsR w vm mo) (hda : IntsR w vd da) (hwe : PairsR w vw we) (hpk : IntsR w vp pk) (hM : IntsR w vM M) (hN : IntsR w vN N) (hC : PairsR w vC C) (hA : AlmsR w vA A)
    (hnm : nm.length ≤ 140737488351232) (htx : tx.length ≤ 140737488351232) (hcl : C.length ≤ 8796093022208) (w1 : (Lit.int .i64 a).wf = true) (w2 : (Lit.int .i64 c).wf = true) (w3 : (Lit.int .i64 b).wf = true) :
    Calls Tryz.prog 5 #[.agg #[.int .i64 ah, vZ], .agg #[.string (bs nm), .string (bs tx), .int .i64 st, .int .i64 ln, .bool rp, .int .i64 fr, .int .i64 ev, .int .i64 ct, .int .i64 ti, vm, vd, vw, vp, vM, vN, vC, vA], .int .i64 a, .int .i64 c, .int .i64 b] w fun e w' => e = .returned (.bool true) ∧ Below w.heap.size w w' :=
  timesHold_any ah vZ Z nm tx st ln rp fr ev ct ti vm vd vw vp vM vN vC vA mo da we pk M N C A a c b w hw hZ ⟨hmo, hda, hwe, hpk, hM, hN, hC, hA⟩ hnm htx hcl

end Go.Proofs.YtkpmddlinlcobaaGreatDoor
