/- The law TopDays, as its frame takes it. -/
import Derived.Test.YtgelojhpanbnaaaGreatDoorTopDays
namespace Go.Proofs.YtgelojhpanbnaaaGreatDoor
open Go.RowKit Go.Shelf
set_option linter.unusedVariables false

theorem topDays_law (nm tx : List UInt8) (st ln : Int) (rp : Bool) (fr ev ct ti : Int) (vm vd vw vp vM vN vC vA : Value) (mo da : List Int) (we : List (Int × Int)) (pk M N : List Int) (C : List (Int × Int)) (A : List Alm) (ah y m : Int) (w : World) (hw : Months w)
    (hmo : IntsR w vm mo) (hda : IntsR w vd da) (hwe : PairsR w vw we) (hpk : IntsR w vp pk) (hM : IntsR w vM M) (hN : IntsR w vN N) (hC : PairsR w vC C) (hA : AlmsR w vA A)
    (hnm : nm.length ≤ 140737488351232) (htx : tx.length ≤ 140737488351232) (hcl : C.length ≤ 8796093022208) (w1 : (Lit.int .i64 ah).wf = true) (w2 : (Lit.int .i64 y).wf = true) (w3 : (Lit.int .i64 m).wf = true) :
    Calls Tryz.prog 3 #[.agg #[.string (bs nm), .string (bs tx), .int .i64 st, .int .i64 ln, .bool rp, .int .i64 fr, .int .i64 ev, .int .i64 ct, .int .i64 ti, vm, vd, vw, vp, vM, vN, vC, vA], .int .i64 ah, .int .i64 y, .int .i64 m] w fun e w' => e = .returned (.bool true) ∧ Below w.heap.size w w' :=
  topDays_any nm tx st ln rp fr ev ct ti vm vd vw vp vM vN vC vA mo da we pk M N C A ah y m w hw ⟨hmo, hda, hwe, hpk, hM, hN, hC, hA⟩ hnm htx

end Go.Proofs.YtgelojhpanbnaaaGreatDoor
