/- The law EventTells, as its frame takes it. -/
import Derived.Test.YtkpmddlinlcobaaGreatDoorEventTells
namespace Go.Proofs.YtkpmddlinlcobaaGreatDoor
open Go.RowKit Go.Shelf
set_option linter.unusedVariables false

theorem wf_bd {x : Int} (h : (Lit.int .i64 x).wf = true) : -9223372036854775808 ≤ x ∧ x < 9223372036854775808 := by
  simp [Lit.wf, IntKind.min, IntKind.max, IntKind.signed, IntKind.bits] at h; omega

theorem eventTells_law (nm tx : List UInt8) (st ln : Int) (rp : Bool) (fr ev ct ti : Int) (vm vd vw vp vM vN vC vA : Value) (mo da : List Int) (we : List (Int × Int)) (pk M N : List Int) (C : List (Int × Int)) (A : List Alm) (ao : Int) (aen : Bool) (ar ab a b x : Int) (w : World) (hw : Months w) (hE : ErrT w)
    (hmo : IntsR w vm mo) (hda : IntsR w vd da) (hwe : PairsR w vw we) (hpk : IntsR w vp pk) (hM : IntsR w vM M) (hN : IntsR w vN N) (hC : PairsR w vC C) (hA : AlmsR w vA A)
    (hnm : nm.length ≤ 140737488351232) (htx : tx.length ≤ 140737488351232) (hcl : C.length ≤ 8796093022208) (hsm : mo.length ≤ 70368744177664 ∧ da.length ≤ 70368744177664 ∧ we.length ≤ 70368744177664 ∧ pk.length ≤ 70368744177664) (w0 : (Lit.int .i64 ao).wf = true) (w1 : (Lit.int .i64 ar).wf = true) (w2 : (Lit.int .i64 ab).wf = true) (w3 : (Lit.int .i64 a).wf = true) (w4 : (Lit.int .i64 b).wf = true) (w5 : (Lit.int .i64 x).wf = true) :
    Calls Tryz.prog 3 #[.agg #[.string (bs nm), .string (bs tx), .int .i64 st, .int .i64 ln, .bool rp, .int .i64 fr, .int .i64 ev, .int .i64 ct, .int .i64 ti, vm, vd, vw, vp, vM, vN, vC, vA], .agg #[.int .i64 ao, .bool aen, .int .i64 ar, .int .i64 ab], .int .i64 a, .int .i64 b, .int .i64 x] w fun e w' => e = .returned (.bool true) ∧ Below w.heap.size w w' :=
  eventTells_any nm tx st ln rp fr ev ct ti vm vd vw vp vM vN vC vA mo da we pk M N C A ao aen ar ab a b x w hw hE ⟨hmo, hda, hwe, hpk, hM, hN, hC, hA⟩ hnm htx hcl hsm (wf_bd w4) (wf_bd w5)

end Go.Proofs.YtkpmddlinlcobaaGreatDoor
