/- The law SeqHolds: the walk, for every input. Condition: the table of months. -/
import Derived.Test.YtdpngbjlljgoaaaDoorSeqHolds
namespace Go.Proofs.YtdpngbjlljgoaaaDoor
open Go.RowKit Go.Shelf
set_option linter.unusedVariables false

theorem seqHolds_top (fr ev ct ti : Int) (vm : Value) (mo : List Int) (vd : Value) (da : List Int) (vw : Value) (we : List (Int × Int)) (vp : Value) (pk : List Int) (st n : Int) (w : World) (hw : Months w)
    (_ : (Lit.int .i64 fr).wf = true) (_ : (Lit.int .i64 ev).wf = true) (_ : (Lit.int .i64 ct).wf = true) (_ : (Lit.int .i64 ti).wf = true)
    (h1 : IntsR w vm mo) (h2 : IntsR w vd da) (h3 : PairsR w vw we) (h4 : IntsR w vp pk) (_ : (Lit.int .i64 st).wf = true) (_ : (Lit.int .i64 n).wf = true) :
    Calls Tryd.prog 3 #[.agg #[.int .i64 fr, .int .i64 ev, .int .i64 ct, .int .i64 ti, vm, vd, vw, vp], .int .i64 st, .int .i64 n] w fun e w' => e = .returned (.bool true) ∧ Below w.heap.size w w' := by
  by_cases hF : seqF (ruleF fr ev ct ti mo da we pk) st = 0
  · by_cases hn : n < 0 ∨ 200 < n
    · exact seqHolds_rng fr ev ct ti st n 0 0 0 vm vd vw vp mo da we pk w hw h1 h2 h3 h4 hF hn
    · have hR : ruleF fr ev ct ti mo da we pk = 0 := by
        unfold seqF at hF
        by_cases h : ruleF fr ev ct ti mo da we pk ≠ 0
        · rw [if_pos h] at hF; exact hF
        · omega
      have hs : 1 ≤ st ∧ st ≤ 109573 := by
        unfold seqF at hF
        rw [if_neg (by omega)] at hF
        by_cases h : 1 ≤ st ∧ st ≤ 109573
        · exact h
        · rw [if_neg h] at hF; omega
      obtain ⟨y, m, d, hd, hst⟩ := Cal.ex_date st hs.1 hs.2
      by_cases hn2 : n ≤ 60
      · exact seqHolds_ok fr ev ct ti st n y m d vm vd vw vp mo da we pk w hw h1 h2 h3 h4 hd hst hR (by omega)
      · exact seqHolds_big fr ev ct ti st n y m d vm vd vw vp mo da we pk w hw h1 h2 h3 h4 hd hst hR (by omega)
  · exact seqHolds_bad fr ev ct ti st n 0 0 0 vm vd vw vp mo da we pk w hw h1 h2 h3 h4 hF

end Go.Proofs.YtdpngbjlljgoaaaDoor
