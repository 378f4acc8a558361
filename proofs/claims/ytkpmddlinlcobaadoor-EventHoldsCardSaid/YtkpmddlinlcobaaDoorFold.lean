/- The contract of line.Fold: the pieces of a text. -/
import Derived.Test.YtkpmddlinlcobaaDoorProg
import Derived.Test.YtkpmddlinlcobaaDoorSl
import Derived.WalkSpells
import Derived.WalkLawsBesides
import Derived.Deep.LoopGhost
namespace Go.Proofs.YtkpmddlinlcobaaDoor
open Go.RowKit

/-- the pieces behind the first one. -/
def foldRest (l : List UInt8) : List (List UInt8) := if l = [] then [] else (32 :: l.take 39) :: foldRest (l.drop 39)
termination_by l.length
decreasing_by
  rename_i h
  cases l
  · exact absurd rfl h
  · simp; omega

/-- the pieces of a text. -/
def foldL (l : List UInt8) : List (List UInt8) := l.take 40 :: foldRest (l.drop 40)

theorem foldRest_nil : foldRest [] = [] := by rw [foldRest]; simp

theorem foldRest_cons {l : List UInt8} (h : l ≠ []) : foldRest l = (32 :: l.take 39) :: foldRest (l.drop 39) := by rw [foldRest, if_neg h]

def strs (L : List (List UInt8)) : List Value := L.map fun x => Value.string (bs x)

theorem stringInfo : (Tryd.prog.info? 9).map (fun i => (i.zero, i.size, i.bytes)) = some (some (.string ⟨#[]⟩), 1, 16) := by kernel_rfl

/-- what holds at the loop's head: the pieces that are made, and what is left of the text. -/
def FoldAt (l rest : List UInt8) (done : List (List UInt8)) : Prop := done ++ foldRest rest = foldL l ∧ 1 ≤ done.length ∧ (rest ≠ [] → 39 * done.length + rest.length ≤ l.length + 39)

theorem foldAt_start (l : List UInt8) : FoldAt l (l.drop 40) [l.take 40] := by
  refine ⟨rfl, by simp, fun h => ?_⟩
  have : (l.drop 40).length ≠ 0 := fun h0 => h (List.length_eq_zero_iff.1 h0)
  simp at *
  omega

theorem foldAt_step {l rest : List UInt8} {done : List (List UInt8)} (h : FoldAt l rest done) (hr : rest ≠ []) : FoldAt l (rest.drop 39) (done ++ [32 :: rest.take 39]) := by
  obtain ⟨h1, h2, h3⟩ := h
  refine ⟨by rw [← h1, foldRest_cons hr]; simp, by simp, fun h => ?_⟩
  have : (rest.drop 39).length ≠ 0 := fun h0 => h (List.length_eq_zero_iff.1 h0)
  have := h3 hr
  simp at *
  omega

theorem strs_snoc (L : List (List UInt8)) (x : List UInt8) : strs (L ++ [x]) = strs L ++ [.string (bs x)] := by simp [strs]

theorem foldRest_len (l : List UInt8) : (foldRest l).length = (l.length + 38) / 39 := by
  induction h : l.length using Nat.strongRecOn generalizing l with
  | _ n ih =>
    by_cases hl : l = []
    · subst hl; rw [foldRest_nil]; simp at h; subst h; rfl
    · have hp := List.length_pos_iff.2 hl
      rw [foldRest_cons hl, List.length_cons, ih (l.drop 39).length (by simp; omega) (l.drop 39) rfl]
      simp
      omega

theorem foldL_len (l : List UInt8) : (foldL l).length = 1 + (l.length - 40 + 38) / 39 := by
  rw [foldL, List.length_cons, foldRest_len]; simp; omega

end Go.Proofs.YtkpmddlinlcobaaDoor
