/- seq.Between: its walk. Conditions: the rule is right, it begins at a day. -/
import Derived.Test.YtkpmddlinlcobaaDoorSeqE
namespace Go.Proofs.YtkpmddlinlcobaaDoor
open Go.RowKit Go.Shelf
set_option linter.unusedSimpArgs false
set_option linter.unusedVariables false
attribute [local go_sem] Oper.semAt_some

/-- those of a list from one day to another. -/
def btwL (E : List Int) (from_ up : Int) : List Int := E.filter fun x => decide (from_ ≤ x) && decide (x ≤ up)

theorem btw_all {E : List Int} {f t : Int} (h : ∀ x ∈ E, x ≤ t) : E.filter (fun x => decide (f ≤ x)) = btwL E f t := by
  unfold btwL
  exact List.filter_congr fun x hx => by simp [h x hx]

theorem btw_stop {E p : List Int} {x f t : Int} (hE : E.Pairwise (· < ·)) (h : p ++ [x] <+: E) (hx : t < x) (hp : ∀ z ∈ p, z ≤ t) : p.filter (fun x => decide (f ≤ x)) = btwL E f t := by
  obtain ⟨r, rfl⟩ := h
  rw [btw_all (t := t) hp]
  unfold btwL
  rw [List.append_assoc, List.filter_append]
  have : ([x] ++ r).filter (fun x => decide (f ≤ x) && decide (x ≤ t)) = [] := by
    rw [List.filter_eq_nil_iff]
    intro z hz
    have hpx := (List.pairwise_append.1 hE).1
    have h3 := (List.pairwise_append.1 hE).2.2
    rcases List.mem_append.1 hz with hz | hz
    · have : z = x := by simpa using hz
      subst this; simp; omega
    · have := h3 x (by simp) z hz
      simp; omega
  rw [this, List.append_nil]

/-- too many? -/
def fullF (L : List Int) : Int := if 200 < L.length then 4 else 0
def cutL (L : List Int) : List Int := if 200 < L.length then [] else L

end Go.Proofs.YtkpmddlinlcobaaDoor
