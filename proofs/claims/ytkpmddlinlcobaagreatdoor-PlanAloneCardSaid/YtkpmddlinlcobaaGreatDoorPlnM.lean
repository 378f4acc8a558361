/- What plan says of lists of times, plainly. No program in sight. -/
import Derived.Test.YtkpmddlinlcobaaGreatDoorQ14
namespace Go.Proofs.YtkpmddlinlcobaaGreatDoor
set_option linter.unusedVariables false

/-- times of an event, and how long each is. -/
abbrev TL := Int × List (Int × Int)

/-- has a time a minute with another one? -/
def meetT (la lb : Int) (x y : Int × Int) : Bool := decide (max x.2 y.2 < min (x.2 + la) (y.2 + lb))

/-- does a time of one list meet one of another one? -/
def meetB (a b : TL) : Bool := a.2.any fun x => b.2.any fun y => meetT a.1 b.1 x y

def metAt (T : List TL) (i k : Nat) : Bool := if h : i < T.length ∧ k < T.length then meetB (T[i]'h.1) (T[k]'h.2) else false

/-- those behind i and ahead of j that meet i. -/
def rowC (T : List TL) (i j : Nat) : List (Int × Int) := ((List.range j).filter (fun k => decide (i < k) && metAt T i k)).map (fun k : Nat => ((i : Int), (k : Int)))

/-- all pairs of which the first is ahead of i. -/
def clU (T : List TL) (i : Nat) : List (Int × Int) := (List.range i).flatMap fun x => rowC T x T.length

theorem clU_0 (T : List TL) : clU T 0 = [] := rfl

theorem clU_next (T : List TL) (i : Nat) : clU T (i + 1) = clU T i ++ rowC T i T.length := by
  unfold clU; rw [List.range_succ, List.flatMap_append]; simp

theorem rowC_0 (T : List TL) (i : Nat) : rowC T i (i + 1) = [] := by
  unfold rowC
  rw [List.map_eq_nil_iff, List.filter_eq_nil_iff]
  intro k hk h
  have := List.mem_range.1 hk
  simp at h; omega

theorem rowC_next (T : List TL) (i j : Nat) (h1 : i < j) : rowC T i (j + 1) = rowC T i j ++ (if metAt T i j then [((i : Int), (j : Int))] else []) := by
  unfold rowC
  rw [List.range_succ, List.filter_append, List.map_append]
  congr 1
  by_cases h : metAt T i j = true
  · simp [h, h1]
  · simp [h]

theorem rowC_len (T : List TL) (i j : Nat) : (rowC T i j).length ≤ j := by
  unfold rowC
  rw [List.length_map]
  exact Nat.le_trans (List.length_filter_le _ _) (by simp)

theorem clU_len (T : List TL) (i : Nat) : (clU T i).length ≤ i * T.length := by
  induction i with
  | zero => simp [clU]
  | succ i ih => rw [clU_next, List.length_append, Nat.add_mul]; have := rowC_len T i T.length; omega

/-- how many times there are in all. -/
def sumN (T : List TL) : Nat := (T.map fun x => x.2.length).sum

/-- what is wrong with them: the first fault, or that there are too many. -/
def fstE : List Int → Int
  | [] => 0
  | e :: l => if e ≠ 0 then e else fstE l

def allE (k : Nat) (es : List Int) (n : Nat) : Int := if 20 < k then 4 else if fstE es ≠ 0 then fstE es else if 200 < n then 4 else 0

theorem fstE_app (l r : List Int) : fstE (l ++ r) = if fstE l ≠ 0 then fstE l else fstE r := by
  induction l with
  | nil => simp [fstE]
  | cons e l ih =>
    by_cases h : e = 0
    · simp [fstE, h, ih]
    · simp [fstE, h]

theorem fstE_one (e : Int) : fstE [e] = e := by
  unfold fstE
  by_cases h : e ≠ 0
  · rw [if_pos h]
  · rw [if_neg h]; unfold fstE; omega

theorem meetB_one {ln : Int} {R : List (Int × Int)} : meetB (ln, R) (ln, R) = (decide (0 < R.length) && decide (0 < ln)) := by
  unfold meetB
  cases R with
  | nil => rfl
  | cons x R =>
    by_cases h : 0 < ln
    · have h1 : meetT ln ln x x = true := by simp [meetT]; omega
      simp [h1, h]
    · have h1 : ∀ y z, meetT ln ln y z = false := fun y z => by simp [meetT]; omega
      simp [h1, h]

theorem clU_two (ln : Int) (R : List (Int × Int)) : clU [(ln, R), (ln, R)] 2 = if 0 < R.length ∧ 0 < ln then [(0, 1)] else [] := by
  have h : meetB (ln, R) (ln, R) = (decide (0 < R.length) && decide (0 < ln)) := meetB_one
  have h0 : clU [(ln, R), (ln, R)] 2 = rowC [(ln, R), (ln, R)] 0 2 ++ rowC [(ln, R), (ln, R)] 1 2 := by
    rw [clU_next, clU_next, clU_0]; rfl
  have h1 : rowC [(ln, R), (ln, R)] 1 2 = [] := rowC_0 _ 1
  have h2 : rowC [(ln, R), (ln, R)] 0 2 = if metAt [(ln, R), (ln, R)] 0 1 then [(((0 : Nat) : Int), ((1 : Nat) : Int))] else [] := by
    rw [rowC_next _ 0 1 (by omega), rowC_0]; simp
  have h3 : metAt [(ln, R), (ln, R)] 0 1 = meetB (ln, R) (ln, R) := by simp [metAt]
  rw [h0, h1, h2, h3, h]
  by_cases g1 : 0 < R.length <;> by_cases g2 : 0 < ln <;> simp [g1, g2]

theorem clU_one (x : TL) : clU [x] 1 = [] := by rw [clU_next, clU_0, List.nil_append]; exact rowC_0 [x] 0

end Go.Proofs.YtkpmddlinlcobaaGreatDoor
