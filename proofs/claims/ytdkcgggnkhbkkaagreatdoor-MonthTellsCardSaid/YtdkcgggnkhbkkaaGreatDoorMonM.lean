/- Leaves of the calendar, plainly: cells, rows, how many rows. No condition. -/
import Derived.Test.YtdkcgggnkhbkkaaGreatDoorCal
import Derived.Test.YtdkcgggnkhbkkaaGreatDoorLists
import Derived.Lib.ItoaNum
namespace Go.Proofs.YtdkcgggnkhbkkaaGreatDoor
set_option linter.unusedVariables false

/-- the text of a day on a leaf; none: it is none of the month. -/
def dayT (fi sz k : Int) : List UInt8 := if fi ≤ k ∧ k < fi + sz then Lib.decDigits (k - fi + 1).toNat else []

/-- a cell of a leaf: three bytes. -/
def cellL (fi sz : Int) (D : List Int) (k : Int) : List UInt8 := (if inB D k = true then 42 else 32) :: (List.replicate (2 - (dayT fi sz k).length) 32 ++ dayT fi sz k)

/-- the first so many cells of a row. -/
def rowTo (fi sz : Int) (D : List Int) (n : Int) (i : Nat) : List UInt8 := (List.range i).flatMap fun (j : Nat) => cellL fi sz D (n + (j : Int))

/-- the first so many rows. -/
def leafTo (fi sz : Int) (D : List Int) (j : Nat) : List (List UInt8) := (List.range j).map fun (i : Nat) => rowTo fi sz D (Cal.mondayI fi + 7 * (i : Int)) 7

/-- how many rows. -/
def rowsN (fi sz : Int) : Nat := ((fi + sz - Cal.mondayI fi + 6) / 7).toNat

/-- a leaf. -/
def leafL (fi sz : Int) (D : List Int) : List (List UInt8) := leafTo fi sz D (rowsN fi sz)

theorem decDigits_len {n : Nat} (h : n < 100) : 1 ≤ (Lib.decDigits n).length ∧ (Lib.decDigits n).length ≤ 2 := by
  rw [Lib.decDigits]
  split
  · simp
  · rw [Lib.decDigits, dif_pos (by omega)]; simp

theorem dayT_len {fi sz k : Int} (h : sz ≤ 31) : (dayT fi sz k).length ≤ 2 := by
  unfold dayT
  split
  · exact (decDigits_len (by omega)).2
  · simp

theorem cellL_len {fi sz k : Int} {D : List Int} (h : sz ≤ 31) : (cellL fi sz D k).length = 3 := by
  have := dayT_len (fi := fi) (k := k) h
  simp [cellL]; omega

theorem rowTo_succ (fi sz : Int) (D : List Int) (n : Int) (i : Nat) : rowTo fi sz D n (i + 1) = rowTo fi sz D n i ++ cellL fi sz D (n + i) := by
  rw [rowTo, List.range_succ, List.flatMap_append]; simp [rowTo]

theorem rowTo_len {fi sz n : Int} {D : List Int} (h : sz ≤ 31) : ∀ i, (rowTo fi sz D n i).length = 3 * i
  | 0 => rfl
  | i + 1 => by rw [rowTo_succ, List.length_append, rowTo_len h i, cellL_len h]; omega

theorem leafTo_succ (fi sz : Int) (D : List Int) (j : Nat) : leafTo fi sz D (j + 1) = leafTo fi sz D j ++ [rowTo fi sz D (Cal.mondayI fi + 7 * j) 7] := by
  rw [leafTo, List.range_succ, List.map_append]; rfl

theorem leafTo_len (fi sz : Int) (D : List Int) (j : Nat) : (leafTo fi sz D j).length = j := by simp [leafTo]

theorem rows_lt {fi sz : Int} (h1 : 1 ≤ fi) (h2 : 28 ≤ sz) (j : Nat) : j < rowsN fi sz ↔ Cal.mondayI fi + 7 * (j : Int) < fi + sz := by
  unfold rowsN Cal.mondayI
  omega

theorem rowsN_bd {fi sz : Int} (h1 : 1 ≤ fi) (h2 : 28 ≤ sz) (h3 : sz ≤ 31) : 4 ≤ rowsN fi sz ∧ rowsN fi sz ≤ 6 := by
  unfold rowsN Cal.mondayI
  omega

end Go.Proofs.YtdkcgggnkhbkkaaGreatDoor
