/- A cell of a leaf, plainly: which day stands in three bytes, and what is wrong with them. No condition. -/
import Derived.Test.YtdkcgggnkhbkkaaGreatDoorNum
import Derived.Test.YtdkcgggnkhbkkaaGreatDoorMonM
import Derived.Test.YtdkcgggnkhbkkaaGreatDoorLineM
namespace Go.Proofs.YtdkcgggnkhbkkaaGreatDoor
set_option linter.unusedVariables false

/-- the day of a cell, and the fault. -/
def cellQ (l : List UInt8) : Int × Int :=
  if l = [32, 32, 32] then (0, 5)
  else match numP 2 (trimSp (l.drop 1)) with
    | some n => if (l.head? = some 32 ∨ l.head? = some 42) ∧ 1 ≤ n ∧ n ≤ 31 then (n, 0) else (0, 2)
    | none => (0, 2)

/-- the day of a place of lines, and the fault. -/
def cellF (L : List (List UInt8)) (row col : Int) : Int × Int :=
  if row < 0 ∨ (L.length : Int) ≤ row ∨ col < 0 ∨ 6 < col then (0, 1)
  else if ((L[row.toNat]?).getD []).length ≠ 21 then (0, 2)
  else cellQ ((((L[row.toNat]?).getD []).drop (col * 3).toNat).take 3)

theorem cellQ_none : cellQ [32, 32, 32] = (0, 5) := by rw [cellQ, if_pos rfl]

theorem cellQ_yes {l : List UInt8} {n : Int} (h0 : l ≠ [32, 32, 32]) (h : numP 2 (trimSp (l.drop 1)) = some n) (hh : l.head? = some 32 ∨ l.head? = some 42) (h1 : 1 ≤ n) (h2 : n ≤ 31) : cellQ l = (n, 0) := by
  rw [cellQ, if_neg h0, h]; simp only; rw [if_pos ⟨hh, h1, h2⟩]

theorem cellQ_bad {l : List UInt8} (h0 : l ≠ [32, 32, 32]) (h : ∀ n, numP 2 (trimSp (l.drop 1)) = some n → (l.head? = some 32 ∨ l.head? = some 42) → 1 ≤ n → 31 < n) : cellQ l = (0, 2) := by
  rw [cellQ, if_neg h0]
  cases hn : numP 2 (trimSp (l.drop 1)) with
  | none => rfl
  | some n =>
    simp only
    rw [if_neg]
    rintro ⟨a, b, c⟩
    have := h n hn a b
    omega

/-- by what Atoi and Itoa say. -/
theorem cellQ_atoi_none {l : List UInt8} (h0 : l ≠ [32, 32, 32]) (h : Lib.atoi (trimSp (l.drop 1)) = none) : cellQ l = (0, 2) :=
  cellQ_bad h0 fun n hn => by rw [(numP_some hn).1, atoi_itoa] at h; cases h

theorem cellQ_itoa_ne {l : List UInt8} {n : Int} (h0 : l ≠ [32, 32, 32]) (h : Lib.atoi (trimSp (l.drop 1)) = some n) (hi : Lib.itoa n ≠ trimSp (l.drop 1)) : cellQ l = (0, 2) :=
  cellQ_bad h0 fun m hm => by
    have e := (numP_some hm).1
    rw [e, atoi_itoa] at h
    cases h
    exact absurd e.symm hi

theorem numP_of_itoa {l : List UInt8} {n : Int} (h : Lib.itoa n = l) (hl : l.length ≤ 2) : numP 2 l = some n := by
  rw [← h]
  refine numP_itoa ?_
  rw [← h, Lib.itoa] at hl
  by_cases h0 : n < 0
  · rw [if_pos h0] at hl; simp at hl; omega
  · rw [if_neg h0, show n.toNat = n.natAbs by omega] at hl; exact hl

/-- the cells of a leaf. -/
theorem cellQ_leaf {fi sz q : Int} {D : List Int} (hs : sz ≤ 31) :
    (fi ≤ q ∧ q < fi + sz → cellQ (cellL fi sz D q) = (q - fi + 1, 0)) ∧ (¬ (fi ≤ q ∧ q < fi + sz) → inB D q = false → cellQ (cellL fi sz D q) = (0, 5)) := by
  constructor
  · intro h
    have hd : dayT fi sz q = Lib.itoa (q - fi + 1) := by rw [dayT, if_pos h, Lib.itoa, if_neg (by omega)]
    have hl := dayT_len (fi := fi) (k := q) hs
    obtain ⟨c, r, h1, h2, h3, h4⟩ := decDigits_head (q - fi + 1).toNat
    have hT : dayT fi sz q = c :: r := by rw [dayT, if_pos h, h1]
    have hc : c ≠ 32 := by rintro rfl; exact absurd h2 (by decide)
    have hn : numP 2 (dayT fi sz q) = some (q - fi + 1) := numP_of_itoa hd.symm hl
    have ht : trimSp ((cellL fi sz D q).drop 1) = dayT fi sz q := by
      rw [cellL, List.drop_succ_cons, List.drop_zero, hT]
      rw [hT] at hl
      cases r with
      | nil => simp [trimSp]
      | cons d r2 =>
        have : r2 = [] := by cases r2 with | nil => rfl | cons _ _ => simp at hl
        subst this
        simp [trimSp, hc]
    refine cellQ_yes ?_ (by rw [ht]; exact hn) (by rw [cellL]; split <;> simp) (by omega) (by omega)
    intro e
    rw [e] at ht
    rw [hT] at ht
    simp [trimSp] at ht
    exact hc ht.1.symm
  · intro h hD
    rw [cellL, hD, dayT, if_neg h]
    exact cellQ_none

/-- the cell of a place of a leaf. -/
theorem cellF_leaf {fi sz : Int} {D : List Int} (hs : sz ≤ 31) {i k : Nat} (hi : i < rowsN fi sz) (hk : k < 7) :
    cellF (leafL fi sz D) (i : Int) (k : Int) = cellQ (cellL fi sz D (Cal.mondayI fi + 7 * (i : Int) + (k : Int))) := by
  have hL : (leafL fi sz D)[i]? = some (rowTo fi sz D (Cal.mondayI fi + 7 * (i : Int)) 7) := by
    rw [leafL, leafTo, List.getElem?_map, List.getElem?_range hi]; rfl
  have hlen : (leafL fi sz D).length = rowsN fi sz := leafTo_len ..
  rw [cellF, if_neg (by omega), show ((i : Int)).toNat = i by omega, hL, Option.getD_some, if_neg (by rw [rowTo_len hs]; simp)]
  congr 1
  have hdrop : ∀ (m j : Nat), j < m → ((rowTo fi sz D (Cal.mondayI fi + 7 * (i : Int)) m).drop (3 * j)).take 3 = cellL fi sz D (Cal.mondayI fi + 7 * (i : Int) + (j : Int)) := by
    intro m
    induction m with
    | zero => intro j hj; omega
    | succ m ih =>
      intro j hj
      rw [rowTo_succ]
      by_cases h : j < m
      · rw [List.drop_append_of_le_length (by rw [rowTo_len hs]; omega), List.take_append_of_le_length (by rw [List.length_drop, rowTo_len hs]; omega)]
        exact ih j h
      · obtain rfl : j = m := by omega
        rw [List.drop_left' (by rw [rowTo_len hs]), List.take_of_length_le (by rw [cellL_len hs]; omega)]
  rw [show ((k : Int) * 3).toNat = 3 * k by omega]
  exact hdrop 7 k hk

end Go.Proofs.YtdkcgggnkhbkkaaGreatDoor
