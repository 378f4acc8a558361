/- Lines, plain laws: what is escaped is plain again; what is folded is unfolded. No condition. -/
import Derived.Test.YtkpmddlinlcobaaDoorFold
namespace Go.Proofs.YtkpmddlinlcobaaDoor

/-- a byte, escaped. -/
def escB (c : UInt8) : List UInt8 := if c = 92 ∨ c = 59 ∨ c = 44 then [92, c] else if c = 10 then [92, 110] else [c]

/-- a text, escaped. -/
def esc (l : List UInt8) : List UInt8 := l.flatMap escB

/-- an escaped text's plain one. -/
def unesc : List UInt8 → List UInt8
  | [] => []
  | [c] => [c]
  | c :: d :: r => if c = 92 then (if d = 110 then 10 else d) :: unesc r else c :: unesc (d :: r)

theorem unesc_plain (c : UInt8) (r : List UInt8) (h : c ≠ 92) : unesc (c :: r) = c :: unesc r := by
  cases r with
  | nil => rfl
  | cons d r => rw [unesc, if_neg h]

theorem unesc_pair (d : UInt8) (r : List UInt8) : unesc (92 :: d :: r) = (if d = 110 then 10 else d) :: unesc r := by rw [unesc, if_pos rfl]

theorem unesc_esc : ∀ l : List UInt8, unesc (esc l) = l
  | [] => rfl
  | c :: r => by
    rw [esc, List.flatMap_cons]
    show unesc (escB c ++ esc r) = _
    by_cases h : c = 92 ∨ c = 59 ∨ c = 44
    · have h2 : c ≠ 110 := by rcases h with rfl | rfl | rfl <;> decide
      rw [escB, if_pos h]
      show unesc (92 :: c :: esc r) = _
      rw [unesc_pair, if_neg h2, unesc_esc r]
    · by_cases h2 : c = 10
      · subst h2
        rw [escB, if_neg h, if_pos rfl]
        show unesc (92 :: 110 :: esc r) = _
        rw [unesc_pair, if_pos rfl, unesc_esc r]
      · rw [escB, if_neg h, if_neg h2]
        show unesc (c :: esc r) = _
        rw [unesc_plain c _ (fun e => h (.inl e)), unesc_esc r]

theorem escB_len (c : UInt8) : (escB c).length ≤ 2 := by
  unfold escB
  split
  · simp
  · split <;> simp

theorem esc_len : ∀ l : List UInt8, (esc l).length ≤ 2 * l.length
  | [] => by simp [esc]
  | c :: r => by
    have := esc_len r
    have := escB_len c
    rw [esc, List.flatMap_cons, List.length_append]
    show _ + (esc r).length ≤ _
    simp only [List.length_cons]
    omega

theorem esc_snoc (l : List UInt8) (c : UInt8) : esc (l ++ [c]) = esc l ++ escB c := by simp [esc]

theorem unesc_len : ∀ l : List UInt8, (unesc l).length ≤ l.length
  | [] => by simp [unesc]
  | [c] => by simp [unesc]
  | c :: d :: r => by
    rw [unesc]
    split
    · have := unesc_len r; simp only [List.length_cons]; omega
    · have := unesc_len (d :: r); simp only [List.length_cons] at *; omega

/-- a piece behind the first one, without its blank. -/
def trimSp (s : List UInt8) : List UInt8 := if s.head? = some 32 then s.drop 1 else s

/-- the text of pieces. -/
def unfoldL : List (List UInt8) → List UInt8
  | [] => []
  | s :: r => s ++ (r.map trimSp).flatten

theorem unfold_rest (l : List UInt8) : ((foldRest l).map trimSp).flatten = l := by
  induction h : l.length using Nat.strongRecOn generalizing l with
  | _ n ih =>
    by_cases hl : l = []
    · subst hl; rw [foldRest_nil]; rfl
    · have hp := List.length_pos_iff.2 hl
      rw [foldRest_cons hl, List.map_cons, List.flatten_cons, ih (l.drop 39).length (by simp; omega) (l.drop 39) rfl]
      show trimSp (32 :: l.take 39) ++ _ = l
      rw [trimSp, if_pos (show (32 :: l.take 39).head? = some 32 from rfl)]
      simp

theorem unfold_fold (l : List UInt8) : unfoldL (foldL l) = l := by
  rw [foldL, unfoldL, unfold_rest, List.take_append_drop]

theorem foldRest_short (l : List UInt8) : ∀ s ∈ foldRest l, s.length ≤ 40 := by
  induction h : l.length using Nat.strongRecOn generalizing l with
  | _ n ih =>
    intro s hs
    by_cases hl : l = []
    · subst hl; rw [foldRest_nil] at hs; cases hs
    · have hp := List.length_pos_iff.2 hl
      rw [foldRest_cons hl] at hs
      rcases List.mem_cons.1 hs with rfl | hs
      · simp; omega
      · exact ih (l.drop 39).length (by simp; omega) (l.drop 39) rfl s hs

theorem foldL_short (l : List UInt8) : ∀ s ∈ foldL l, s.length ≤ 40 := by
  intro s hs
  rw [foldL] at hs
  rcases List.mem_cons.1 hs with rfl | hs
  · simp; omega
  · exact foldRest_short _ s hs

end Go.Proofs.YtkpmddlinlcobaaDoor
