/- Texts joined into one (a claim has at most 60 files): What plan says of lists of times, plainly; Times of lists, one behind the other; what they take; What plan.Meet finds, plainly: at a time that is free for all none is on its way; A slice that is written out, of one or two structs: where it lies. -/
import Derived.Test.YtkpmddlinlcobaaGreatDoorQ14
import Derived.Test.YtkpmddlinlcobaaGreatDoorQ16
import Derived.Test.YtkpmddlinlcobaaGreatDoorQ18
import Derived.Test.YtkpmddlinlcobaaGreatDoorQ01
import Derived.Test.YtkpmddlinlcobaaGreatDoorQ05
namespace Go.Proofs.YtkpmddlinlcobaaGreatDoor
set_option linter.unusedVariables false

/-- times of an event, and how long each is. -/
abbrev TL := Int × List (Int × Int)

/-- has a time a minute with another one? -/
def meetT (la lb : Int) (x y : Int × Int) : Bool := decide (max x.2 y.2 < min (x.2 + la) (y.2 + lb))

/-- does a time of one list meet one of another one? -/
def meetB (a b : TL) : Bool := a.2.any fun x => b.2.any fun y => meetT a.1 b.1 x y

def metAt (T : List TL) (i k : Nat) : Bool := if h : i < T.length ∧ k < T.length then meetB (T[i]'h.1) (T[k]'h.2) else false

/-- those behind i and ahead of j that meet i. -/
def rowC (T : List TL) (i j : Nat) : List (Int × Int) := ((List.range j).filter (fun k => decide (i < k) && metAt T i k)).map (fun k : Nat => ((i : Int), (k : Int)))

/-- all pairs of which the first is ahead of i. -/
def clU (T : List TL) (i : Nat) : List (Int × Int) := (List.range i).flatMap fun x => rowC T x T.length

theorem clU_0 (T : List TL) : clU T 0 = [] := rfl

theorem clU_next (T : List TL) (i : Nat) : clU T (i + 1) = clU T i ++ rowC T i T.length := by
  unfold clU; rw [List.range_succ, List.flatMap_append]; simp

theorem rowC_0 (T : List TL) (i : Nat) : rowC T i (i + 1) = [] := by
  unfold rowC
  rw [List.map_eq_nil_iff, List.filter_eq_nil_iff]
  intro k hk h
  have := List.mem_range.1 hk
  simp at h; omega

theorem rowC_next (T : List TL) (i j : Nat) (h1 : i < j) : rowC T i (j + 1) = rowC T i j ++ (if metAt T i j then [((i : Int), (j : Int))] else []) := by
  unfold rowC
  rw [List.range_succ, List.filter_append, List.map_append]
  congr 1
  by_cases h : metAt T i j = true
  · simp [h, h1]
  · simp [h]

theorem rowC_len (T : List TL) (i j : Nat) : (rowC T i j).length ≤ j := by
  unfold rowC
  rw [List.length_map]
  exact Nat.le_trans (List.length_filter_le _ _) (by simp)

theorem clU_len (T : List TL) (i : Nat) : (clU T i).length ≤ i * T.length := by
  induction i with
  | zero => simp [clU]
  | succ i ih => rw [clU_next, List.length_append, Nat.add_mul]; have := rowC_len T i T.length; omega

/-- how many times there are in all. -/
def sumN (T : List TL) : Nat := (T.map fun x => x.2.length).sum

/-- what is wrong with them: the first fault, or that there are too many. -/
def fstE : List Int → Int
  | [] => 0
  | e :: l => if e ≠ 0 then e else fstE l

def allE (k : Nat) (es : List Int) (n : Nat) : Int := if 20 < k then 4 else if fstE es ≠ 0 then fstE es else if 200 < n then 4 else 0

theorem fstE_app (l r : List Int) : fstE (l ++ r) = if fstE l ≠ 0 then fstE l else fstE r := by
  induction l with
  | nil => simp [fstE]
  | cons e l ih =>
    by_cases h : e = 0
    · simp [fstE, h, ih]
    · simp [fstE, h]

theorem fstE_one (e : Int) : fstE [e] = e := by
  unfold fstE
  by_cases h : e ≠ 0
  · rw [if_pos h]
  · rw [if_neg h]; unfold fstE; omega

theorem meetB_one {ln : Int} {R : List (Int × Int)} : meetB (ln, R) (ln, R) = (decide (0 < R.length) && decide (0 < ln)) := by
  unfold meetB
  cases R with
  | nil => rfl
  | cons x R =>
    by_cases h : 0 < ln
    · have h1 : meetT ln ln x x = true := by simp [meetT]; omega
      simp [h1, h]
    · have h1 : ∀ y z, meetT ln ln y z = false := fun y z => by simp [meetT]; omega
      simp [h1, h]

theorem clU_two (ln : Int) (R : List (Int × Int)) : clU [(ln, R), (ln, R)] 2 = if 0 < R.length ∧ 0 < ln then [(0, 1)] else [] := by
  have h : meetB (ln, R) (ln, R) = (decide (0 < R.length) && decide (0 < ln)) := meetB_one
  have h0 : clU [(ln, R), (ln, R)] 2 = rowC [(ln, R), (ln, R)] 0 2 ++ rowC [(ln, R), (ln, R)] 1 2 := by
    rw [clU_next, clU_next, clU_0]; rfl
  have h1 : rowC [(ln, R), (ln, R)] 1 2 = [] := rowC_0 _ 1
  have h2 : rowC [(ln, R), (ln, R)] 0 2 = if metAt [(ln, R), (ln, R)] 0 1 then [(((0 : Nat) : Int), ((1 : Nat) : Int))] else [] := by
    rw [rowC_next _ 0 1 (by omega), rowC_0]; simp
  have h3 : metAt [(ln, R), (ln, R)] 0 1 = meetB (ln, R) (ln, R) := by simp [metAt]
  rw [h0, h1, h2, h3, h]
  by_cases g1 : 0 < R.length <;> by_cases g2 : 0 < ln <;> simp [g1, g2]

theorem clU_one (x : TL) : clU [x] 1 = [] := by rw [clU_next, clU_0, List.nil_append]; exact rowC_0 [x] 0

end Go.Proofs.YtkpmddlinlcobaaGreatDoor

namespace Go.Proofs.YtkpmddlinlcobaaGreatDoor
set_option linter.unusedVariables false

/-- all times of lists, one behind the other: which, from, to. -/
def catT (T : List TL) : List (Int × Int × Int) := T.flatMap fun t => t.2.map fun x => (x.1, x.2, x.2 + t.1)

def enc3 (x : Int × Int × Int) : List Value := [.int .i64 x.1, .int .i64 x.2.1, .int .i64 x.2.2]

/-- what they take. -/
def takenL (T : List TL) : List (Int × Int) := (catT T).map fun x => x.2

theorem catT_len (T : List TL) : (catT T).length = sumN T := by
  unfold catT sumN
  rw [List.length_flatMap]
  congr 1
  exact List.map_congr_left fun t _ => by simp

theorem catT_app (T U : List TL) : catT (T ++ U) = catT T ++ catT U := by unfold catT; rw [List.flatMap_append]

theorem catT_one (t : TL) : (catT [t]).flatMap enc3 = t.2.flatMap (encT t.1) := by
  unfold catT
  rw [List.flatMap_cons, List.flatMap_nil, List.append_nil, List.flatMap_map]
  rfl

end Go.Proofs.YtkpmddlinlcobaaGreatDoor

namespace Go.Proofs.YtkpmddlinlcobaaGreatDoor
set_option linter.unusedVariables false

theorem takenL_mem {T : List TL} {x : Int × Int} : x ∈ takenL T ↔ ∃ t ∈ T, ∃ y ∈ t.2, x = (y.2, y.2 + t.1) := by
  unfold takenL catT
  constructor
  · intro h
    obtain ⟨z, hz, rfl⟩ := List.mem_map.1 h
    obtain ⟨t, ht, hz2⟩ := List.mem_flatMap.1 hz
    obtain ⟨y, hy, rfl⟩ := List.mem_map.1 hz2
    exact ⟨t, ht, y, hy, rfl⟩
  · rintro ⟨t, ht, y, hy, rfl⟩
    exact List.mem_map.2 ⟨(y.1, y.2, y.2 + t.1), List.mem_flatMap.2 ⟨t, ht, List.mem_map.2 ⟨y, hy, rfl⟩⟩, rfl⟩

theorem takenL_len (T : List TL) : (takenL T).length = sumN T := by unfold takenL; rw [List.length_map, catT_len]

/-- what is taken by several, as the code gathers it. -/
def tkF (t : List (Int × Int)) (K : List (Int × Int)) : List (Int × Int) := ofL (t ++ ofL K)
def tkL (D : List (List (Int × Int))) : List (Int × Int) := D.foldl tkF []

theorem tkL_snoc (D : List (List (Int × Int))) (k : Nat) (h : k < D.length) : tkL (D.take (k + 1)) = tkF (tkL (D.take k)) D[k] := by
  unfold tkL; rw [List.take_succ_eq_append_getElem h, List.foldl_append]; rfl

theorem tkF_len (t K : List (Int × Int)) : (tkF t K).length ≤ t.length + K.length := by
  unfold tkF
  have h1 := ofL_len (t ++ ofL K)
  have h2 := ofL_len K
  rw [List.length_append] at h1
  omega

theorem ofL_up {L : List (Int × Int)} (h : ∀ b ∈ L, b.1 ≤ b.2) : ∀ b ∈ ofL L, b.1 ≤ b.2 := by
  rw [ofL_norm h]; intro b hb; exact Int.le_of_lt ((norm_sep h).1 b hb)

theorem tkF_up {t K : List (Int × Int)} (h : ∀ b ∈ t, b.1 ≤ b.2) (h2 : ∀ b ∈ K, b.1 ≤ b.2) : ∀ b ∈ tkF t K, b.1 ≤ b.2 :=
  ofL_up fun b hb => by rcases List.mem_append.1 hb with h3 | h3; exact h b h3; exact ofL_up h2 b h3

theorem tkF_cov {t K : List (Int × Int)} (h : ∀ b ∈ t, b.1 ≤ b.2) (h2 : ∀ b ∈ K, b.1 ≤ b.2) (x : Int) : covB (tkF t K) x = (covB t x || covB K x) := by
  unfold tkF
  have h3 : ∀ b ∈ t ++ ofL K, b.1 ≤ b.2 := fun b hb => by rcases List.mem_append.1 hb with h3 | h3; exact h b h3; exact ofL_up h2 b h3
  rw [ofL_norm h3, norm_cov h3, covB_append, ofL_norm h2, norm_cov h2]

theorem tk_fold : ∀ (D : List (List (Int × Int))) (t : List (Int × Int)), (∀ b ∈ t, b.1 ≤ b.2) → (∀ K ∈ D, ∀ b ∈ K, b.1 ≤ b.2) →
    (∀ b ∈ D.foldl tkF t, b.1 ≤ b.2) ∧ ∀ x, covB (D.foldl tkF t) x = (covB t x || D.any fun K => covB K x)
  | [], t, h, _ => ⟨h, fun x => by simp⟩
  | K :: D, t, h, h2 => by
    have h3 := h2 K List.mem_cons_self
    obtain ⟨a1, a2⟩ := tk_fold D (tkF t K) (tkF_up h h3) (fun K' hK => h2 K' (List.mem_cons_of_mem _ hK))
    exact ⟨a1, fun x => by rw [List.foldl_cons, a2, tkF_cov h h3, List.any_cons, Bool.or_assoc]⟩

theorem tkL_up {D : List (List (Int × Int))} (h : ∀ K ∈ D, ∀ b ∈ K, b.1 ≤ b.2) : ∀ b ∈ tkL D, b.1 ≤ b.2 := (tk_fold D [] (by simp) h).1

theorem tkL_cov {D : List (List (Int × Int))} (h : ∀ K ∈ D, ∀ b ∈ K, b.1 ≤ b.2) (x : Int) : covB (tkL D) x = D.any fun K => covB K x := by
  have := (tk_fold D [] (by simp) h).2 x
  rw [show covB [] x = false from rfl, Bool.false_or] at this
  exact this

/-- what busy.Seek answers of what is right. -/
def seekE (L : List (Int × Int)) (a b n : Int) : Int := if strE a b ≠ 0 then strE a b else bfirstE n (freeL b (normL L) a)
def seekV (L : List (Int × Int)) (a b n : Int) : Int := if strE a b ≠ 0 then 0 else firstV n (freeL b (normL L) a)

theorem bfirst_ok {n : Int} {F : List (Int × Int)} (h : bfirstE n F = 0) : 1 ≤ n ∧ n ≤ 1000000 ∧ ∃ c ∈ F, firstV n F = c.1 ∧ n ≤ c.2 - c.1 := by
  unfold bfirstE at h
  by_cases h1 : n < 1 ∨ 1000000 < n
  · rw [if_pos h1] at h; cases h
  · rw [if_neg h1] at h
    cases hf : F.find? (fitB n) with
    | none => rw [hf] at h; simp at h
    | some c =>
      have h2 := List.mem_of_find?_eq_some hf
      have h3 := List.find?_some hf
      refine ⟨by omega, by omega, c, h2, by rw [firstV, if_neg h1, hf]; rfl, by simpa [fitB] using h3⟩

/-- where there is time for all: it is in the stretch, and no one's is there. -/
theorem seek_ok {L : List (Int × Int)} {a b n : Int} (hL : ∀ x ∈ L, x.1 ≤ x.2) (h : seekE L a b n = 0) :
    1 ≤ a ∧ a ≤ seekV L a b n ∧ seekV L a b n + n ≤ b ∧ b < 157785120 ∧ 1 ≤ n ∧ n ≤ 1000000 ∧ ∀ x, seekV L a b n ≤ x → x < seekV L a b n + n → covB L x = false := by
  unfold seekE at h
  by_cases h1 : strE a b ≠ 0
  · rw [if_pos h1] at h; exact absurd h h1
  · rw [if_neg h1] at h
    have hs := strE_ok (show strE a b = 0 by omega)
    obtain ⟨n1, n2, c, hc, hv, hn⟩ := bfirst_ok h
    have hv2 : seekV L a b n = c.1 := by rw [seekV, if_neg h1, hv]
    obtain ⟨f1, f2, f3⟩ := free_in (b := b) (a := a) (norm_sep hL) c hc
    rw [hv2]
    refine ⟨hs.1, f1, by omega, hs.2.2, n1, n2, fun x hx1 hx2 => ?_⟩
    have h2 := (free_ok b (normL L) a (norm_sep hL)).2 x
    have h3 : covB (freeL b (normL L) a) x = true := covB_iff.2 ⟨c, hc, hx1, by omega⟩
    rw [h3] at h2
    have h4 : covB (normL L) x = false := by
      cases h5 : covB (normL L) x
      · rfl
      · rw [h5] at h2; simp at h2
    rwa [norm_cov hL] at h4

/-- a time that takes some minutes is not where all have time. -/
theorem fits_none {D : List (List (Int × Int))} {a b n V : Int} (hD : ∀ K ∈ D, ∀ x ∈ K, x.1 ≤ x.2) (hV : V = seekV (tkL D) a b n) (h : seekE (tkL D) a b n = 0) {K : List (Int × Int)} (hK : K ∈ D) {x : Int × Int} (hx : x ∈ K) :
    ¬ (x.1 < V + n ∧ V < x.2 ∧ x.1 < x.2) := by
  rintro ⟨h1, h2, h3⟩
  obtain ⟨s1, s2, s3, s4, s5, s6, s7⟩ := seek_ok (tkL_up hD) h
  rw [← hV] at s2 s3 s7
  have hm : covB (tkL D) (max x.1 V) = true := by
    rw [tkL_cov hD]
    exact List.any_eq_true.2 ⟨K, hK, covB_iff.2 ⟨x, hx, by omega, by omega⟩⟩
  rw [s7 _ (by omega) (by omega)] at hm
  cases hm

theorem seek_good {L : List (Int × Int)} {a b : Int} (hL : ∀ x ∈ L, x.1 ≤ x.2) (h : strE a b = 0) : Good (freeL b (normL L) a) := fun c hc => by
  have hs := strE_ok h
  obtain ⟨f1, f2, f3⟩ := free_in (b := b) (a := a) (norm_sep hL) c hc
  omega

end Go.Proofs.YtkpmddlinlcobaaGreatDoor

namespace Go.Proofs.YtkpmddlinlcobaaGreatDoor
open Go.RowKit
set_option linter.unusedSimpArgs false
set_option linter.unusedVariables false

theorem foldSet : ∀ (l : List Value) (s off : Nat) (cells : Array Value), ((l.zipIdx s).foldl (fun cs (p : Value × Nat) => cs.setIfInBounds (off + p.2) p.1) cells).size = cells.size ∧
    ∀ m, ((l.zipIdx s).foldl (fun cs (p : Value × Nat) => cs.setIfInBounds (off + p.2) p.1) cells)[m]? = if off + s ≤ m ∧ m < off + s + l.length ∧ m < cells.size then l[m - (off + s)]? else cells[m]?
  | [], s, off, cells => ⟨rfl, fun m => by rw [if_neg (by simp; omega)]; rfl⟩
  | v :: l, s, off, cells => by
    obtain ⟨h1, h2⟩ := foldSet l (s + 1) off (cells.setIfInBounds (off + s) v)
    rw [List.zipIdx_cons, List.foldl_cons]
    refine ⟨by rw [h1]; simp, fun m => ?_⟩
    rw [h2]
    simp only [Array.size_setIfInBounds, List.length_cons]
    by_cases g1 : off + (s + 1) ≤ m ∧ m < off + (s + 1) + l.length ∧ m < cells.size
    · rw [if_pos g1, if_pos (by omega), show m - (off + s) = m - (off + (s + 1)) + 1 by omega, List.getElem?_cons_succ]
    · rw [if_neg g1, Array.getElem?_setIfInBounds]
      by_cases g2 : off + s = m
      · subst g2
        by_cases g3 : off + s < cells.size
        · rw [if_pos rfl, if_pos g3, if_pos (by omega)]; simp
        · rw [if_pos rfl, if_neg g3, if_neg (by omega), Array.getElem?_eq_none (by omega)]
      · rw [if_neg g2, if_neg (by omega)]

theorem foldArr (v : Array Value) (off : Nat) (cells : Array Value) : (v.zipIdx.foldl (fun cs (c, j) => cs.setIfInBounds (off + j) c) cells).size = cells.size ∧
    ∀ m, (v.zipIdx.foldl (fun cs (c, j) => cs.setIfInBounds (off + j) c) cells)[m]? = if off ≤ m ∧ m < off + v.size ∧ m < cells.size then v[m - off]? else cells[m]? := by
  have h := foldSet v.toList 0 off cells
  have e : v.zipIdx.foldl (fun cs (c, j) => cs.setIfInBounds (off + j) c) cells = (v.toList.zipIdx 0).foldl (fun cs (p : Value × Nat) => cs.setIfInBounds (off + p.2) p.1) cells := by
    rw [← Array.foldl_toList, Array.toList_zipIdx]
  rw [e]
  refine ⟨h.1, fun m => ?_⟩
  rw [h.2 m]
  simp

theorem fill1 {v : Value} {k : Nat} {cells : Array Value} (hc : cells.size = k) (hv : v.cells.size = k) : Instr.fill (fun i => some (i * k, k)) cells [(0, v)] = some v.cells := by
  obtain ⟨h1, h2⟩ := foldArr v.cells (0 * k) cells
  rw [Instr.fill]
  simp only
  rw [if_neg (by simp [hv, hc]), Instr.fill]
  congr 1
  refine Array.ext_getElem? fun m => ?_
  rw [h2]
  by_cases hm : m < k
  · rw [if_pos (by omega), Nat.zero_mul, Nat.sub_zero]
  · rw [if_neg (by omega), Array.getElem?_eq_none (xs := cells) (i := m) (by omega), Array.getElem?_eq_none (xs := v.cells) (i := m) (by omega)]

theorem fill2 {u v : Value} {k : Nat} {cells : Array Value} (hc : cells.size = 2 * k) (hu : u.cells.size = k) (hv : v.cells.size = k) : Instr.fill (fun i => some (i * k, k)) cells [(0, u), (1, v)] = some (u.cells ++ v.cells) := by
  obtain ⟨h1, h2⟩ := foldArr u.cells (0 * k) cells
  rw [Instr.fill]
  simp only
  rw [if_neg (by simp [hu, hc]; omega), Instr.fill]
  simp only
  rw [if_neg (by rw [h1]; simp [hv, hc]; omega), Instr.fill]
  obtain ⟨h3, h4⟩ := foldArr v.cells (1 * k) (u.cells.zipIdx.foldl (fun cs (c, j) => cs.setIfInBounds (0 * k + j) c) cells)
  congr 1
  refine Array.ext_getElem? fun m => ?_
  rw [h4, h2, h1, Array.getElem?_append]
  by_cases hm : m < k
  · rw [if_neg (by omega), if_pos (by omega), if_pos (by omega), Nat.zero_mul, Nat.sub_zero]
  · by_cases hm2 : m < 2 * k
    · rw [if_pos (by omega), if_neg (by omega), hu, Nat.one_mul]
    · rw [if_neg (by omega), if_neg (by omega), if_neg (by omega), Array.getElem?_eq_none (xs := cells) (i := m) (by omega), Array.getElem?_eq_none (xs := v.cells) (i := m - u.cells.size) (by omega)]

section
variable {P : Program} {ops : Array Oper} {rest : List Oper} {o : Oper} {a : Act} {Q : Exit → Act → World → Prop}

theorem run_buildSlice {w : World} (t elem : TypeId) (i : TypeInfo) (z : Value) (n k : Nat) (parts : Array (Nat × Value)) (cells : Array Value) (ht : P.underlying t = some (.slice elem)) (hi : P.info? elem = some i) (hz : i.zero = some z) (hk : i.size = k) (hzk : z.cells.size = k) (hn : n * k ≤ 16777216) (hnk : 0 < n * k)
    (hf : ∀ cs : Array Value, cs.size = n * k → Instr.fill (fun i => some (i * k, k)) cs parts.toList = some cells) :
    (Instr.buildSlice t n parts).run P w = .ok (.slice (some ⟨w.heap.size, 0, none⟩) n n) (w.alloc (.cells cells elem)) := by
  have hfx := hf ((Array.range (n * k)).map (z.cells[· % z.cells.size]!)) (by simp)
  unfold Instr.buildSlice
  simp only [Sem.run_bind, run_underlying ht, sizeOf, typeInfo, hi, hk, zeroValue, hz]
  simp [hi, hk, hz, show ¬ 16777216 < n * k by omega, show ¬ n * k = 0 by omega]
  rw [hfx]
  simp [newRow, newObj]
  rfl

/-- a slice of one struct, written out. -/
theorem wpList_build1 {w : World} (hgd : o.guard = none) (t : TypeId) (x : Operand) (ho : o.op = .buildSlice t 1 #[(0, x)]) (elem : TypeId) (i : TypeInfo) (z : Value) (k : Nat) (ht : P.underlying t = some (.slice elem)) (hi : P.info? elem = some i) (hz : i.zero = some z) (hk : i.size = k) (hzk : z.cells.size = k)
    (hn : k ≤ 16777216) (hnk : 0 < k) (v : Value) (hx : a.eval x = v) (hv : v.cells.size = k) (h : wpList P ops Q rest (a.put o.dst (.slice (some ⟨w.heap.size, 0, none⟩) 1 1)) (w.alloc (.cells v.cells elem))) : wpList P ops Q (o :: rest) a w := by
  refine wpList_plain hgd fun K hK => ?_
  have hrun := run_buildSlice (P := P) (w := w) t elem i z 1 k #[(0, v)] v.cells ht hi hz hk hzk (by omega) (by omega) (fun cs hc => fill1 (by omega) hv)
  unfold Oper.wp
  simp [execOp, ho, hx, hrun, Result.andThen]
  exact hK _ _ h

/-- a slice of two structs, written out. -/
theorem wpList_build2 {w : World} (hgd : o.guard = none) (t : TypeId) (x y : Operand) (ho : o.op = .buildSlice t 2 #[(0, x), (1, y)]) (elem : TypeId) (i : TypeInfo) (z : Value) (k : Nat) (ht : P.underlying t = some (.slice elem)) (hi : P.info? elem = some i) (hz : i.zero = some z) (hk : i.size = k) (hzk : z.cells.size = k)
    (hn : k ≤ 8388608) (hnk : 0 < k) (u v : Value) (hx : a.eval x = u) (hy : a.eval y = v) (hu : u.cells.size = k) (hv : v.cells.size = k) (h : wpList P ops Q rest (a.put o.dst (.slice (some ⟨w.heap.size, 0, none⟩) 2 2)) (w.alloc (.cells (u.cells ++ v.cells) elem))) : wpList P ops Q (o :: rest) a w := by
  refine wpList_plain hgd fun K hK => ?_
  have hrun := run_buildSlice (P := P) (w := w) t elem i z 2 k #[(0, u), (1, v)] (u.cells ++ v.cells) ht hi hz hk hzk (by omega) (by omega) (fun cs hc => fill2 (by omega) hu hv)
  unfold Oper.wp
  simp [execOp, ho, hx, hy, hrun, Result.andThen]
  exact hK _ _ h

end

end Go.Proofs.YtkpmddlinlcobaaGreatDoor
