/- A slice that is written out, of one or two structs: where it lies. No program in sight. -/
import Derived.Test.YtkpmddlinlcobaaGreatDoorQ01
import Derived.Test.YtkpmddlinlcobaaGreatDoorQ05
namespace Go.Proofs.YtkpmddlinlcobaaGreatDoor
open Go.RowKit
set_option linter.unusedSimpArgs false
set_option linter.unusedVariables false

theorem foldSet : ∀ (l : List Value) (s off : Nat) (cells : Array Value), ((l.zipIdx s).foldl (fun cs (p : Value × Nat) => cs.setIfInBounds (off + p.2) p.1) cells).size = cells.size ∧
    ∀ m, ((l.zipIdx s).foldl (fun cs (p : Value × Nat) => cs.setIfInBounds (off + p.2) p.1) cells)[m]? = if off + s ≤ m ∧ m < off + s + l.length ∧ m < cells.size then l[m - (off + s)]? else cells[m]?
  | [], s, off, cells => ⟨rfl, fun m => by rw [if_neg (by simp; omega)]; rfl⟩
  | v :: l, s, off, cells => by
    obtain ⟨h1, h2⟩ := foldSet l (s + 1) off (cells.setIfInBounds (off + s) v)
    rw [List.zipIdx_cons, List.foldl_cons]
    refine ⟨by rw [h1]; simp, fun m => ?_⟩
    rw [h2]
    simp only [Array.size_setIfInBounds, List.length_cons]
    by_cases g1 : off + (s + 1) ≤ m ∧ m < off + (s + 1) + l.length ∧ m < cells.size
    · rw [if_pos g1, if_pos (by omega), show m - (off + s) = m - (off + (s + 1)) + 1 by omega, List.getElem?_cons_succ]
    · rw [if_neg g1, Array.getElem?_setIfInBounds]
      by_cases g2 : off + s = m
      · subst g2
        by_cases g3 : off + s < cells.size
        · rw [if_pos rfl, if_pos g3, if_pos (by omega)]; simp
        · rw [if_pos rfl, if_neg g3, if_neg (by omega), Array.getElem?_eq_none (by omega)]
      · rw [if_neg g2, if_neg (by omega)]

theorem foldArr (v : Array Value) (off : Nat) (cells : Array Value) : (v.zipIdx.foldl (fun cs (c, j) => cs.setIfInBounds (off + j) c) cells).size = cells.size ∧
    ∀ m, (v.zipIdx.foldl (fun cs (c, j) => cs.setIfInBounds (off + j) c) cells)[m]? = if off ≤ m ∧ m < off + v.size ∧ m < cells.size then v[m - off]? else cells[m]? := by
  have h := foldSet v.toList 0 off cells
  have e : v.zipIdx.foldl (fun cs (c, j) => cs.setIfInBounds (off + j) c) cells = (v.toList.zipIdx 0).foldl (fun cs (p : Value × Nat) => cs.setIfInBounds (off + p.2) p.1) cells := by
    rw [← Array.foldl_toList, Array.toList_zipIdx]
  rw [e]
  refine ⟨h.1, fun m => ?_⟩
  rw [h.2 m]
  simp

theorem fill1 {v : Value} {k : Nat} {cells : Array Value} (hc : cells.size = k) (hv : v.cells.size = k) : Instr.fill (fun i => some (i * k, k)) cells [(0, v)] = some v.cells := by
  obtain ⟨h1, h2⟩ := foldArr v.cells (0 * k) cells
  rw [Instr.fill]
  simp only
  rw [if_neg (by simp [hv, hc]), Instr.fill]
  congr 1
  refine Array.ext_getElem? fun m => ?_
  rw [h2]
  by_cases hm : m < k
  · rw [if_pos (by omega), Nat.zero_mul, Nat.sub_zero]
  · rw [if_neg (by omega), Array.getElem?_eq_none (xs := cells) (i := m) (by omega), Array.getElem?_eq_none (xs := v.cells) (i := m) (by omega)]

theorem fill2 {u v : Value} {k : Nat} {cells : Array Value} (hc : cells.size = 2 * k) (hu : u.cells.size = k) (hv : v.cells.size = k) : Instr.fill (fun i => some (i * k, k)) cells [(0, u), (1, v)] = some (u.cells ++ v.cells) := by
  obtain ⟨h1, h2⟩ := foldArr u.cells (0 * k) cells
  rw [Instr.fill]
  simp only
  rw [if_neg (by simp [hu, hc]; omega), Instr.fill]
  simp only
  rw [if_neg (by rw [h1]; simp [hv, hc]; omega), Instr.fill]
  obtain ⟨h3, h4⟩ := foldArr v.cells (1 * k) (u.cells.zipIdx.foldl (fun cs (c, j) => cs.setIfInBounds (0 * k + j) c) cells)
  congr 1
  refine Array.ext_getElem? fun m => ?_
  rw [h4, h2, h1, Array.getElem?_append]
  by_cases hm : m < k
  · rw [if_neg (by omega), if_pos (by omega), if_pos (by omega), Nat.zero_mul, Nat.sub_zero]
  · by_cases hm2 : m < 2 * k
    · rw [if_pos (by omega), if_neg (by omega), hu, Nat.one_mul]
    · rw [if_neg (by omega), if_neg (by omega), if_neg (by omega), Array.getElem?_eq_none (xs := cells) (i := m) (by omega), Array.getElem?_eq_none (xs := v.cells) (i := m - u.cells.size) (by omega)]

section
variable {P : Program} {ops : Array Oper} {rest : List Oper} {o : Oper} {a : Act} {Q : Exit → Act → World → Prop}

theorem run_buildSlice {w : World} (t elem : TypeId) (i : TypeInfo) (z : Value) (n k : Nat) (parts : Array (Nat × Value)) (cells : Array Value) (ht : P.underlying t = some (.slice elem)) (hi : P.info? elem = some i) (hz : i.zero = some z) (hk : i.size = k) (hzk : z.cells.size = k) (hn : n * k ≤ 16777216) (hnk : 0 < n * k)
    (hf : ∀ cs : Array Value, cs.size = n * k → Instr.fill (fun i => some (i * k, k)) cs parts.toList = some cells) :
    (Instr.buildSlice t n parts).run P w = .ok (.slice (some ⟨w.heap.size, 0, none⟩) n n) (w.alloc (.cells cells elem)) := by
  have hfx := hf ((Array.range (n * k)).map (z.cells[· % z.cells.size]!)) (by simp)
  unfold Instr.buildSlice
  simp only [Sem.run_bind, run_underlying ht, sizeOf, typeInfo, hi, hk, zeroValue, hz]
  simp [hi, hk, hz, show ¬ 16777216 < n * k by omega, show ¬ n * k = 0 by omega]
  rw [hfx]
  simp [newRow, newObj]
  rfl

/-- a slice of one struct, written out. -/
theorem wpList_build1 {w : World} (hgd : o.guard = none) (t : TypeId) (x : Operand) (ho : o.op = .buildSlice t 1 #[(0, x)]) (elem : TypeId) (i : TypeInfo) (z : Value) (k : Nat) (ht : P.underlying t = some (.slice elem)) (hi : P.info? elem = some i) (hz : i.zero = some z) (hk : i.size = k) (hzk : z.cells.size = k)
    (hn : k ≤ 16777216) (hnk : 0 < k) (v : Value) (hx : a.eval x = v) (hv : v.cells.size = k) (h : wpList P ops Q rest (a.put o.dst (.slice (some ⟨w.heap.size, 0, none⟩) 1 1)) (w.alloc (.cells v.cells elem))) : wpList P ops Q (o :: rest) a w := by
  refine wpList_plain hgd fun K hK => ?_
  have hrun := run_buildSlice (P := P) (w := w) t elem i z 1 k #[(0, v)] v.cells ht hi hz hk hzk (by omega) (by omega) (fun cs hc => fill1 (by omega) hv)
  unfold Oper.wp
  simp [execOp, ho, hx, hrun, Result.andThen]
  exact hK _ _ h

/-- a slice of two structs, written out. -/
theorem wpList_build2 {w : World} (hgd : o.guard = none) (t : TypeId) (x y : Operand) (ho : o.op = .buildSlice t 2 #[(0, x), (1, y)]) (elem : TypeId) (i : TypeInfo) (z : Value) (k : Nat) (ht : P.underlying t = some (.slice elem)) (hi : P.info? elem = some i) (hz : i.zero = some z) (hk : i.size = k) (hzk : z.cells.size = k)
    (hn : k ≤ 8388608) (hnk : 0 < k) (u v : Value) (hx : a.eval x = u) (hy : a.eval y = v) (hu : u.cells.size = k) (hv : v.cells.size = k) (h : wpList P ops Q rest (a.put o.dst (.slice (some ⟨w.heap.size, 0, none⟩) 2 2)) (w.alloc (.cells (u.cells ++ v.cells) elem))) : wpList P ops Q (o :: rest) a w := by
  refine wpList_plain hgd fun K hK => ?_
  have hrun := run_buildSlice (P := P) (w := w) t elem i z 2 k #[(0, u), (1, v)] (u.cells ++ v.cells) ht hi hz hk hzk (by omega) (by omega) (fun cs hc => fill2 (by omega) hu hv)
  unfold Oper.wp
  simp [execOp, ho, hx, hy, hrun, Result.andThen]
  exact hK _ _ h

end

end Go.Proofs.YtkpmddlinlcobaaGreatDoor
