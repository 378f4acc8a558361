/- A slice of the call's own whose elements have several cells, sorted by the library: what it owns then. No program in sight. -/
import Derived.Test.YtdkcgggnkhbkkaaDoorSl
import Derived.Shelf.SlSortCmp.NoneTotal
namespace Go.Proofs.YtdkcgggnkhbkkaaDoor
open Go.RowKit Go.Sort
set_option linter.unusedVariables false
set_option linter.unusedSectionVars false

section
variable {α : Type} [Inhabited α] {enc : α → List Value} {k : Nat}

theorem flatMap_len (hk : ∀ x, (enc x).length = k) : ∀ L : List α, (L.flatMap enc).length = L.length * k
  | [] => by simp
  | x :: r => by rw [List.flatMap_cons, List.length_append, hk, flatMap_len hk r, List.length_cons, Nat.add_mul]; omega

theorem flatMap_at (hk : ∀ x, (enc x).length = k) : ∀ (L : List α) (i c : Nat) (h : i < L.length), c < k → (L.flatMap enc)[i * k + c]? = (enc L[i])[c]?
  | x :: r, 0, c, h, hc => by
    rw [Nat.zero_mul, Nat.zero_add, List.flatMap_cons, List.getElem?_append_left (by rw [hk]; exact hc)]; rfl
  | x :: r, i + 1, c, h, hc => by
    rw [List.flatMap_cons, List.getElem?_append_right (by rw [hk, Nat.add_mul]; omega), hk]
    have e : (i + 1) * k + c - k = i * k + c := by rw [Nat.add_mul]; omega
    rw [e, flatMap_at hk r i c (by simpa using h) hc]; rfl

theorem flatK_list (hk : ∀ x, (enc x).length = k) (L : List α) : (flatK enc k L.toArray).toList = L.flatMap enc := by
  apply List.ext_getElem?
  intro t
  by_cases ht : t < L.length * k
  · have hk0 : 0 < k := by
      rcases Nat.eq_zero_or_pos k with h | h
      · subst h; simp at ht
      · exact h
    have hi : t / k < L.length := by rw [Nat.div_lt_iff_lt_mul hk0]; exact ht
    have hc : t % k < k := Nat.mod_lt _ hk0
    have e : t / k * k + t % k = t := by rw [Nat.mul_comm]; exact Nat.div_add_mod t k
    have h2 := flatMap_at hk L (t / k) (t % k) hi hc
    rw [e] at h2
    rw [h2, Array.getElem?_toList, Array.getElem?_eq_getElem (by simpa using ht)]
    have h3 := get_flatK enc k L.toArray t (by simpa using ht)
    rw [getElem!_pos (flatK enc k L.toArray) t (by simpa using ht)] at h3
    rw [h3]
    have h4 : L.toArray[t / k]! = L[t / k] := by rw [getElem!_pos _ _ (by simpa using hi)]; simp
    rw [h4, getElem!_pos _ _ (by rw [hk]; exact hc), List.getElem?_eq_getElem]
  · have h1 := flatMap_len hk L
    have h2 : (flatK enc k L.toArray).toList.length = L.length * k := by simp
    rw [List.getElem?_eq_none (by omega), List.getElem?_eq_none (by omega)]

theorem holds_id_block {w : World} {g : Nat} {cur : Array Value} {e : TypeId} {F : Array Value} (hb : w.heap[g]? = some (.cells cur e (0, 0))) (ht : cur.toList.take F.size = F.toList) : Holds id w g 0 F := by
  intro j hj
  refine ⟨?_, by simp [World.frozen?, hb]⟩
  have h1 : (cur.toList.take F.size)[j]? = F.toList[j]? := by rw [ht]
  rw [List.getElem?_take_of_lt hj] at h1
  simp only [World.cell?, hb, Nat.zero_add]
  simp only [Option.isSome_none, Bool.false_eq_true, if_false]
  rw [← Array.getElem?_toList, h1]
  simp [hj]

theorem heap_putId {w : World} {g n : Nat} {os : Array Obj} {cur : Array Value} {e : TypeId} {fr : Nat × Nat} (F : Array Value) (hb : w.heap[g]? = some (.cells cur e fr)) :
    (grow (putRow id (Sort.ahead w n) g 0 F) os).heap[g]? = some (.cells (putCells id 0 F cur) e fr) := by
  have hg : g < w.heap.size := (Array.getElem?_eq_some_iff.1 hb).1
  rw [heap_grow_old _ _ (by simpa using hg)]
  simp [putRow, mapBlock, Sort.ahead, Array.getElem?_modify, hb, onCells]

theorem grownBy_putId {w : World} {g n : Nat} {os : Array Obj} (F : Array Value) : w.grownBy (grow (putRow id (Sort.ahead w n) g 0 F) os) (some g) := by
  refine ⟨rfl, rfl, rfl, by simp, fun k hk hne => ?_⟩
  rw [heap_grow_old _ _ (by simpa using hk)]
  have : g ≠ k := fun e => hne (by rw [e])
  simp [putRow, mapBlock, Sort.ahead, Array.getElem?_modify, this]

theorem take_putId (cur F : Array Value) (h : F.size ≤ cur.size) : (putCells id 0 F cur).toList.take F.size = F.toList := by
  apply List.ext_getElem?
  intro j
  by_cases hj : j < F.size
  · rw [List.getElem?_take_of_lt hj, Array.getElem?_toList]
    simp [putCells, hj, show j < cur.size by omega]
  · rw [List.getElem?_take_eq_none (by omega), List.getElem?_eq_none (by simp; omega)]

/-- behind a sort the same slice owns the list that was laid. -/
theorem ownsRow_sortedK (hk : ∀ x, (enc x).length = k) {w : World} {base g cap n : Nat} {e : TypeId} {os : Array Obj} {cur : Array Value} {m : Nat} (ts : List α) (hl : ts.length = m) (hbase : base ≤ g) (hb : w.heap[g]? = some (.cells cur e (0, 0)))
    (h1 : m ≤ cap) (h2 : cap ≤ maxLen) (h3 : cur.size = cap * k) :
    (sortWorldK enc k w g 0 n ts.toArray os).ownsRow base e k (.slice (some ⟨g, 0, none⟩) m cap) m (ts.flatMap enc) := by
  have hF : (flatK enc k ts.toArray).toList = ts.flatMap enc := flatK_list hk ts
  have hs : (flatK enc k ts.toArray).size = m * k := by rw [size_flatK]; simp [hl]
  refine ⟨by rw [flatMap_len hk, hl], .inr ⟨g, cap, _, rfl, hbase, heap_putId (flatK enc k ts.toArray) hb, h1, h2, by simp [putCells, h3], ?_⟩⟩
  rw [← hs, ← hF]
  exact take_putId cur _ (by rw [hs, h3]; exact Nat.mul_le_mul_right k h1)

theorem holdsK_own (hk : ∀ x, (enc x).length = k) {w : World} {g : Nat} {cur : Array Value} {e : TypeId} (L : List α) (hb : w.heap[g]? = some (.cells cur e (0, 0))) (ht : cur.toList.take (L.length * k) = L.flatMap enc) : HoldsK enc k w g 0 L.toArray := by
  refine holds_id_block hb ?_
  rw [size_flatK, flatK_list hk]
  simpa using ht

end

end Go.Proofs.YtdkcgggnkhbkkaaDoor
