/- Arguments opened: a text, a slice of texts, with what they bring to the bulk. No condition. -/
import Derived.Test.YtdkcgggnkhbkkaaGreatDoorRows
import Derived.Test.YtdkcgggnkhbkkaaGreatDoorOpen
import Derived.Test.YtdkcgggnkhbkkaaGreatDoorLineB
import Derived.SliceStrings
namespace Go.Proofs.YtdkcgggnkhbkkaaGreatDoor
open Go.Deep Go.ChangeShapes Go.WideShapes Go.RowKit

theorem bulk_one {H : Type} (d : DataW H) : 1 ≤ Rows.uptoBulk d := by
  cases d with
  | lit l => cases l <;> simp [Rows.uptoBulk]
  | nil => simp [Rows.uptoBulk]
  | ptr d => simp [Rows.uptoBulk]
  | slice elems spare => simp [Rows.uptoBulk]
  | agg parts => simp [Rows.uptoBulk]
  | iface t d => simp [Rows.uptoBulk]
  | map entries => simp [Rows.uptoBulk]
  | held h => simp [Rows.uptoBulk]

theorem bulk_part {H : Type} {d : DataW H} {l : List (DataW H)} (h : d ∈ l) : Rows.uptoBulk d ≤ Rows.uptoBulkAll l := by
  induction l with
  | nil => cases h
  | cons x r ih =>
    simp only [Rows.uptoBulkAll]
    cases List.mem_cons.1 h with
    | inl e => subst e; omega
    | inr e => have := ih e; omega

theorem bulk_small {H : Type} {l : List (DataW H)} (hk : Rows.uptoSmall H l = true) : Rows.uptoBulkAll l ≤ 1048576 := of_decide_eq_true hk

theorem bulk_text {H : Type} (l : List UInt8) : Rows.uptoBulk (DataW.lit (H := H) (.string l)) = l.length + 1 := by simp [Rows.uptoBulk]

theorem bulk_texts {H : Type} (ss : List ByteArray) : Rows.uptoBulkAll (Go.ChangeShapes.strs (H := H) ss) = (ss.map fun s => s.data.toList).flatten.length + ss.length := by
  induction ss with
  | nil => rfl
  | cons s r ih =>
    show Rows.uptoBulk (DataW.lit (H := H) (.string s.data.toList)) + Rows.uptoBulkAll (Go.ChangeShapes.strs (H := H) r) = _
    rw [ih, bulk_text]
    simp only [List.map_cons, List.flatten_cons, List.length_append, List.length_cons]
    omega

section
variable {H : Type} {enc : TypeId × Value → H} {P : Program} {w : World} {base : Nat} {spare : Nat → Bool} {held : Bool}

theorem strsR_mk {a : Addr} {len cap : Nat} (L : List (List UInt8)) (hlen : L.length = len) (h1 : len ≤ cap) (h2 : cap ≤ maxLen) (hc : ∀ i (hi : i < L.length), w.cell? (a.add i) = some (.string (bs L[i]))) : StrsR w (.slice (some a) len cap) L := by
  subst hlen
  refine ⟨some a, cap, rfl, by simp [strs], h1, h2, fun hn => ?_⟩
  have ha := cell_spot (a := a) (hc 0 hn)
  refine ⟨a.block, a.off, by rw [← ha], fun j u hj => ?_⟩
  have hjl : j < L.length := by have := (List.getElem?_eq_some_iff.1 hj).1; simpa [strs] using this
  have hcc := hc j hjl
  rw [ha, add_spot] at hcc
  rw [hcc, ← hj]
  simp [strs, hjl]

/-- A slice of texts. -/
theorem open_strsR {t e : TypeId} {fuel : Nat} {v : Value} {x : DataW H × List MemPlace} (ht : P.underlying t = some (.slice e)) (he : P.underlying e = some .string) (ce : P.cellsOf e = 1)
    (h : DataW.trod enc P w base spare held fuel t [v] = some x) : ∃ L : List (List UInt8), StrsR w v L ∧ L.flatten.length + L.length < Rows.uptoBulk x.1 + 1 := by
  rcases open_strings ht he ce h with ⟨h1, h2⟩ | ⟨a, len, cap, ss, h1, hb, hl, hm, hz, hx, hcell, hsz⟩
  · obtain rfl : v = .slice none 0 0 := by simpa using h1
    exact ⟨[], reads_nil w 1, by simp⟩
  · obtain rfl : v = .slice (some a) len cap := by simpa using h1
    have hlm : len ≤ ss.length := by rw [hz]; split <;> omega
    refine ⟨(ss.take len).map fun s => s.data.toList, strsR_mk _ (by simp; omega) hl hm fun i hi => ?_, ?_⟩
    · have hi2 : i < len := by simp at hi; omega
      have hc := hcell i (by omega)
      rw [hc]
      simp [List.getD_eq_getElem?_getD, List.getElem?_eq_getElem (show i < ss.length by omega), bs_data]
    · rw [hx]
      simp only [Rows.uptoBulk, bulk_texts, List.length_map]
      omega

end

end Go.Proofs.YtdkcgggnkhbkkaaGreatDoor
