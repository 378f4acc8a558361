/- Arguments opened: a slice of integers, a slice of structs of two integers, as the walks' contracts read them. No condition. -/
import Derived.Test.YtdkcgggnkhbkkaaDoorSl
import Derived.Deep.SlicePairs
import Derived.ProofKit
namespace Go.Proofs.YtdkcgggnkhbkkaaDoor
open Go.Deep Go.ChangeShapes Go.WideShapes Go.RowKit

theorem add_spot (b o j : Nat) : (⟨b, o, none⟩ : Addr).add j = ⟨b, o + j, none⟩ := by unfold Addr.add; split <;> simp_all

theorem cell_spot {w : World} {a : Addr} {u : Value} (h : w.cell? (a.add 0) = some u) : a = ⟨a.block, a.off, none⟩ := by
  have h' : w.cell? a = some u := h
  obtain ⟨b, o, s⟩ := a
  cases s with
  | none => rfl
  | some s =>
    unfold World.cell? at h'
    split at h' <;> simp at h'

theorem pairsR_mk {w : World} {a : Addr} {len cap : Nat} (L : List (Int × Int)) (hlen : L.length = len) (h1 : len ≤ cap) (h2 : cap ≤ maxLen)
    (hc : ∀ i (hi : i < L.length), w.cell? (a.add (i * 2)) = some (.int .i64 L[i].1) ∧ w.cell? (a.add (i * 2 + 1)) = some (.int .i64 L[i].2)) : PairsR w (.slice (some a) len cap) L := by
  subst hlen
  refine ⟨some a, cap, rfl, pairsV_len L, h1, h2, fun hn => ?_⟩
  have ha := cell_spot (a := a) (hc 0 hn).1
  refine ⟨a.block, a.off, by rw [← ha], fun j u hj => ?_⟩
  have hjl : j < L.length * 2 := by rw [← pairsV_len]; exact (List.getElem?_eq_some_iff.1 hj).1
  have hi : j / 2 < L.length := by omega
  have hp := pairsV_at L (j / 2) hi
  have hcc := hc (j / 2) hi
  rw [ha, add_spot, add_spot] at hcc
  by_cases he : j % 2 = 0
  · have e : j / 2 * 2 = j := by omega
    rw [e] at hp hcc
    rw [hp.1] at hj
    rw [← hj]; exact hcc.1
  · have e : j / 2 * 2 + 1 = j := by omega
    rw [e] at hp hcc
    rw [hp.2] at hj
    rw [← hj]; exact hcc.2

section
variable {H : Type} {enc : TypeId × Value → H} {P : Program} {w : World} {base : Nat} {spare : Nat → Bool} {held : Bool}

/-- A slice of structs of two integers. -/
theorem open_pairsR {t e : TypeId} {f0 f1 : Field} {fuel : Nat} {v : Value} {x : DataW H × List MemPlace} (ht : P.underlying t = some (.slice e)) (he : P.underlying e = some (.struct #[f0, f1]))
    (ce : P.cellsOf e = 2) (o0 : f0.offset = 0) (o1 : f1.offset = 1) (c0 : P.cellsOf f0.type = 1) (c1 : P.cellsOf f1.type = 1) (i0 : P.underlying f0.type = some (.int .i64)) (i1 : P.underlying f1.type = some (.int .i64))
    (h : DataW.trod enc P w base spare held fuel t [v] = some x) : ∃ L : List (Int × Int), PairsR w v L := by
  rcases open_slice_pairs ht he ce o0 o1 c0 c1 h with ⟨h1, _⟩ | ⟨a, len, cap, m, n, V0, V1, D0, D1, P0, P1, h1, hb, hl, hm, hmm, hx, hi⟩
  · obtain rfl : v = .slice none 0 0 := by simpa using h1
    exact ⟨[], reads_nil w 2⟩
  · obtain rfl : v = .slice (some a) len cap := by simpa using h1
    have hlm : len ≤ m := by rw [hmm]; split <;> omega
    refine ⟨(List.range len).map fun i => (intOf (V0 i), intOf (V1 i)), pairsR_mk _ (by simp) hl hm fun i hi' => ?_⟩
    have hil : i < len := by simpa using hi'
    obtain ⟨h3, h4, h5, h6⟩ := hi i (by omega)
    obtain ⟨p, e1, _, _⟩ := DataW.trod_int i0 h5
    obtain ⟨q, e2, _, _⟩ := DataW.trod_int i1 h6
    have e1' : V0 i = .int .i64 p := by simpa using e1
    have e2' : V1 i = .int .i64 q := by simpa using e2
    rw [e1'] at h3; rw [e2'] at h4
    refine ⟨h3.trans ?_, h4.trans ?_⟩ <;> simp [e1', e2', intOf]

theorem intsR_mk {a : Addr} {len cap : Nat} (L : List Int) (hlen : L.length = len) (h1 : len ≤ cap) (h2 : cap ≤ maxLen) (hc : ∀ i (hi : i < L.length), w.cell? (a.add i) = some (.int .i64 L[i])) : IntsR w (.slice (some a) len cap) L := by
  subst hlen
  refine ⟨some a, cap, rfl, by simp, h1, h2, fun hn => ?_⟩
  have ha := cell_spot (a := a) (hc 0 hn)
  refine ⟨a.block, a.off, by rw [← ha], fun j u hj => ?_⟩
  have hjl : j < L.length := by have := (List.getElem?_eq_some_iff.1 hj).1; simpa using this
  have hcc := hc j hjl
  rw [ha, add_spot] at hcc
  rw [hcc, ← hj]
  simp [hjl]

/-- A slice of integers. -/
theorem open_intsR {t e : TypeId} {fuel : Nat} {v : Value} {x : DataW H × List MemPlace} (ht : P.underlying t = some (.slice e)) (ce : P.cellsOf e = 1) (i0 : P.underlying e = some (.int .i64))
    (h : DataW.trod enc P w base spare held fuel t [v] = some x) : ∃ L : List Int, IntsR w v L := by
  rcases open_slice ht h with ⟨h1, _⟩ | ⟨a, len, cap, m, n, D, Pl, h1, hb, hl, hm, hmm, hx, hi⟩
  · obtain rfl : v = .slice none 0 0 := by simpa using h1
    exact ⟨[], reads_nil w 1⟩
  · obtain rfl : v = .slice (some a) len cap := by simpa using h1
    have hlm : len ≤ m := by rw [hmm]; split <;> omega
    refine ⟨(List.range len).map fun i => intOf ((w.cell? (a.add i)).getD undef), intsR_mk _ (by simp) hl hm fun i hi' => ?_⟩
    have hil : i < len := by simpa using hi'
    obtain ⟨cs', h3, h4⟩ := hi i (by omega)
    rw [ce, Nat.mul_one] at h3
    obtain ⟨p, rfl, _, _⟩ := DataW.trod_int i0 h4
    obtain ⟨_, _, hcell⟩ := World.cells?_some h3
    have hc0 := hcell 0 (by omega)
    have hc1 : w.cell? (a.add i) = some (.int .i64 p) := by simpa [Addr.add] using hc0
    simp [hc1, intOf]

end

end Go.Proofs.YtdkcgggnkhbkkaaDoor
