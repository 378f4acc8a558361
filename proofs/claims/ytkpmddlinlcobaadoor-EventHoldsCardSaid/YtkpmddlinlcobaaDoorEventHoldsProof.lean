/- The statement of the law EventHolds, for every input: from its walk to the given row, and the row's tied card. -/
import Derived.Test.YtkpmddlinlcobaaDoorSl
import Derived.Deep.SlicePairs
import Derived.ProofKit
import Derived.Test.YtkpmddlinlcobaaDoorEvM
import Derived.Lib.SmallJoins
import Derived.SizedLaws
import Derived.OpenShut
import Derived.Test.YtkpmddlinlcobaaDoorRows
import Derived.Test.YtkpmddlinlcobaaDoorDayB
import Derived.LaidMore
import Derived.LaidSub
import Derived.MakeChecks
import Derived.Lib.LaidTab
import Derived.Stop.Joined
import Derived.Test.YtkpmddlinlcobaaDoorEventHolds
import Derived.Test.YtkpmddlinlcobaaDoorCards
import Derived.Test.YtkpmddlinlcobaaDoorTie
import Derived.SevenTiedAt
import Derived.WalkKit
import Derived.ShutString
import Derived.ChangeOld
import Derived.Below
import Derived.Deep.DeepHandedRow
import Derived.Shelf.Vars
namespace Go.Proofs.YtkpmddlinlcobaaDoor
open Go.Deep Go.ChangeShapes Go.WideShapes Go.RowKit

theorem add_spot (b o j : Nat) : (⟨b, o, none⟩ : Addr).add j = ⟨b, o + j, none⟩ := by unfold Addr.add; split <;> simp_all

theorem cell_spot {w : World} {a : Addr} {u : Value} (h : w.cell? (a.add 0) = some u) : a = ⟨a.block, a.off, none⟩ := by
  have h' : w.cell? a = some u := h
  obtain ⟨b, o, s⟩ := a
  cases s with
  | none => rfl
  | some s =>
    unfold World.cell? at h'
    split at h' <;> simp at h'

theorem pairsR_mk {w : World} {a : Addr} {len cap : Nat} (L : List (Int × Int)) (hlen : L.length = len) (h1 : len ≤ cap) (h2 : cap ≤ maxLen)
    (hc : ∀ i (hi : i < L.length), w.cell? (a.add (i * 2)) = some (.int .i64 L[i].1) ∧ w.cell? (a.add (i * 2 + 1)) = some (.int .i64 L[i].2)) : PairsR w (.slice (some a) len cap) L := by
  subst hlen
  refine ⟨some a, cap, rfl, pairsV_len L, h1, h2, fun hn => ?_⟩
  have ha := cell_spot (a := a) (hc 0 hn).1
  refine ⟨a.block, a.off, by rw [← ha], fun j u hj => ?_⟩
  have hjl : j < L.length * 2 := by rw [← pairsV_len]; exact (List.getElem?_eq_some_iff.1 hj).1
  have hi : j / 2 < L.length := by omega
  have hp := pairsV_at L (j / 2) hi
  have hcc := hc (j / 2) hi
  rw [ha, add_spot, add_spot] at hcc
  by_cases he : j % 2 = 0
  · have e : j / 2 * 2 = j := by omega
    rw [e] at hp hcc
    rw [hp.1] at hj
    rw [← hj]; exact hcc.1
  · have e : j / 2 * 2 + 1 = j := by omega
    rw [e] at hp hcc
    rw [hp.2] at hj
    rw [← hj]; exact hcc.2

section
variable {H : Type} {enc : TypeId × Value → H} {P : Program} {w : World} {base : Nat} {spare : Nat → Bool} {held : Bool}

/-- A slice of structs of two integers. -/
theorem open_pairsR {t e : TypeId} {f0 f1 : Field} {fuel : Nat} {v : Value} {x : DataW H × List MemPlace} (ht : P.underlying t = some (.slice e)) (he : P.underlying e = some (.struct #[f0, f1]))
    (ce : P.cellsOf e = 2) (o0 : f0.offset = 0) (o1 : f1.offset = 1) (c0 : P.cellsOf f0.type = 1) (c1 : P.cellsOf f1.type = 1) (i0 : P.underlying f0.type = some (.int .i64)) (i1 : P.underlying f1.type = some (.int .i64))
    (h : DataW.trod enc P w base spare held fuel t [v] = some x) : ∃ L : List (Int × Int), PairsR w v L := by
  rcases open_slice_pairs ht he ce o0 o1 c0 c1 h with ⟨h1, _⟩ | ⟨a, len, cap, m, n, V0, V1, D0, D1, P0, P1, h1, hb, hl, hm, hmm, hx, hi⟩
  · obtain rfl : v = .slice none 0 0 := by simpa using h1
    exact ⟨[], reads_nil w 2⟩
  · obtain rfl : v = .slice (some a) len cap := by simpa using h1
    have hlm : len ≤ m := by rw [hmm]; split <;> omega
    refine ⟨(List.range len).map fun i => (intOf (V0 i), intOf (V1 i)), pairsR_mk _ (by simp) hl hm fun i hi' => ?_⟩
    have hil : i < len := by simpa using hi'
    obtain ⟨h3, h4, h5, h6⟩ := hi i (by omega)
    obtain ⟨p, e1, _, _⟩ := DataW.trod_int i0 h5
    obtain ⟨q, e2, _, _⟩ := DataW.trod_int i1 h6
    have e1' : V0 i = .int .i64 p := by simpa using e1
    have e2' : V1 i = .int .i64 q := by simpa using e2
    rw [e1'] at h3; rw [e2'] at h4
    refine ⟨h3.trans ?_, h4.trans ?_⟩ <;> simp [e1', e2', intOf]

theorem intsR_mk {a : Addr} {len cap : Nat} (L : List Int) (hlen : L.length = len) (h1 : len ≤ cap) (h2 : cap ≤ maxLen) (hc : ∀ i (hi : i < L.length), w.cell? (a.add i) = some (.int .i64 L[i])) : IntsR w (.slice (some a) len cap) L := by
  subst hlen
  refine ⟨some a, cap, rfl, by simp, h1, h2, fun hn => ?_⟩
  have ha := cell_spot (a := a) (hc 0 hn)
  refine ⟨a.block, a.off, by rw [← ha], fun j u hj => ?_⟩
  have hjl : j < L.length := by have := (List.getElem?_eq_some_iff.1 hj).1; simpa using this
  have hcc := hc j hjl
  rw [ha, add_spot] at hcc
  rw [hcc, ← hj]
  simp [hjl]

/-- A slice of integers. -/
theorem open_intsR {t e : TypeId} {fuel : Nat} {v : Value} {x : DataW H × List MemPlace} (ht : P.underlying t = some (.slice e)) (ce : P.cellsOf e = 1) (i0 : P.underlying e = some (.int .i64))
    (h : DataW.trod enc P w base spare held fuel t [v] = some x) : ∃ L : List Int, IntsR w v L := by
  rcases open_slice ht h with ⟨h1, _⟩ | ⟨a, len, cap, m, n, D, Pl, h1, hb, hl, hm, hmm, hx, hi⟩
  · obtain rfl : v = .slice none 0 0 := by simpa using h1
    exact ⟨[], reads_nil w 1⟩
  · obtain rfl : v = .slice (some a) len cap := by simpa using h1
    have hlm : len ≤ m := by rw [hmm]; split <;> omega
    refine ⟨(List.range len).map fun i => intOf ((w.cell? (a.add i)).getD undef), intsR_mk _ (by simp) hl hm fun i hi' => ?_⟩
    have hil : i < len := by simpa using hi'
    obtain ⟨cs', h3, h4⟩ := hi i (by omega)
    rw [ce, Nat.mul_one] at h3
    obtain ⟨p, rfl, _, _⟩ := DataW.trod_int i0 h4
    obtain ⟨_, _, hcell⟩ := World.cells?_some h3
    have hc0 := hcell 0 (by omega)
    have hc1 : w.cell? (a.add i) = some (.int .i64 p) := by simpa [Addr.add] using hc0
    simp [hc1, intOf]

end

end Go.Proofs.YtkpmddlinlcobaaDoor

namespace Go.Proofs.YtkpmddlinlcobaaDoor
open Go.Joins Go.ChangeShapes Go.WideShapes Go.RowKit Go.Deep
set_option linter.unusedVariables false

theorem almV_len (L : List Alm) : (almV L).length = L.length * 4 := by
  induction L with
  | nil => rfl
  | cons a r ih =>
    have e : almV (a :: r) = [.int .i64 a.1, .bool a.2.1, .int .i64 a.2.2.1, .int .i64 a.2.2.2] ++ almV r := rfl
    rw [e, List.length_append, ih]; simp; omega

theorem almsR_mk {w : World} {a : Addr} {len cap : Nat} (L : List Alm) (hlen : L.length = len) (h1 : len ≤ cap) (h2 : cap ≤ maxLen)
    (hc : ∀ i (hi : i < L.length), w.cell? (a.add (i * 4)) = some (.int .i64 L[i].1) ∧ w.cell? (a.add (i * 4 + 1)) = some (.bool L[i].2.1) ∧ w.cell? (a.add (i * 4 + 2)) = some (.int .i64 L[i].2.2.1) ∧ w.cell? (a.add (i * 4 + 3)) = some (.int .i64 L[i].2.2.2)) : AlmsR w (.slice (some a) len cap) L := by
  subst hlen
  refine ⟨some a, cap, rfl, almV_len L, h1, h2, fun hn => ?_⟩
  have ha := cell_spot (a := a) (hc 0 hn).1
  refine ⟨a.block, a.off, by rw [← ha], fun j u hj => ?_⟩
  have hjl : j < L.length * 4 := by rw [← almV_len]; exact (List.getElem?_eq_some_iff.1 hj).1
  have hi : j / 4 < L.length := by omega
  obtain ⟨p0, p1, p2, p3⟩ := almV_at L (j / 4) hi
  obtain ⟨c0, c1, c2, c3⟩ := hc (j / 4) hi
  rw [ha, add_spot] at c0 c1 c2 c3
  have h4 : j % 4 = 0 ∨ j % 4 = 1 ∨ j % 4 = 2 ∨ j % 4 = 3 := by omega
  rcases h4 with e | e | e | e
  · have e' : j / 4 * 4 = j := by omega
    rw [e'] at p0 c0
    rw [p0] at hj; rw [← hj]; exact c0
  · have e' : j / 4 * 4 + 1 = j := by omega
    rw [e'] at p1 c1
    rw [p1] at hj; rw [← hj]; exact c1
  · have e' : j / 4 * 4 + 2 = j := by omega
    rw [e'] at p2 c2
    rw [p2] at hj; rw [← hj]; exact c2
  · have e' : j / 4 * 4 + 3 = j := by omega
    rw [e'] at p3 c3
    rw [p3] at hj; rw [← hj]; exact c3

theorem each_inner {H : Type} {P : Program} {ts : List TypeId} {ds : List (DataW H)} {j : Nat} {t : TypeId} {fs : Array Field} {parts : List (DataW H)} (h : (DataW.weightsEach P ts ds).all (· ≤ reachBytes) = true) (ht : ts[j]? = some t) (hd : ds[j]? = some (.agg parts)) (hu : P.underlying t = some (.struct fs)) :
    (DataW.weightsEach P (fs.toList.map (·.type)) parts).all (· ≤ reachBytes) = true := by
  rw [List.all_eq_true]
  intro n hn
  exact List.all_eq_true.1 h n (DataW.weights_mem_each ht hd n (by simp only [DataW.weights, hu]; exact hn))

section
variable {H : Type} {enc : TypeId × Value → H} {P : Program} {w : World} {base : Nat} {spare : Nat → Bool} {held : Bool}

theorem open_almsR {t e : TypeId} {f0 f1 f2 f3 : Field} {fuel : Nat} {v : Value} {x : DataW H × List MemPlace} (ht : P.underlying t = some (.slice e)) (he : P.underlying e = some (.struct #[f0, f1, f2, f3])) (ce : P.cellsOf e = 4) (hone : oneCellFields P #[f0, f1, f2, f3] = true)
    (i0 : P.underlying f0.type = some (.int .i64)) (i1 : P.underlying f1.type = some .bool) (i2 : P.underlying f2.type = some (.int .i64)) (i3 : P.underlying f3.type = some (.int .i64))
    (h : DataW.trod enc P w base spare held fuel t [v] = some x) : ∃ L : List Alm, AlmsR w v L := by
  rcases open_slice ht h with ⟨h1, _⟩ | ⟨a, len, cap, m, n, D, Pl, h1, hb, hl, hm, hmm, hx, hi⟩
  · obtain rfl : v = .slice none 0 0 := by simpa using h1
    exact ⟨[], reads_nil w 4⟩
  · obtain rfl : v = .slice (some a) len cap := by simpa using h1
    have hlm : len ≤ m := by rw [hmm]; split <;> omega
    have hq : ∀ i, ∃ q : Alm, i < len → (w.cell? (a.add (i * 4)) = some (.int .i64 q.1) ∧ w.cell? (a.add (i * 4 + 1)) = some (.bool q.2.1) ∧ w.cell? (a.add (i * 4 + 2)) = some (.int .i64 q.2.2.1) ∧ w.cell? (a.add (i * 4 + 3)) = some (.int .i64 q.2.2.2)) := by
      intro i
      by_cases hil : i < len
      · obtain ⟨cs', h3, h4⟩ := hi i (by omega)
        rw [ce] at h3
        obtain ⟨_, h5, h6⟩ := World.cells?_some h3
        match cs', h5 with
        | [c0, c1, c2, c3], _ =>
          obtain ⟨xs, n', _, _, _, hlen, hg⟩ := DataW.trod_struct he h4
          obtain ⟨o0, k0⟩ := hone_of hone 0 f0 rfl
          obtain ⟨o1, k1⟩ := hone_of hone 1 f1 rfl
          obtain ⟨o2, k2⟩ := hone_of hone 2 f2 rfl
          obtain ⟨o3, k3⟩ := hone_of hone 3 f3 rfl
          match xs, hlen with
          | [y0, y1, y2, y3], _ =>
            obtain ⟨q0, e0, _, _⟩ := DataW.trod_int i0 (show DataW.trod enc P w base spare held n' f0.type [c0] = some y0 by simpa [o0, k0] using hg 0 f0 rfl)
            obtain ⟨q1, e1, _⟩ := DataW.trod_bool i1 (show DataW.trod enc P w base spare held n' f1.type [c1] = some y1 by simpa [o1, k1] using hg 1 f1 rfl)
            obtain ⟨q2, e2, _, _⟩ := DataW.trod_int i2 (show DataW.trod enc P w base spare held n' f2.type [c2] = some y2 by simpa [o2, k2] using hg 2 f2 rfl)
            obtain ⟨q3, e3, _, _⟩ := DataW.trod_int i3 (show DataW.trod enc P w base spare held n' f3.type [c3] = some y3 by simpa [o3, k3] using hg 3 f3 rfl)
            simp only [List.cons.injEq, and_true] at e0 e1 e2 e3
            subst e0; subst e1; subst e2; subst e3
            have t0 := h6 0 (by omega); have t1 := h6 1 (by omega); have t2 := h6 2 (by omega); have t3 := h6 3 (by omega)
            rw [Go.Addr.add_add] at t0 t1 t2 t3
            exact ⟨(q0, q1, q2, q3), fun _ => ⟨t0, t1, t2, t3⟩⟩
      · exact ⟨(0, false, 0, 0), fun h => absurd h hil⟩
    obtain ⟨g, hg⟩ := Classical.axiomOfChoice hq
    refine ⟨(List.range len).map g, almsR_mk _ (by simp) hl hm fun i hi' => ?_⟩
    have hil : i < len := by simpa using hi'
    simpa using hg i hil

theorem slice_elems {t e : TypeId} {fuel : Nat} {a : Option Addr} {l cap : Nat} {x : DataW H × List MemPlace} (ht : P.underlying t = some (.slice e)) (h : DataW.trod enc P w base spare held fuel t [.slice a l cap] = some x) : l = 0 ∨ ∃ el sp, x.1 = .slice el sp ∧ el.length = l := by
  rcases open_slice ht h with ⟨h1, _⟩ | ⟨a, len, cap, m, n, D, Pl, h1, hb, hl, hm, hmm, hx, hi⟩
  · simp only [List.cons.injEq, Value.slice.injEq, and_true] at h1
    exact .inl h1.2.1
  · simp only [List.cons.injEq, Value.slice.injEq, and_true] at h1
    right
    exact ⟨_, _, by rw [hx], by simp; exact h1.2.1.symm⟩

theorem open_cells8 {t : TypeId} {f0 f1 f2 f3 f4 f5 f6 f7 : Field} {fuel : Nat} {c0 c1 c2 c3 c4 c5 c6 c7 : Value} {x : DataW H × List MemPlace} (hs : P.underlying t = some (.struct #[f0, f1, f2, f3, f4, f5, f6, f7])) (hone : oneCellFields P #[f0, f1, f2, f3, f4, f5, f6, f7] = true) (h : DataW.trod enc P w base spare held fuel t [c0, c1, c2, c3, c4, c5, c6, c7] = some x) :
    ∃ (y0 y1 y2 y3 y4 y5 y6 y7 : DataW H × List MemPlace) (n : Nat), DataW.trod enc P w base spare held n f0.type [c0] = some y0 ∧ DataW.trod enc P w base spare held n f1.type [c1] = some y1 ∧ DataW.trod enc P w base spare held n f2.type [c2] = some y2 ∧ DataW.trod enc P w base spare held n f3.type [c3] = some y3 ∧ DataW.trod enc P w base spare held n f4.type [c4] = some y4 ∧ DataW.trod enc P w base spare held n f5.type [c5] = some y5 ∧ DataW.trod enc P w base spare held n f6.type [c6] = some y6 ∧ DataW.trod enc P w base spare held n f7.type [c7] = some y7 := by
  obtain ⟨xs, n, _, _, _, hlen, hg⟩ := DataW.trod_struct hs h
  obtain ⟨o0, k0⟩ := hone_of hone 0 f0 rfl
  obtain ⟨o1, k1⟩ := hone_of hone 1 f1 rfl
  obtain ⟨o2, k2⟩ := hone_of hone 2 f2 rfl
  obtain ⟨o3, k3⟩ := hone_of hone 3 f3 rfl
  obtain ⟨o4, k4⟩ := hone_of hone 4 f4 rfl
  obtain ⟨o5, k5⟩ := hone_of hone 5 f5 rfl
  obtain ⟨o6, k6⟩ := hone_of hone 6 f6 rfl
  obtain ⟨o7, k7⟩ := hone_of hone 7 f7 rfl
  match xs, hlen with
  | [y0, y1, y2, y3, y4, y5, y6, y7], _ => exact ⟨y0, y1, y2, y3, y4, y5, y6, y7, n, by simpa [o0, k0] using hg 0 f0 rfl, by simpa [o1, k1] using hg 1 f1 rfl, by simpa [o2, k2] using hg 2 f2 rfl, by simpa [o3, k3] using hg 3 f3 rfl, by simpa [o4, k4] using hg 4 f4 rfl, by simpa [o5, k5] using hg 5 f5 rfl, by simpa [o6, k6] using hg 6 f6 rfl, by simpa [o7, k7] using hg 7 f7 rfl⟩

theorem open_flat10 {r : Reach} {b0 : Nat} {t : TypeId} {f0 f1 f2 f3 f4 f5 f6 f7 f8 f9 : Field} {v : Value} {d : DataW H} {p : List MemPlace} (hs : P.underlying t = some (.struct #[f0, f1, f2, f3, f4, f5, f6, f7, f8, f9])) (hC : P.cellsOf t = 17) (o0 : f0.offset = 0) (o1 : f1.offset = 1) (o2 : f2.offset = 2) (o3 : f3.offset = 3) (o4 : f4.offset = 4) (o5 : f5.offset = 5) (o6 : f6.offset = 13) (o7 : f7.offset = 14) (o8 : f8.offset = 15) (o9 : f9.offset = 16) (k0 : P.cellsOf f0.type = 1) (k1 : P.cellsOf f1.type = 1) (k2 : P.cellsOf f2.type = 1) (k3 : P.cellsOf f3.type = 1) (k4 : P.cellsOf f4.type = 1) (k5 : P.cellsOf f5.type = 8) (k6 : P.cellsOf f6.type = 1) (k7 : P.cellsOf f7.type = 1) (k8 : P.cellsOf f8.type = 1) (k9 : P.cellsOf f9.type = 1)
    (hv : Value.okWide P w r b0 t v) (h : DataW.Trod enc P w base spare held t v d p) :
    ∃ (c0 c1 c2 c3 c4 c5 c6 c7 c8 c9 c10 c11 c12 c13 c14 c15 c16 : Value) (y0 y1 y2 y3 y4 y5 y6 y7 y8 y9 : DataW H × List MemPlace) (n : Nat), v = .agg #[c0, c1, c2, c3, c4, c5, c6, c7, c8, c9, c10, c11, c12, c13, c14, c15, c16] ∧ d = .agg [y0.1, y1.1, y2.1, y3.1, y4.1, y5.1, y6.1, y7.1, y8.1, y9.1] ∧ DataW.trod enc P w base spare held n f0.type [c0] = some y0 ∧ DataW.trod enc P w base spare held n f1.type [c1] = some y1 ∧ DataW.trod enc P w base spare held n f2.type [c2] = some y2 ∧ DataW.trod enc P w base spare held n f3.type [c3] = some y3 ∧ DataW.trod enc P w base spare held n f4.type [c4] = some y4 ∧ DataW.trod enc P w base spare held n f5.type [c5, c6, c7, c8, c9, c10, c11, c12] = some y5 ∧ DataW.trod enc P w base spare held n f6.type [c13] = some y6 ∧ DataW.trod enc P w base spare held n f7.type [c14] = some y7 ∧ DataW.trod enc P w base spare held n f8.type [c15] = some y8 ∧ DataW.trod enc P w base spare held n f9.type [c16] = some y9 := by
  obtain ⟨cs, rfl, hsz⟩ := okWide_struct hs hv
  obtain ⟨l⟩ := cs
  match l, hsz.trans hC with
  | [c0, c1, c2, c3, c4, c5, c6, c7, c8, c9, c10, c11, c12, c13, c14, c15, c16], _ =>
    obtain ⟨fuel, hf⟩ := h
    obtain ⟨xs, n, _, hx, _, hlen, hg⟩ := DataW.trod_struct hs hf
    match xs, hlen with
    | [y0, y1, y2, y3, y4, y5, y6, y7, y8, y9], _ =>
      simp only [Prod.mk.injEq] at hx
      exact ⟨c0, c1, c2, c3, c4, c5, c6, c7, c8, c9, c10, c11, c12, c13, c14, c15, c16, y0, y1, y2, y3, y4, y5, y6, y7, y8, y9, n, rfl, by simpa using hx.1, by simpa [Value.cells, o0, k0] using hg 0 f0 rfl, by simpa [Value.cells, o1, k1] using hg 1 f1 rfl, by simpa [Value.cells, o2, k2] using hg 2 f2 rfl, by simpa [Value.cells, o3, k3] using hg 3 f3 rfl, by simpa [Value.cells, o4, k4] using hg 4 f4 rfl, by simpa [Value.cells, o5, k5] using hg 5 f5 rfl, by simpa [Value.cells, o6, k6] using hg 6 f6 rfl, by simpa [Value.cells, o7, k7] using hg 7 f7 rfl, by simpa [Value.cells, o8, k8] using hg 8 f8 rfl, by simpa [Value.cells, o9, k9] using hg 9 f9 rfl⟩
end

theorem ints_one {w : World} {v : Value} {L : List Int} (h : IntsR w v L) : v.oneCell' = true := by
  obtain ⟨_, _, rfl, _⟩ := intsR_open h; rfl

theorem pairs_one {w : World} {v : Value} {L : List (Int × Int)} (h : PairsR w v L) : v.oneCell' = true := by
  obtain ⟨_, _, rfl, _⟩ := pairsR_open h; rfl

set_option maxRecDepth 100000 in
theorem open_event {H : Type} {enc : TypeId × Value → H} {w : World} {base : Nat} {spare : Nat → Bool} {held : Bool} {r : Reach} {b0 : Nat} {v : Value} {d : DataW H} {p : List MemPlace}
    (hv : Value.okWide Tryd.prog w r b0 29 v) (h : DataW.Trod enc Tryd.prog w base spare held 29 v d p) :
    ∃ (nm tx : List UInt8) (st ln : Int) (rp : Bool) (fr ev ct ti : Int) (vm vd vw vp vM vN vC vA : Value) (mo da : List Int) (we : List (Int × Int)) (pk M N : List Int) (C : List (Int × Int)) (A : List Alm),
      v = .agg #[.string (bs nm), .string (bs tx), .int .i64 st, .int .i64 ln, .bool rp, .int .i64 fr, .int .i64 ev, .int .i64 ct, .int .i64 ti, vm, vd, vw, vp, vM, vN, vC, vA] ∧
      IntsR w vm mo ∧ IntsR w vd da ∧ PairsR w vw we ∧ IntsR w vp pk ∧ IntsR w vM M ∧ IntsR w vN N ∧ PairsR w vC C ∧ AlmsR w vA A ∧
      ((Lit.int .i64 st).wf = true ∧ (Lit.int .i64 ln).wf = true ∧ (Lit.int .i64 fr).wf = true ∧ (Lit.int .i64 ev).wf = true ∧ (Lit.int .i64 ct).wf = true ∧ (Lit.int .i64 ti).wf = true) ∧
      (∀ (ts : List TypeId) (ds : List (DataW H)), (DataW.weightsEach Tryd.prog (29 :: ts) (d :: ds)).all (· ≤ reachBytes) = true → nm.length ≤ 140737488351232 ∧ tx.length ≤ 140737488351232 ∧ C.length ≤ 8796093022208) := by
  obtain ⟨c0, c1, c2, c3, c4, c5, c6, c7, c8, c9, c10, c11, c12, c13, c14, c15, c16, y0, y1, y2, y3, y4, y5, y6, y7, y8, y9, n, rfl, hd, g0, g1, g2, g3, g4, g5, g6, g7, g8, g9⟩ := open_flat10 Tryd.underlying29 (by kernel_rfl) rfl rfl rfl rfl rfl rfl rfl rfl rfl rfl (by kernel_rfl) (by kernel_rfl) (by kernel_rfl) (by kernel_rfl) (by kernel_rfl) (by kernel_rfl) (by kernel_rfl) (by kernel_rfl) (by kernel_rfl) (by kernel_rfl) hv h
  obtain ⟨z0, z1, z2, z3, z4, z5, z6, z7, m, r0, r1, r2, r3, r4, r5, r6, r7⟩ := open_cells8 Tryd.underlying25 (by kernel_rfl) g5
  obtain ⟨s0, e0, x0, _⟩ := DataW.trod_string Tryd.underlying9 g0
  obtain ⟨s1, e1, x1, _⟩ := DataW.trod_string Tryd.underlying9 g1
  obtain ⟨st, e2, _, w2⟩ := DataW.trod_int Tryd.underlying3 g2
  obtain ⟨ln, e3, _, w3⟩ := DataW.trod_int Tryd.underlying3 g3
  obtain ⟨rp, e4, _⟩ := DataW.trod_bool Tryd.underlying4 g4
  obtain ⟨fr, e5, _, w5⟩ := DataW.trod_int Tryd.underlying3 r0
  obtain ⟨ev, e6, _, w6⟩ := DataW.trod_int Tryd.underlying3 r1
  obtain ⟨ct, e7, _, w7⟩ := DataW.trod_int Tryd.underlying3 r2
  obtain ⟨ti, e8, _, w8⟩ := DataW.trod_int Tryd.underlying3 r3
  simp only [List.cons.injEq, and_true] at e0 e1 e2 e3 e4 e5 e6 e7 e8
  subst e0; subst e1; subst e2; subst e3; subst e4; subst e5; subst e6; subst e7; subst e8
  obtain ⟨mo, hmo⟩ := open_intsR Tryd.underlying22 (by kernel_rfl) Tryd.underlying3 r4
  obtain ⟨da, hda⟩ := open_intsR Tryd.underlying22 (by kernel_rfl) Tryd.underlying3 r5
  obtain ⟨we, hwe⟩ := open_pairsR Tryd.underlying23 Tryd.underlying67 (by kernel_rfl) rfl rfl (by kernel_rfl) (by kernel_rfl) Tryd.underlying3 Tryd.underlying3 r6
  obtain ⟨pk, hpk⟩ := open_intsR Tryd.underlying22 (by kernel_rfl) Tryd.underlying3 r7
  obtain ⟨M, hM⟩ := open_intsR Tryd.underlying22 (by kernel_rfl) Tryd.underlying3 g6
  obtain ⟨N, hN⟩ := open_intsR Tryd.underlying22 (by kernel_rfl) Tryd.underlying3 g7
  obtain ⟨C, hC⟩ := open_pairsR Tryd.underlying26 Tryd.underlying48 (by kernel_rfl) rfl rfl (by kernel_rfl) (by kernel_rfl) Tryd.underlying3 Tryd.underlying3 g8
  obtain ⟨A, hA⟩ := open_almsR Tryd.underlying27 Tryd.underlying55 (by kernel_rfl) (by kernel_rfl) Tryd.underlying3 Tryd.underlying4 Tryd.underlying3 Tryd.underlying3 g9
  refine ⟨s0.data.toList, s1.data.toList, st, ln, rp, fr, ev, ct, ti, c9, c10, c11, c12, c13, c14, c15, c16, mo, da, we, pk, M, N, C, A, by rw [bs_data, bs_data], hmo, hda, hwe, hpk, hM, hN, hC, hA, ⟨w2, w3, w5, w6, w7, w8⟩, fun ts ds hw => ?_⟩
  subst hd
  have hi := each_inner (j := 0) hw rfl rfl Tryd.underlying29
  have l0 := sized_string (j := 0) hi rfl (congrArg some (show y0.1 = DataW.lit (.string s0.data.toList) by rw [x0]))
  have l1 := sized_string (j := 1) hi rfl (congrArg some (show y1.1 = DataW.lit (.string s1.data.toList) by rw [x1]))
  refine ⟨l0, l1, ?_⟩
  obtain ⟨ac, kc, rfl, -, -, -⟩ := pairsR_open hC
  rcases slice_elems Tryd.underlying26 g8 with h0 | ⟨el, sp, he, hl⟩
  · omega
  · have l8 := sized_slice (j := 8) hi rfl (congrArg some he) Tryd.underlying26
    rw [show Tryd.prog.bytesOf 48 = 16 by kernel_rfl] at l8
    unfold reachBytes at l8
    omega

end Go.Proofs.YtkpmddlinlcobaaDoor

namespace Go.Proofs.YtkpmddlinlcobaaDoor
open Go.ChangeShapes Go.WideShapes Go.ChangeAt Go.RowKit

theorem tMonths : (Tryd.prog.globals[0]?).map (·.type) = some 121 := by kernel_rfl

theorem months_of_laid {W : World} {l : List (String × DataW Unit)} (nm : String) (hg : Tryd.prog.globalNamed nm = some 0) (h : laidMetH Tryd.prog l W)
    (hl : (l.filter fun x => x.1 == nm) = [(nm, Lib.tabData .i64 [31, 28, 31, 30, 31, 30, 31, 31, 30, 31, 30, 31])]) : Months W := by
  have h1 := h.filter (fun x => x.1 == nm)
  rw [hl] at h1
  rw [MakeChecks.laidMetH_plain _ _ _ (by rfl)] at h1
  have hT := Lib.tabIs_of_head hg tMonths Tryd.underlying121 Tryd.underlying3 (by kernel_rfl) (by kernel_rfl) h1
  intro m h2 h3
  have hc := hT.cell hg (m.toNat - 1) (by simp; omega)
  rw [hc]
  obtain h | h | h | h | h | h | h | h | h | h | h | h : m = 1 ∨ m = 2 ∨ m = 3 ∨ m = 4 ∨ m = 5 ∨ m = 6 ∨ m = 7 ∨ m = 8 ∨ m = 9 ∨ m = 10 ∨ m = 11 ∨ m = 12 := by omega
  all_goals (subst h; rfl)
end Go.Proofs.YtkpmddlinlcobaaDoor

namespace Go.Proofs.YtkpmddlinlcobaaDoor
open Go.RowKit Go.Shelf
set_option linter.unusedVariables false

theorem eventHolds_law (nm tx : List UInt8) (st ln : Int) (rp : Bool) (fr ev ct ti : Int) (vm vd vw vp vM vN vC vA : Value) (mo da : List Int) (we : List (Int × Int)) (pk M N : List Int) (C : List (Int × Int)) (A : List Alm) (a c b : Int) (w : World) (hw : Months w)
    (hmo : IntsR w vm mo) (hda : IntsR w vd da) (hwe : PairsR w vw we) (hpk : IntsR w vp pk) (hM : IntsR w vM M) (hN : IntsR w vN N) (hC : PairsR w vC C) (hA : AlmsR w vA A)
    (hnm : nm.length ≤ 140737488351232) (htx : tx.length ≤ 140737488351232) (hcl : C.length ≤ 8796093022208) (ha : (Lit.int .i64 a).wf = true) (hc : (Lit.int .i64 c).wf = true) (hb : (Lit.int .i64 b).wf = true) :
    Calls Tryd.prog 3 #[.agg #[.string (bs nm), .string (bs tx), .int .i64 st, .int .i64 ln, .bool rp, .int .i64 fr, .int .i64 ev, .int .i64 ct, .int .i64 ti, vm, vd, vw, vp, vM, vN, vC, vA], .int .i64 a, .int .i64 c, .int .i64 b] w fun e w' => e = .returned (.bool true) ∧ Below w.heap.size w w' :=
  eventHolds_any nm tx st ln rp fr ev ct ti vm vd vw vp vM vN vC vA mo da we pk M N C A a c b w hw hmo hda hwe hpk hM hN hC hA hnm htx hcl

end Go.Proofs.YtkpmddlinlcobaaDoor

namespace Go.Proofs.YtkpmddlinlcobaaDoor.lawEventHolds
open Go.ChangeShapes Go.WideShapes Go.ChangeAt Go.RowKit
open Go.ChangeMaps (open_string shut_string)
set_option linter.unusedVariables false
theorem own : ownKnob Tryd.prog.godebug = none := by kernel_rfl
theorem laidOut : laidOutB Tryd.prog = true := by kernel_rfl
/-- The door's own heap meets the condition: closed facts. -/
theorem door_met (os : Os) (args : Array Value) : laidMetH Tryd.prog Rows.eventHoldsRow.laid ((World.doorLaid Tryd.prog 400 os).forCall (fun _ _ => 0) ⟨#[], args, []⟩).memory :=
  laidMetH_of_parts3 (fuel := 8) (laidMet_of_run' 8 (by kernel_rfl) (by kernel_rfl)) (by kernel_rfl) (by kernel_rfl)
set_option maxRecDepth 100000 in
theorem lifted (os : Os) (started : os.Started) (H : Type) (enc : TypeId × Value → H) (F : Stop.Interp) :
    ReturnsInHanded {} Tryd.checked os 3 .any ((OpenSpec.ofChange Rows.eventHoldsSpec).preRow enc Tryd.prog Tryd.f3 Rows.eventHoldsRow.domain false Rows.eventHoldsRow.laid) (((OpenSpec.ofChange Rows.eventHoldsSpec).at F).post enc Tryd.prog Tryd.f3 false true false false) := by
  refine returnsInHanded_of_row (C := Tryd.checked) (s := (OpenSpec.ofChange Rows.eventHoldsSpec)) own started (by kernel_rfl) Tryd.func3
    (witness_row_at (enc := enc) (C := Tryd.checked) false (World.doorLaid Tryd.prog 400 os) #[.agg #[.string ⟨#[]⟩, .string ⟨#[]⟩, .int .i64 0, .int .i64 0, .bool false, .int .i64 0, .int .i64 0, .int .i64 0, .int .i64 0, .slice none 0 0, .slice none 0 0, .slice none 0 0, .slice none 0 0, .slice none 0 0, .slice none 0 0, .slice none 0 0, .slice none 0 0], .int .i64 0, .int .i64 0, .int .i64 0] rfl (by kernel_rfl) (by kernel_rfl) (by kernel_rfl)
      (OpenSpec.preRow_of_cond 8 (x := ([.agg [.lit (.string []), .lit (.string []), .lit (.int .i64 0), .lit (.int .i64 0), .lit (.bool false), .agg [.lit (.int .i64 0), .lit (.int .i64 0), .lit (.int .i64 0), .lit (.int .i64 0), .nil, .nil, .nil, .nil], .nil, .nil, .nil, .nil], .lit (.int .i64 0), .lit (.int .i64 0), .lit (.int .i64 0)], [], [])) (by kernel_rfl) (by kernel_rfl) (fun k hk => by cases hk) (by kernel_rfl) (door_met os _))) ?_
  intro W base args ds gs before hval0 hW _ hcond hreach hL hshape _
  have hval : ∀ (j : Nat) t v, Tryd.f3.params[j]? = some t → args[j]? = some v → Value.okWide Tryd.prog W .any base t v := hval0
  have hW' := hW
  obtain ⟨p, q, hA0, hV, rfl, hfz, hnd⟩ := hW
  have hA : DataW.TrodAll enc Tryd.prog W 0 (fun _ => true) true Tryd.f3.params.toList args.toList ds p := hA0
  rw [Tryd.params3] at hA hval
  obtain ⟨v0, vs0, d0, ds0, p0, q0, hargs, rfl, rfl, h0, r0⟩ := trodAll_cons hA
  obtain ⟨v1, vs1, d1, ds1, p1, q1, rfl, rfl, rfl, h1, r1⟩ := trodAll_cons r0
  obtain ⟨v2, vs2, d2, ds2, p2, q2, rfl, rfl, rfl, h2, r2⟩ := trodAll_cons r1
  obtain ⟨v3, vs3, d3, ds3, p3, q3, rfl, rfl, rfl, h3, r3⟩ := trodAll_cons r2
  obtain ⟨rfl, rfl, rfl⟩ := trodAll_nil r3
  obtain rfl : args = #[v0, v1, v2, v3] := Array.ext' hargs
  obtain ⟨rfl, rfl⟩ := trodVars_none hV
  have hMonths := months_of_laid (Rows.eventHoldsRow.named.getD 0 "") (by kernel_rfl) hL (by rfl)
  have k0 := h0
  have lt0 : ∀ x ∈ p0, x.block < W.heap.size := by obtain ⟨m, hm⟩ := k0; exact DataW.trod_lt m _ _ _ hm
  obtain ⟨nm0, tx0, st0, ln0, rp0, fr0, ev0, ct0, ti0, vm0, vd0, vw0, vp0, vM0, vN0, vC0, vA0, mo0, da0, we0, pk0, M0, N0, C0, A0, rfl, xmo0, xda0, xwe0, xpk0, xM0, xN0, xC0, xA0, xwf0, xB0⟩ := open_event (hval 0 29 v0 rfl rfl) h0
  obtain ⟨b00, b10, b20⟩ := xB0 _ _ (by have hq := hreach; rw [Tryd.params3] at hq; exact hq)
  obtain ⟨a1, rfl, rfl, rfl, w1⟩ := open_int Tryd.underlying3 (hval 1 3 v1 rfl rfl) h1
  obtain ⟨a2, rfl, rfl, rfl, w2⟩ := open_int Tryd.underlying3 (hval 2 3 v2 rfl rfl) h2
  obtain ⟨a3, rfl, rfl, rfl, w3⟩ := open_int Tryd.underlying3 (hval 3 3 v3 rfl rfl) h3
  clear hA0 hval0
  refine (eventHolds_law nm0 tx0 st0 ln0 rp0 fr0 ev0 ct0 ti0 vm0 vd0 vw0 vp0 vM0 vN0 vC0 vA0 mo0 da0 we0 pk0 M0 N0 C0 A0 a1 a2 a3 W hMonths xmo0 xda0 xwe0 xpk0 xM0 xN0 xC0 xA0 b00 b10 b20 w1 w2 w3).mono fun e W' ⟨he, bel⟩ => ?_
  subst he
  exact ⟨_, rfl, _, _, _, [], _, [], hW', trodAll_mk1 (shut_bool Tryd.underlying4 _), (trodAll_cons_mk (Below.trod laidOut (by kernel_rfl) (of_decide_eq_true (by kernel_rfl)) k0 bel lt0) (trodAll_cons_mk (shut_int Tryd.underlying3 w1) (trodAll_cons_mk (shut_int Tryd.underlying3 w2) (trodAll_cons_mk (shut_int Tryd.underlying3 w3) trodAll_mk0)))), rfl, bel.frame _, fun h => by cases h⟩
theorem over : Rows.eventHoldsRow.holds Tryd.pinned (OpenSpec.ofChange Rows.eventHoldsSpec) :=
  OpenClaim.holds_of_cond 3 Tryd.f3 rfl rfl rfl rfl rfl rfl rfl ⟨rfl, rfl, rfl, rfl, rfl⟩ rfl rfl rfl rfl rfl (by kernel_rfl) Tryd.func3 (by kernel_rfl)
    (of_decide_eq_true (by kernel_rfl)) (by unfold Func.isWrapper; first | (rw [if_pos (by decide +kernel)]; kernel_rfl) | (rw [if_neg (by decide +kernel)]; exact ⟨rfl, rfl⟩))
    (fun os started H enc _ F => by rw [OpenClaim.pre_eq_preRow]; exact lifted os started H enc F)
theorem bare : Rows.EventHoldsSaid := over
/-- The statement: the tied card. -/
theorem proved : Rows.EventHoldsCardSaid :=
  Claim7.holds_tied_plain_at .later [] _ _ _ _
    bare (fun _ h => by cases h) (by kernel_rfl) (fun _ h => by cases h) eventHolds_row_tie rfl ⟨rfl, rfl⟩ (by kernel_rfl) rfl
    (fun f fn hf hfn => by
      obtain rfl : f = 3 := Option.some.inj ((show Tryd.prog.funcNamed Rows.eventHoldsRow.func = some 3 by kernel_rfl).symm.trans hf) |>.symm
      obtain rfl : fn = Tryd.f3 := (Option.some.inj (Tryd.func3.symm.trans hfn)).symm
      exact ⟨by kernel_rfl, fun j t ht => by
        rw [Tryd.params3] at ht
        have hm : t ∈ [29, 3] := by simpa using Array.mem_of_getElem? ht
        have hall : ([29, 3].all fun u => !Tryd.prog.wantsStandIn u) = true := by kernel_rfl
        exact (show Tryd.prog.wantsStandIn t = false by simpa using List.all_eq_true.1 hall t hm)⟩)
    (by kernel_rfl)
#print axioms proved
end Go.Proofs.YtkpmddlinlcobaaDoor.lawEventHolds
