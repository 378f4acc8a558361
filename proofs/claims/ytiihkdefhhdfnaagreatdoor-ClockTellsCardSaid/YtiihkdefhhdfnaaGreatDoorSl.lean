/- Slices as values: what a slice reads as; plain lemmas on worlds, no program in sight. -/
import Derived.WalkKit
import Derived.Below
import Derived.Lib.Hide
import Derived.Deep.AppendLies
import Derived.OwnWalk
import Derived.Lib.Strings
import Derived.Lib.SmallJoins
namespace Go.Proofs.YtiihkdefhhdfnaaGreatDoor
open Go.RowKit

theorem cell_below {w w' : World} {p : Addr} {u : Value} (hb : Below w.heap.size w w') (h : w.cell? p = some u) : w'.cell? p = some u := (hb.cell (World.block_lt_of_cell? w p h)).trans h

/-- what a slice value reads as: n elements of 'size' cells each. -/
def Reads (w : World) (v : Value) (size n : Nat) (xs : List Value) : Prop :=
  ∃ a cap, v = .slice a n cap ∧ xs.length = n * size ∧ n ≤ cap ∧ cap ≤ maxLen ∧ (0 < n → ∃ b off, a = some ⟨b, off, none⟩ ∧ ∀ j u, xs[j]? = some u → w.cell? ⟨b, off + j, none⟩ = some u)

theorem Reads.below {w w' : World} {v : Value} {size n : Nat} {xs : List Value} (h : Reads w v size n xs) (hb : Below w.heap.size w w') : Reads w' v size n xs := by
  obtain ⟨a, cap, h1, h2, h3, h4, h5⟩ := h
  refine ⟨a, cap, h1, h2, h3, h4, fun hn => ?_⟩
  obtain ⟨b, off, h6, h7⟩ := h5 hn
  exact ⟨b, off, h6, fun j u hj => cell_below hb (h7 j u hj)⟩

theorem reads_nil (w : World) (size : Nat) : Reads w (.slice none 0 0) size 0 [] := ⟨none, 0, rfl, by simp, Nat.le_refl _, Nat.zero_le _, fun h => absurd h (by omega)⟩

theorem ownsRow_reads {w : World} {base : Nat} {e : TypeId} {size : Nat} {v : Value} {n : Nat} {xs : List Value} (h : w.ownsRow base e size v n xs) : Reads w v size n xs := by
  obtain ⟨hl, h2⟩ := h
  rcases h2 with ⟨rfl, rfl⟩ | ⟨g, cap, cur, rfl, hb, hg, hn, hc, hs, ht⟩
  · have : xs = [] := List.length_eq_zero_iff.1 (by simpa using hl)
    subst this
    exact reads_nil w size
  · refine ⟨_, cap, rfl, hl, hn, hc, fun _ => ⟨g, 0, rfl, fun j u hj => ?_⟩⟩
    have h3 : (cur.toList.take (n * size))[j]? = some u := by rw [ht]; exact hj
    rw [List.getElem?_take] at h3
    split at h3
    · simp [World.cell?, hg]
      simpa using h3
    · cases h3

theorem owns_one (w : World) (e : TypeId) (x : Value) : (w.alloc (.cells #[x] e)).ownsRow w.heap.size e 1 (.slice (some ⟨w.heap.size, 0, none⟩) 1 1) 1 [x] :=
  ⟨by simp, .inr ⟨w.heap.size, 1, #[x], rfl, Nat.le_refl _, heap_alloc_new w _, Nat.le_refl _, by decide, by simp, by simp⟩⟩

theorem ownBlock_ge {w : World} {base : Nat} {e : TypeId} {size : Nat} {v : Value} {n : Nat} {xs : List Value} (h : w.ownsRow base e size v n xs) : ∀ k, v.ownBlock = some k → base ≤ k := fun k hk => (h.lt k hk).1

/-- a slice of integers. -/
def IntsR (w : World) (v : Value) (L : List Int) : Prop := Reads w v 1 L.length (L.map (Value.int .i64))

theorem IntsR.below {w w' : World} {v : Value} {L : List Int} (h : IntsR w v L) (hb : Below w.heap.size w w') : IntsR w' v L := Reads.below h hb

theorem intsR_open {w : World} {v : Value} {L : List Int} (h : IntsR w v L) : ∃ a cap, v = .slice a L.length cap ∧ L.length ≤ cap ∧ cap ≤ maxLen ∧
    (0 < L.length → ∃ b off, a = some ⟨b, off, none⟩ ∧ ∀ j (hj : j < L.length), w.cell? ⟨b, off + j, none⟩ = some (.int .i64 L[j])) := by
  obtain ⟨a, cap, h1, _, h3, h4, h5⟩ := h
  refine ⟨a, cap, h1, h3, h4, fun hn => ?_⟩
  obtain ⟨b, off, h6, h7⟩ := h5 hn
  exact ⟨b, off, h6, fun j hj => h7 j _ (by simp [hj])⟩

theorem intsR_nil (w : World) : IntsR w (.slice none 0 0) [] := reads_nil w 1

theorem intsR_of_owns {w : World} {base : Nat} {e : TypeId} {v : Value} {L : List Int} (h : w.ownsRow base e 1 v L.length (L.map (Value.int .i64))) : IntsR w v L := ownsRow_reads h

/-- a slice of structs of two integers. -/
def pairsV (L : List (Int × Int)) : List Value := L.flatMap fun p => [.int .i64 p.1, .int .i64 p.2]

def PairsR (w : World) (v : Value) (L : List (Int × Int)) : Prop := Reads w v 2 L.length (pairsV L)

theorem PairsR.below {w w' : World} {v : Value} {L : List (Int × Int)} (h : PairsR w v L) (hb : Below w.heap.size w w') : PairsR w' v L := Reads.below h hb

theorem pairsV_len (L : List (Int × Int)) : (pairsV L).length = L.length * 2 := by
  induction L with
  | nil => rfl
  | cons p r ih => simp only [pairsV, List.flatMap_cons, List.length_append, List.length_cons, List.length_nil] at *; omega

theorem pairsV_at (L : List (Int × Int)) : ∀ (i : Nat) (h : i < L.length), (pairsV L)[i * 2]? = some (.int .i64 L[i].1) ∧ (pairsV L)[i * 2 + 1]? = some (.int .i64 L[i].2) := by
  induction L with
  | nil => intro i h; simp at h
  | cons p r ih =>
    intro i h
    cases i with
    | zero => simp [pairsV]
    | succ i =>
      have := ih i (by simpa using h)
      simp only [pairsV, List.flatMap_cons, List.cons_append, List.nil_append, List.getElem_cons_succ] at *
      rw [show (i + 1) * 2 = i * 2 + 1 + 1 by omega]
      simpa using this

theorem pairsR_open {w : World} {v : Value} {L : List (Int × Int)} (h : PairsR w v L) : ∃ a cap, v = .slice a L.length cap ∧ L.length ≤ cap ∧ cap ≤ maxLen ∧
    (0 < L.length → ∃ b off, a = some ⟨b, off, none⟩ ∧ ∀ i (hi : i < L.length), w.cell? ⟨b, off + i * 2, none⟩ = some (.int .i64 L[i].1) ∧ w.cell? ⟨b, off + i * 2 + 1, none⟩ = some (.int .i64 L[i].2)) := by
  obtain ⟨a, cap, h1, _, h3, h4, h5⟩ := h
  refine ⟨a, cap, h1, h3, h4, fun hn => ?_⟩
  obtain ⟨b, off, h6, h7⟩ := h5 hn
  exact ⟨b, off, h6, fun i hi => ⟨h7 _ _ (pairsV_at L i hi).1, by have := h7 _ _ (pairsV_at L i hi).2; rwa [← Nat.add_assoc] at this⟩⟩

/-- Bytes as the walk has them. -/
def bs (l : List UInt8) : ByteArray := ⟨l.toArray⟩

theorem bs_size (l : List UInt8) : (bs l).size = l.length := by simp [bs, ByteArray.size]

theorem bs_data (s : ByteArray) : bs s.data.toList = s := by cases s; simp [bs]

theorem bs_extract (l : List UInt8) (a b : Nat) : (bs l).extract a b = bs ((l.drop a).take (b - a)) := by
  have h := Lib.extract_data (bs l) a b
  rw [show (bs l).data.toList = l by simp [bs]] at h
  rw [← bs_data ((bs l).extract a b), h]

theorem bs_append (a b : List UInt8) : bs a ++ bs b = bs (a ++ b) := by
  rw [← bs_data (bs a ++ bs b), Joins.data_append]
  simp [bs]

theorem bs_toList (l : List UInt8) : (bs l).toList = l := by simp [bs]

theorem bs_of (s : ByteArray) : ∃ l, s = bs l ∧ l.length = s.size := ⟨s.data.toList, (bs_data s).symm, rfl⟩

end Go.Proofs.YtiihkdefhhdfnaaGreatDoor
