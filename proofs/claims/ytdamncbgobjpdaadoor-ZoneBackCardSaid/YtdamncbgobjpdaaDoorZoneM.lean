/- Zones, plain laws: all times at which it is so there, as the program and as the reference find them: one list. No condition but that the zone is right. -/
import Derived.Test.YtdamncbgobjpdaaDoorZoneB
import Derived.Lib.SlicesCompact
import Derived.Lib.RowBridge
namespace Go.Proofs.YtdamncbgobjpdaaDoor
open Go.Lib

/-- Two lists that rise and have the same members are one. -/
theorem rise_ext : ∀ (a b : List Int), a.Pairwise (· < ·) → b.Pairwise (· < ·) → (∀ x, x ∈ a ↔ x ∈ b) → a = b
  | [], [], _, _, _ => rfl
  | [], y :: b, _, _, h => absurd ((h y).2 List.mem_cons_self) (by simp)
  | x :: a, [], _, _, h => absurd ((h x).1 List.mem_cons_self) (by simp)
  | x :: a, y :: b, ha, hb, h => by
    rw [List.pairwise_cons] at ha hb
    have hxy : x = y := by
      have h1 := (h x).1 List.mem_cons_self
      have h2 := (h y).2 List.mem_cons_self
      rcases List.mem_cons.1 h1 with h1 | h1
      · exact h1
      · rcases List.mem_cons.1 h2 with h2 | h2
        · exact h2.symm
        · have := hb.1 x h1; have := ha.1 y h2; omega
    subst hxy
    refine congrArg _ (rise_ext a b ha.2 hb.2 fun z => ⟨fun hz => ?_, fun hz => ?_⟩)
    · rcases List.mem_cons.1 ((h z).1 (List.mem_cons_of_mem _ hz)) with rfl | h1
      · have := ha.1 z hz; omega
      · exact h1
    · rcases List.mem_cons.1 ((h z).2 (List.mem_cons_of_mem _ hz)) with rfl | h1
      · have := hb.1 z hz; omega
      · exact h1

/-- What slices.Compact leaves of a list in order: it rises, and has the same members. -/
theorem compact_up (zs : List Int) (hs : zs.Pairwise (· ≤ ·)) : ∀ m, m ≤ zs.length → (compactUpTo zs.toArray m).Pairwise (· < ·) ∧ ∀ x, x ∈ compactUpTo zs.toArray m ↔ x ∈ zs.take m
  | 0, _ => by simp [compactUpTo]
  | m + 1, hm => by
    obtain ⟨ih1, ih2⟩ := compact_up zs hs m (by omega)
    have hs' := List.pairwise_iff_getElem.1 hs
    have hg : ∀ j (hj : j < zs.length), zs.toArray[j]! = zs[j] := fun j hj => by rw [getElem!_pos _ j (by simpa using hj)]; simp
    rw [compactUpTo_succ, List.take_succ_eq_append_getElem (by omega), hg m (by omega)]
    by_cases hk : keeps zs.toArray m = true
    · rw [if_pos hk]
      refine ⟨List.pairwise_append.2 ⟨ih1, by simp, fun x hx y hy => ?_⟩, fun x => by rw [List.mem_append, List.mem_append, ih2]⟩
      obtain rfl : y = zs[m] := by simpa using hy
      obtain ⟨i, hi, rfl⟩ := List.mem_take_iff_getElem.1 ((ih2 x).1 hx)
      have him : i < m := by omega
      have h1 : zs[m] ≠ zs[m - 1]'(by omega) := by
        have h2 := of_decide_eq_true hk
        rcases h2 with h2 | h2
        · omega
        · rw [hg m (by omega), hg (m - 1) (by omega)] at h2; exact h2
      have h3 : zs[m - 1]'(by omega) ≤ zs[m] := hs' (m - 1) m (by omega) (by omega) (by omega)
      have h4 : zs[i]'(by omega) ≤ zs[m - 1]'(by omega) := by
        by_cases e : i = m - 1
        · subst e; exact Int.le_refl _
        · exact hs' i (m - 1) (by omega) (by omega) (by omega)
      omega
    · rw [if_neg hk, List.append_nil]
      refine ⟨ih1, fun x => ?_⟩
      have hk' : ¬ (m = 0 ∨ zs.toArray[m]! ≠ zs.toArray[m - 1]!) := fun h => hk (decide_eq_true h)
      have h0 : m ≠ 0 := fun h => hk' (.inl h)
      have h1 : zs[m] = zs[m - 1]'(by omega) := by
        have h2 : zs.toArray[m]! = zs.toArray[m - 1]! := Classical.byContradiction fun h => hk' (.inr h)
        rwa [hg m (by omega), hg (m - 1) (by omega)] at h2
      have h5 : zs[m] ∈ zs.take m := by rw [h1]; exact List.mem_take_iff_getElem.2 ⟨m - 1, by omega, rfl⟩
      rw [ih2, List.mem_append]
      constructor
      · exact .inl
      · rintro (h | h)
        · exact h
        · obtain rfl : x = zs[m] := by simpa using h
          exact h5

theorem sorted_le (l : List Int) : (l.mergeSort fun x y => decide (x ≤ y)).Pairwise (· ≤ ·) := by
  have h := List.pairwise_mergeSort (le := fun x y : Int => decide (x ≤ y)) (fun a b c h1 h2 => by simp at *; omega) (fun a b => by simp; omega) l
  simpa using h

/-- Sorted and compacted: it rises, and has the same members. -/
theorem sortC_rises (l : List Int) : (compact (l.mergeSort fun x y => decide (x ≤ y))).Pairwise (· < ·) := (compact_up _ (sorted_le l) _ (Nat.le_refl _)).1

theorem sortC_mem (l : List Int) (x : Int) : x ∈ compact (l.mergeSort fun x y => decide (x ≤ y)) ↔ x ∈ l := by
  have h := (compact_up _ (sorted_le l) _ (Nat.le_refl _)).2 x
  rw [List.take_length] at h
  exact h.trans List.mem_mergeSort

/-- how far ahead it is there, ever. -/
def aheads (ah : Int) (L : List (Int × Int)) : List Int := ah :: L.map (·.2)

/-- so many minutes ago it was a time, and it was so many minutes ahead. -/
def hitB (ah : Int) (L : List (Int × Int)) (t n : Int) : Bool := timeB (t - n) && (zoneOf ah L (t - n) == n)

def hits (ah : Int) (L : List (Int × Int)) (t : Int) (ns : List Int) : List Int := (ns.filter (hitB ah L t)).map (t - ·)

theorem hits_snoc (ah : Int) (L : List (Int × Int)) (t : Int) (ns : List Int) (n : Int) : hits ah L t (ns ++ [n]) = hits ah L t ns ++ (if hitB ah L t n = true then [t - n] else []) := by
  rw [hits, List.filter_append, List.map_append]
  congr 1
  by_cases h : hitB ah L t n = true <;> simp [h]

theorem hits_mem {ah : Int} {L : List (Int × Int)} {t : Int} {ns : List Int} {x : Int} : x ∈ hits ah L t ns ↔ t - x ∈ ns ∧ timeB x = true ∧ zoneOf ah L x = t - x := by
  simp only [hits, List.mem_map, List.mem_filter, hitB, Bool.and_eq_true, beq_iff_eq]
  constructor
  · rintro ⟨n, ⟨h1, h2, h3⟩, rfl⟩
    refine ⟨by rw [show t - (t - n) = n by omega]; exact h1, h2, by rw [h3]; omega⟩
  · rintro ⟨h1, h2, h3⟩
    exact ⟨t - x, ⟨h1, by rw [show t - (t - x) = x by omega]; exact h2, by rw [show t - (t - x) = x by omega]; exact h3⟩, by omega⟩

theorem hits_len (ah : Int) (L : List (Int × Int)) (t : Int) (ns : List Int) : (hits ah L t ns).length ≤ ns.length := by
  rw [hits, List.length_map]; exact List.length_filter_le _ _

/-- all times at which it is so there. -/
def zoneAll (ah : Int) (L : List (Int × Int)) (t : Int) : List Int := compact ((hits ah L t (aheads ah L)).mergeSort fun x y => decide (x ≤ y))

theorem zoneOf_aheads (ah : Int) (L : List (Int × Int)) (t : Int) : zoneOf ah L t ∈ aheads ah L := by
  suffices h : ∀ (L : List (Int × Int)) (n : Int), L.foldl (fun n s => if s.1 ≤ t then s.2 else n) n ∈ n :: L.map (·.2) from h L ah
  intro L
  induction L with
  | nil => intro n; simp
  | cons s r ih =>
    intro n
    rw [List.foldl_cons]
    have h := ih (if s.1 ≤ t then s.2 else n)
    rw [List.map_cons]
    rcases List.mem_cons.1 h with h | h
    · rw [h]
      split <;> simp
    · exact List.mem_cons_of_mem _ (List.mem_cons_of_mem _ h)

theorem zoneAll_mem {ah : Int} {L : List (Int × Int)} {t x : Int} : x ∈ zoneAll ah L t ↔ timeB x = true ∧ zoneOf ah L x = t - x := by
  rw [zoneAll, sortC_mem, hits_mem]
  exact ⟨fun h => h.2, fun h => ⟨by rw [← h.2]; exact zoneOf_aheads ah L x, h⟩⟩

theorem zoneAll_rises (ah : Int) (L : List (Int × Int)) (t : Int) : (zoneAll ah L t).Pairwise (· < ·) := sortC_rises _

/-- the reference's tries: from 900 down. -/
def tries (ah : Int) (L : List (Int × Int)) (k : Nat) : List Int := ((List.range k).map fun i : Nat => 900 - (i : Int)).filter fun n => (aheads ah L).contains n

theorem tries_succ (ah : Int) (L : List (Int × Int)) (k : Nat) : tries ah L (k + 1) = tries ah L k ++ (if (aheads ah L).contains (900 - (k : Int)) = true then [900 - (k : Int)] else []) := by
  rw [tries, List.range_succ, List.map_append, List.filter_append]
  congr 1
  by_cases h : (aheads ah L).contains (900 - (k : Int)) = true <;> simp only [List.map_cons, List.map_nil, List.filter_cons, h, List.filter_nil] <;> simp

/-- The reference finds the same. -/
theorem zoneAll_ref {ah : Int} {L : List (Int × Int)} (h : zfault ah L = 0) (t : Int) : hits ah L t (tries ah L 1801) = zoneAll ah L t := by
  refine rise_ext _ _ ?_ (zoneAll_rises ah L t) fun x => ?_
  · rw [hits, List.pairwise_map]
    refine List.Pairwise.sublist List.filter_sublist ?_
    refine List.Pairwise.sublist List.filter_sublist ?_
    rw [List.pairwise_map]
    exact List.pairwise_lt_range.imp fun {a b} h => by omega
  · rw [hits_mem, zoneAll_mem]
    refine ⟨fun h => h.2, fun hx => ⟨?_, hx⟩⟩
    have hb := zoneOf_bd h x
    have hm := zoneOf_aheads ah L x
    rw [hx.2] at hb hm
    rw [tries, List.mem_filter, List.mem_map]
    exact ⟨⟨(900 - (t - x)).toNat, List.mem_range.2 (by omega), by omega⟩, by simpa using hm⟩

end Go.Proofs.YtdamncbgobjpdaaDoor
