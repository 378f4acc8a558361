/- Rings of an event, plainly: which they are, in which order; in two parts they are the same. No program in sight. -/
import Derived.Test.YtkpmddlinlcobaaGreatDoorQ14
namespace Go.Proofs.YtkpmddlinlcobaaGreatDoor
open Go.RowKit Go.Shelf
set_option linter.unusedSimpArgs false
set_option linter.unusedVariables false

/-- a ring: when, of which time, of which alarm, which turn. -/
abbrev Rng := Int × Int × Int × Int

/-- one ring ahead of another one. -/
def Lt4 (x y : Rng) : Prop := x.1 < y.1 ∨ (x.1 = y.1 ∧ (x.2.1 < y.2.1 ∨ (x.2.1 = y.2.1 ∧ (x.2.2.1 < y.2.2.1 ∨ (x.2.2.1 = y.2.2.1 ∧ x.2.2.2 < y.2.2.2)))))

theorem lt4_irr (x : Rng) : ¬ Lt4 x x := by unfold Lt4; omega
theorem lt4_trans {x y z : Rng} (h1 : Lt4 x y) (h2 : Lt4 y z) : Lt4 x z := by unfold Lt4 at *; omega
theorem lt4_tot {x y : Rng} (h1 : ¬ Lt4 y x) (h2 : x ≠ y) : Lt4 x y := by
  have h3 : ¬ (x.1 = y.1 ∧ x.2.1 = y.2.1 ∧ x.2.2.1 = y.2.2.1 ∧ x.2.2.2 = y.2.2.2) := fun h => h2 (Prod.ext h.1 (Prod.ext h.2.1 (Prod.ext h.2.2.1 h.2.2.2)))
  unfold Lt4 at *; omega

/-- is the second not ahead of the first? -/
def leR (x y : Rng) : Bool := decide (x.1 < y.1) || (decide (x.1 = y.1) && (decide (x.2.1 < y.2.1) || (decide (x.2.1 = y.2.1) && (decide (x.2.2.1 < y.2.2.1) || (decide (x.2.2.1 = y.2.2.1) && decide (x.2.2.2 ≤ y.2.2.2))))))

theorem leR_iff {x y : Rng} : leR x y = true ↔ ¬ Lt4 y x := by
  simp only [leR, Lt4, Bool.or_eq_true, Bool.and_eq_true, decide_eq_true_eq]; omega

/-- rings in order. -/
def srtR (L : List Rng) : List Rng := L.mergeSort leR

theorem srtR_len (L : List Rng) : (srtR L).length = L.length := List.length_mergeSort L

theorem srtR_ord {L : List Rng} (hn : L.Nodup) : (srtR L).Pairwise Lt4 := by
  have h := List.pairwise_mergeSort (le := leR) (fun a b c h1 h2 => by
    rw [leR_iff] at *
    unfold Lt4 at *; omega) (fun a b => by
    rw [Bool.or_eq_true, leR_iff, leR_iff]
    unfold Lt4; omega) L
  have h2 : (L.mergeSort leR).Nodup := (List.mergeSort_perm L leR).nodup_iff.2 hn
  refine (h.and h2).imp ?_
  rintro x y ⟨h3, h4⟩
  exact lt4_tot (leR_iff.1 h3) h4

/-- from where an alarm is reckoned. -/
def almAt (a : Alm) (f ln : Int) : Int := if a.2.1 = true then f + ln + a.1 else f + a.1

/-- the turns of an alarm from one time to another one. -/
def turnsL (at_ b lo hi wh ix : Int) (n : Nat) : List Rng := (List.range n).filterMap fun (k : Nat) => if timeB (at_ + (k : Int) * b) = true ∧ lo ≤ at_ + (k : Int) * b ∧ at_ + (k : Int) * b ≤ hi then some (at_ + (k : Int) * b, wh, ix, (k : Int)) else none

theorem turnsL_mem {at_ b lo hi wh ix : Int} {n : Nat} {r : Rng} : r ∈ turnsL at_ b lo hi wh ix n ↔ ∃ k : Nat, k < n ∧ r = (at_ + k * b, wh, ix, (k : Int)) ∧ timeB (at_ + k * b) = true ∧ lo ≤ at_ + k * b ∧ at_ + k * b ≤ hi := by
  unfold turnsL
  rw [List.mem_filterMap]
  constructor
  · rintro ⟨k, hk, he⟩
    by_cases h : timeB (at_ + k * b) = true ∧ lo ≤ at_ + k * b ∧ at_ + k * b ≤ hi
    · rw [if_pos h] at he
      exact ⟨k, List.mem_range.1 hk, (Option.some.inj he).symm, h⟩
    · rw [if_neg h] at he; cases he
  · rintro ⟨k, hk, rfl, h⟩
    exact ⟨k, List.mem_range.2 hk, by rw [if_pos h]⟩

theorem turnsL_succ (at_ b lo hi wh ix : Int) (n : Nat) : turnsL at_ b lo hi wh ix (n + 1) = turnsL at_ b lo hi wh ix n ++ (if timeB (at_ + n * b) = true ∧ lo ≤ at_ + n * b ∧ at_ + n * b ≤ hi then [(at_ + n * b, wh, ix, (n : Int))] else []) := by
  unfold turnsL
  rw [List.range_succ, List.filterMap_append]
  congr 1
  by_cases h : timeB (at_ + n * b) = true ∧ lo ≤ at_ + n * b ∧ at_ + n * b ≤ hi
  · rw [if_pos h, List.filterMap_cons_some (by rw [if_pos h])]; rfl
  · rw [if_neg h, List.filterMap_cons_none (by rw [if_neg h])]; rfl

/-- the rings of a time of alarms, the first of which is the i-th. -/
def almsL (ln lo hi : Int) (x : Int × Int) : Int → List Alm → List Rng
  | _, [] => []
  | i, a :: r => turnsL (almAt a x.2 ln) a.2.2.2 lo hi x.1 i (a.2.2.1 + 1).toNat ++ almsL ln lo hi x (i + 1) r

theorem almsL_snoc (ln lo hi : Int) (x : Int × Int) (b : Alm) : ∀ (L : List Alm) (i : Int), almsL ln lo hi x i (L ++ [b]) = almsL ln lo hi x i L ++ turnsL (almAt b x.2 ln) b.2.2.2 lo hi x.1 (i + L.length) (b.2.2.1 + 1).toNat
  | [], i => by simp [almsL]
  | a :: r, i => by rw [List.cons_append, almsL, almsL_snoc ln lo hi x b r (i + 1), almsL, List.append_assoc, List.length_cons, show i + 1 + (r.length : Int) = i + ((r.length + 1 : Nat) : Int) by omega]

theorem almsL_mem {ln lo hi : Int} {x : Int × Int} {r : Rng} : ∀ {L : List Alm} {i : Int}, r ∈ almsL ln lo hi x i L ↔ ∃ (j : Nat) (h : j < L.length), r ∈ turnsL (almAt L[j] x.2 ln) L[j].2.2.2 lo hi x.1 (i + j) (L[j].2.2.1 + 1).toNat
  | [], i => by simp [almsL]
  | a :: l, i => by
    rw [almsL, List.mem_append, almsL_mem]
    constructor
    · rintro (h | ⟨j, hj, h⟩)
      · exact ⟨0, by simp, by simpa using h⟩
      · refine ⟨j + 1, by simpa using hj, ?_⟩
        rw [List.getElem_cons_succ, show i + ((j + 1 : Nat) : Int) = i + 1 + (j : Int) by omega]
        exact h
    · rintro ⟨j, hj, h⟩
      cases j with
      | zero => left; simpa using h
      | succ j =>
        right
        refine ⟨j, by simpa using hj, ?_⟩
        rw [List.getElem_cons_succ, show i + ((j + 1 : Nat) : Int) = i + 1 + (j : Int) by omega] at h
        exact h

/-- the rings of an event from one time to another one, time by time. -/
def ringsU (ah : Int) (Z : List (Int × Int)) (B M N : List Int) (C : List (Int × Int)) (A : List Alm) (ln lo hi : Int) : List Rng :=
  (tmsOf ah Z B M N C ln (lo - 300000) (hi + 300000)).flatMap fun x => almsL ln lo hi x 0 A

/-- .. in order. -/
def ringsL (ah : Int) (Z : List (Int × Int)) (B M N : List Int) (C : List (Int × Int)) (A : List Alm) (ln lo hi : Int) : List Rng := srtR (ringsU ah Z B M N C A ln lo hi)

theorem turnsL_nodup (at_ b lo hi wh ix : Int) : ∀ n : Nat, (turnsL at_ b lo hi wh ix n).Nodup
  | 0 => by simp [turnsL]
  | n + 1 => by
    rw [turnsL_succ, List.nodup_append]
    refine ⟨turnsL_nodup at_ b lo hi wh ix n, by split <;> simp, fun x hx y hy he => ?_⟩
    obtain ⟨k, hk, rfl, _⟩ := turnsL_mem.1 hx
    split at hy
    · simp only [List.mem_singleton] at hy
      subst hy
      have := congrArg (fun r : Rng => r.2.2.2) he
      simp only at this
      omega
    · cases hy

theorem almsL_nodup (ln lo hi : Int) (x : Int × Int) : ∀ (L : List Alm) (i : Int), (almsL ln lo hi x i L).Nodup
  | [], i => by simp [almsL]
  | a :: l, i => by
    rw [almsL, List.nodup_append]
    refine ⟨turnsL_nodup .., almsL_nodup ln lo hi x l (i + 1), fun r hr s hs he => ?_⟩
    obtain ⟨k, hk, rfl, _⟩ := turnsL_mem.1 hr
    obtain ⟨j, hj, h⟩ := almsL_mem.1 hs
    obtain ⟨k2, hk2, rfl, _⟩ := turnsL_mem.1 h
    have := congrArg (fun r : Rng => r.2.2.1) he
    simp only at this
    omega

theorem almsL_wh {ln lo hi : Int} {x : Int × Int} {r : Rng} {L : List Alm} {i : Int} (h : r ∈ almsL ln lo hi x i L) : r.2.1 = x.1 := by
  obtain ⟨j, hj, h⟩ := almsL_mem.1 h
  obtain ⟨k2, hk2, rfl, _⟩ := turnsL_mem.1 h
  rfl

theorem ringsU_nodup {A : List Alm} {ln lo hi : Int} : ∀ {L : List (Int × Int)}, (L.map (·.1)).Nodup → (L.flatMap fun x => almsL ln lo hi x 0 A).Nodup
  | [], _ => by simp
  | x :: L, h => by
    rw [List.map_cons, List.nodup_cons] at h
    rw [List.flatMap_cons, List.nodup_append]
    refine ⟨almsL_nodup .., ringsU_nodup h.2, fun r hr s hs he => ?_⟩
    subst he
    obtain ⟨y, hy, h2⟩ := List.mem_flatMap.1 hs
    exact h.1 (List.mem_map.2 ⟨y, hy, by rw [← almsL_wh h2, almsL_wh hr]⟩)

theorem one_which {ah : Int} {Z C : List (Int × Int)} {ln : Int} {x y : Int × Int} (h1 : oneT ah Z C ln x.1 = some x) (h2 : oneT ah Z C ln y.1 = some y) (h : x.1 = y.1) : x = y := by
  rw [← h, h1] at h2; exact Option.some.inj h2

theorem tms_which {ah : Int} {Z : List (Int × Int)} {B M N : List Int} {C : List (Int × Int)} {ln a b : Int} (hz : MayZ ah Z) (hC : C.Pairwise (fun x y => x.1 < y.1)) : ((tmsOf ah Z B M N C ln a b).map (·.1)).Nodup := by
  rw [List.nodup_iff_pairwise_ne, List.pairwise_map]
  refine List.Pairwise.imp_of_mem ?_ (tmsOf_ord ah Z B M N C ln a b)
  intro x y hx hy h he
  exact lt2_irr _ (by rw [one_which ((tmsOf_mem hz hC).1 hx).2.1 ((tmsOf_mem hz hC).1 hy).2.1 he] at h; exact h)

theorem ringsL_ord {ah : Int} {Z : List (Int × Int)} {B M N : List Int} {C : List (Int × Int)} {A : List Alm} {ln lo hi : Int} (hz : MayZ ah Z) (hC : C.Pairwise (fun x y => x.1 < y.1)) : (ringsL ah Z B M N C A ln lo hi).Pairwise Lt4 :=
  srtR_ord (ringsU_nodup (tms_which hz hC))

theorem ringsL_len (ah : Int) (Z : List (Int × Int)) (B M N : List Int) (C : List (Int × Int)) (A : List Alm) (ln lo hi : Int) : (ringsL ah Z B M N C A ln lo hi).length = (ringsU ah Z B M N C A ln lo hi).length := srtR_len _

/-- what an alarm that is right may say. -/
theorem alm_ok {a : Alm} (h : almBad a = false) : -100000 ≤ a.1 ∧ a.1 ≤ 100000 ∧ 0 ≤ a.2.2.1 ∧ a.2.2.1 ≤ 5 ∧ 0 ≤ a.2.2.2 ∧ a.2.2.2 ≤ 10000 ∧ (0 < a.2.2.1 → 1 ≤ a.2.2.2) ∧ (a.2.2.1 = 0 → a.2.2.2 = 0) := by
  unfold almBad almE at h
  simp only [bne_eq_false_iff_eq] at h
  split at h
  · cases h
  · simp at *; omega

theorem ringsL_mem {ah : Int} {Z : List (Int × Int)} {B M N : List Int} {C : List (Int × Int)} {A : List Alm} {ln lo hi : Int} (hz : MayZ ah Z) (hC : C.Pairwise (fun x y => x.1 < y.1)) (hA : ∀ a ∈ A, almBad a = false) (hl : 0 ≤ ln ∧ ln ≤ 100000) {r : Rng} :
    r ∈ ringsL ah Z B M N C A ln lo hi ↔ (lo ≤ r.1 ∧ r.1 ≤ hi) ∧ timeB r.1 = true ∧ ∃ (f : Int) (j k : Nat) (h : j < A.length), IsT B M N r.2.1 ∧ oneT ah Z C ln r.2.1 = some (r.2.1, f) ∧ (k : Int) ≤ A[j].2.2.1 ∧ r.1 = almAt A[j] f ln + k * A[j].2.2.2 ∧ r.2.2.1 = j ∧ r.2.2.2 = k := by
  unfold ringsL srtR ringsU
  rw [List.mem_mergeSort, List.mem_flatMap]
  constructor
  · rintro ⟨x, hx, hr⟩
    obtain ⟨h1, h2, h3, h4⟩ := (tmsOf_mem hz hC).1 hx
    obtain ⟨j, hj, h5⟩ := almsL_mem.1 hr
    obtain ⟨k, hk, rfl, h6, h7, h8⟩ := turnsL_mem.1 h5
    refine ⟨⟨h7, h8⟩, h6, x.2, j, k, hj, h1, h2, by omega, rfl, by simp, rfl⟩
  · rintro ⟨⟨h1, h2⟩, h3, f, j, k, hj, h4, h5, h6, h7, h8, h9⟩
    have ha := alm_ok (hA A[j] (List.getElem_mem hj))
    have hb : 0 ≤ (k : Int) * A[j].2.2.2 := Int.mul_nonneg (by omega) (by omega)
    have hc : (k : Int) * A[j].2.2.2 ≤ 5 * 10000 := Int.mul_le_mul (by omega) (by omega) (by omega) (by omega)
    have hd : f - 100000 ≤ almAt A[j] f ln ∧ almAt A[j] f ln ≤ f + 200000 := by unfold almAt; split <;> omega
    have w1 : lo - 300000 ≤ f ∧ f < hi + 300000 := by
      obtain ⟨q, hq⟩ : ∃ q, q = almAt A[j] f ln := ⟨_, rfl⟩
      obtain ⟨m, hm⟩ : ∃ m, m = (k : Int) * A[j].2.2.2 := ⟨_, rfl⟩
      rw [← hq, ← hm] at h7
      rw [← hq] at hd
      rw [← hm] at hb hc
      omega
    refine ⟨(r.2.1, f), (tmsOf_mem hz hC).2 ⟨h4, h5, w1.1, w1.2⟩, almsL_mem.2 ⟨j, hj, turnsL_mem.2 ⟨k, by omega, ?_, by rw [← h7]; exact h3, (by show lo ≤ almAt A[j] f ln + (k : Int) * A[j].2.2.2; omega), (by show almAt A[j] f ln + (k : Int) * A[j].2.2.2 ≤ hi; omega)⟩⟩⟩
    exact Prod.ext h7 (Prod.ext rfl (Prod.ext (by simpa using h8) h9))

theorem ringsL_split {ah : Int} {Z : List (Int × Int)} {B M N : List Int} {C : List (Int × Int)} {A : List Alm} {ln lo mid hi : Int} (hz : MayZ ah Z) (hC : C.Pairwise (fun x y => x.1 < y.1)) (hA : ∀ a ∈ A, almBad a = false) (hl : 0 ≤ ln ∧ ln ≤ 100000) (h1 : lo ≤ mid) (h2 : mid ≤ hi + 1) :
    ringsL ah Z B M N C A ln lo (mid - 1) ++ ringsL ah Z B M N C A ln mid hi = ringsL ah Z B M N C A ln lo hi := by
  refine ord_ext lt4_irr lt4_trans _ _ (List.pairwise_append.2 ⟨ringsL_ord hz hC, ringsL_ord hz hC, fun x hx y hy => ?_⟩) (ringsL_ord hz hC) fun r => ?_
  · have h3 := ((ringsL_mem hz hC hA hl).1 hx).1
    have h4 := ((ringsL_mem hz hC hA hl).1 hy).1
    unfold Lt4; omega
  · rw [List.mem_append, ringsL_mem hz hC hA hl, ringsL_mem hz hC hA hl, ringsL_mem hz hC hA hl]
    constructor
    · rintro (h | h)
      · exact ⟨⟨h.1.1, by omega⟩, h.2⟩
      · exact ⟨⟨by omega, h.1.2⟩, h.2⟩
    · rintro ⟨⟨h3, h4⟩, h5⟩
      by_cases h7 : r.1 < mid
      · exact .inl ⟨⟨h3, by omega⟩, h5⟩
      · exact .inr ⟨⟨by omega, h4⟩, h5⟩

end Go.Proofs.YtkpmddlinlcobaaGreatDoor
