/- Texts joined into one (a claim has at most 60 files): Rings of an event, plainly: which they are, in which order; in two parts they are the same; alarm.Order, and the sort of rings of one event: their contracts; Rings with their names: how they stand to each other; a ring put into a list by order, once; The contract of the reference chimeref2.Order. -/
import Derived.Test.YtgelojhpanbnaaaGreatDoorQ14
import Derived.Test.YtgelojhpanbnaaaGreatDoorQ16
import Derived.Test.YtgelojhpanbnaaaGreatDoorShAlm
import Derived.StillTailTactics
import Derived.Lib.Bytes
import Derived.Deep.MidRow
namespace Go.Proofs.YtgelojhpanbnaaaGreatDoor
open Go.RowKit Go.Shelf
set_option linter.unusedSimpArgs false
set_option linter.unusedVariables false

/-- a ring: when, of which time, of which alarm, which turn. -/
abbrev Rng := Int × Int × Int × Int

/-- one ring ahead of another one. -/
def Lt4 (x y : Rng) : Prop := x.1 < y.1 ∨ (x.1 = y.1 ∧ (x.2.1 < y.2.1 ∨ (x.2.1 = y.2.1 ∧ (x.2.2.1 < y.2.2.1 ∨ (x.2.2.1 = y.2.2.1 ∧ x.2.2.2 < y.2.2.2)))))

theorem lt4_irr (x : Rng) : ¬ Lt4 x x := by unfold Lt4; omega
theorem lt4_trans {x y z : Rng} (h1 : Lt4 x y) (h2 : Lt4 y z) : Lt4 x z := by unfold Lt4 at *; omega
theorem lt4_tot {x y : Rng} (h1 : ¬ Lt4 y x) (h2 : x ≠ y) : Lt4 x y := by
  have h3 : ¬ (x.1 = y.1 ∧ x.2.1 = y.2.1 ∧ x.2.2.1 = y.2.2.1 ∧ x.2.2.2 = y.2.2.2) := fun h => h2 (Prod.ext h.1 (Prod.ext h.2.1 (Prod.ext h.2.2.1 h.2.2.2)))
  unfold Lt4 at *; omega

/-- is the second not ahead of the first? -/
def leR (x y : Rng) : Bool := decide (x.1 < y.1) || (decide (x.1 = y.1) && (decide (x.2.1 < y.2.1) || (decide (x.2.1 = y.2.1) && (decide (x.2.2.1 < y.2.2.1) || (decide (x.2.2.1 = y.2.2.1) && decide (x.2.2.2 ≤ y.2.2.2))))))

theorem leR_iff {x y : Rng} : leR x y = true ↔ ¬ Lt4 y x := by
  simp only [leR, Lt4, Bool.or_eq_true, Bool.and_eq_true, decide_eq_true_eq]; omega

/-- rings in order. -/
def srtR (L : List Rng) : List Rng := L.mergeSort leR

theorem srtR_len (L : List Rng) : (srtR L).length = L.length := List.length_mergeSort L

theorem srtR_ord {L : List Rng} (hn : L.Nodup) : (srtR L).Pairwise Lt4 := by
  have h := List.pairwise_mergeSort (le := leR) (fun a b c h1 h2 => by
    rw [leR_iff] at *
    unfold Lt4 at *; omega) (fun a b => by
    rw [Bool.or_eq_true, leR_iff, leR_iff]
    unfold Lt4; omega) L
  have h2 : (L.mergeSort leR).Nodup := (List.mergeSort_perm L leR).nodup_iff.2 hn
  refine (h.and h2).imp ?_
  rintro x y ⟨h3, h4⟩
  exact lt4_tot (leR_iff.1 h3) h4

/-- from where an alarm is reckoned. -/
def almAt (a : Alm) (f ln : Int) : Int := if a.2.1 = true then f + ln + a.1 else f + a.1

/-- the turns of an alarm from one time to another one. -/
def turnsL (at_ b lo hi wh ix : Int) (n : Nat) : List Rng := (List.range n).filterMap fun (k : Nat) => if timeB (at_ + (k : Int) * b) = true ∧ lo ≤ at_ + (k : Int) * b ∧ at_ + (k : Int) * b ≤ hi then some (at_ + (k : Int) * b, wh, ix, (k : Int)) else none

theorem turnsL_mem {at_ b lo hi wh ix : Int} {n : Nat} {r : Rng} : r ∈ turnsL at_ b lo hi wh ix n ↔ ∃ k : Nat, k < n ∧ r = (at_ + k * b, wh, ix, (k : Int)) ∧ timeB (at_ + k * b) = true ∧ lo ≤ at_ + k * b ∧ at_ + k * b ≤ hi := by
  unfold turnsL
  rw [List.mem_filterMap]
  constructor
  · rintro ⟨k, hk, he⟩
    by_cases h : timeB (at_ + k * b) = true ∧ lo ≤ at_ + k * b ∧ at_ + k * b ≤ hi
    · rw [if_pos h] at he
      exact ⟨k, List.mem_range.1 hk, (Option.some.inj he).symm, h⟩
    · rw [if_neg h] at he; cases he
  · rintro ⟨k, hk, rfl, h⟩
    exact ⟨k, List.mem_range.2 hk, by rw [if_pos h]⟩

theorem turnsL_succ (at_ b lo hi wh ix : Int) (n : Nat) : turnsL at_ b lo hi wh ix (n + 1) = turnsL at_ b lo hi wh ix n ++ (if timeB (at_ + n * b) = true ∧ lo ≤ at_ + n * b ∧ at_ + n * b ≤ hi then [(at_ + n * b, wh, ix, (n : Int))] else []) := by
  unfold turnsL
  rw [List.range_succ, List.filterMap_append]
  congr 1
  by_cases h : timeB (at_ + n * b) = true ∧ lo ≤ at_ + n * b ∧ at_ + n * b ≤ hi
  · rw [if_pos h, List.filterMap_cons_some (by rw [if_pos h])]; rfl
  · rw [if_neg h, List.filterMap_cons_none (by rw [if_neg h])]; rfl

/-- the rings of a time of alarms, the first of which is the i-th. -/
def almsL (ln lo hi : Int) (x : Int × Int) : Int → List Alm → List Rng
  | _, [] => []
  | i, a :: r => turnsL (almAt a x.2 ln) a.2.2.2 lo hi x.1 i (a.2.2.1 + 1).toNat ++ almsL ln lo hi x (i + 1) r

theorem almsL_snoc (ln lo hi : Int) (x : Int × Int) (b : Alm) : ∀ (L : List Alm) (i : Int), almsL ln lo hi x i (L ++ [b]) = almsL ln lo hi x i L ++ turnsL (almAt b x.2 ln) b.2.2.2 lo hi x.1 (i + L.length) (b.2.2.1 + 1).toNat
  | [], i => by simp [almsL]
  | a :: r, i => by rw [List.cons_append, almsL, almsL_snoc ln lo hi x b r (i + 1), almsL, List.append_assoc, List.length_cons, show i + 1 + (r.length : Int) = i + ((r.length + 1 : Nat) : Int) by omega]

theorem almsL_mem {ln lo hi : Int} {x : Int × Int} {r : Rng} : ∀ {L : List Alm} {i : Int}, r ∈ almsL ln lo hi x i L ↔ ∃ (j : Nat) (h : j < L.length), r ∈ turnsL (almAt L[j] x.2 ln) L[j].2.2.2 lo hi x.1 (i + j) (L[j].2.2.1 + 1).toNat
  | [], i => by simp [almsL]
  | a :: l, i => by
    rw [almsL, List.mem_append, almsL_mem]
    constructor
    · rintro (h | ⟨j, hj, h⟩)
      · exact ⟨0, by simp, by simpa using h⟩
      · refine ⟨j + 1, by simpa using hj, ?_⟩
        rw [List.getElem_cons_succ, show i + ((j + 1 : Nat) : Int) = i + 1 + (j : Int) by omega]
        exact h
    · rintro ⟨j, hj, h⟩
      cases j with
      | zero => left; simpa using h
      | succ j =>
        right
        refine ⟨j, by simpa using hj, ?_⟩
        rw [List.getElem_cons_succ, show i + ((j + 1 : Nat) : Int) = i + 1 + (j : Int) by omega] at h
        exact h

/-- the rings of an event from one time to another one, time by time. -/
def ringsU (ah : Int) (Z : List (Int × Int)) (B M N : List Int) (C : List (Int × Int)) (A : List Alm) (ln lo hi : Int) : List Rng :=
  (tmsOf ah Z B M N C ln (lo - 300000) (hi + 300000)).flatMap fun x => almsL ln lo hi x 0 A

/-- .. in order. -/
def ringsL (ah : Int) (Z : List (Int × Int)) (B M N : List Int) (C : List (Int × Int)) (A : List Alm) (ln lo hi : Int) : List Rng := srtR (ringsU ah Z B M N C A ln lo hi)

theorem turnsL_nodup (at_ b lo hi wh ix : Int) : ∀ n : Nat, (turnsL at_ b lo hi wh ix n).Nodup
  | 0 => by simp [turnsL]
  | n + 1 => by
    rw [turnsL_succ, List.nodup_append]
    refine ⟨turnsL_nodup at_ b lo hi wh ix n, by split <;> simp, fun x hx y hy he => ?_⟩
    obtain ⟨k, hk, rfl, _⟩ := turnsL_mem.1 hx
    split at hy
    · simp only [List.mem_singleton] at hy
      subst hy
      have := congrArg (fun r : Rng => r.2.2.2) he
      simp only at this
      omega
    · cases hy

theorem almsL_nodup (ln lo hi : Int) (x : Int × Int) : ∀ (L : List Alm) (i : Int), (almsL ln lo hi x i L).Nodup
  | [], i => by simp [almsL]
  | a :: l, i => by
    rw [almsL, List.nodup_append]
    refine ⟨turnsL_nodup .., almsL_nodup ln lo hi x l (i + 1), fun r hr s hs he => ?_⟩
    obtain ⟨k, hk, rfl, _⟩ := turnsL_mem.1 hr
    obtain ⟨j, hj, h⟩ := almsL_mem.1 hs
    obtain ⟨k2, hk2, rfl, _⟩ := turnsL_mem.1 h
    have := congrArg (fun r : Rng => r.2.2.1) he
    simp only at this
    omega

theorem almsL_wh {ln lo hi : Int} {x : Int × Int} {r : Rng} {L : List Alm} {i : Int} (h : r ∈ almsL ln lo hi x i L) : r.2.1 = x.1 := by
  obtain ⟨j, hj, h⟩ := almsL_mem.1 h
  obtain ⟨k2, hk2, rfl, _⟩ := turnsL_mem.1 h
  rfl

theorem ringsU_nodup {A : List Alm} {ln lo hi : Int} : ∀ {L : List (Int × Int)}, (L.map (·.1)).Nodup → (L.flatMap fun x => almsL ln lo hi x 0 A).Nodup
  | [], _ => by simp
  | x :: L, h => by
    rw [List.map_cons, List.nodup_cons] at h
    rw [List.flatMap_cons, List.nodup_append]
    refine ⟨almsL_nodup .., ringsU_nodup h.2, fun r hr s hs he => ?_⟩
    subst he
    obtain ⟨y, hy, h2⟩ := List.mem_flatMap.1 hs
    exact h.1 (List.mem_map.2 ⟨y, hy, by rw [← almsL_wh h2, almsL_wh hr]⟩)

theorem one_which {ah : Int} {Z C : List (Int × Int)} {ln : Int} {x y : Int × Int} (h1 : oneT ah Z C ln x.1 = some x) (h2 : oneT ah Z C ln y.1 = some y) (h : x.1 = y.1) : x = y := by
  rw [← h, h1] at h2; exact Option.some.inj h2

theorem tms_which {ah : Int} {Z : List (Int × Int)} {B M N : List Int} {C : List (Int × Int)} {ln a b : Int} (hz : MayZ ah Z) (hC : C.Pairwise (fun x y => x.1 < y.1)) : ((tmsOf ah Z B M N C ln a b).map (·.1)).Nodup := by
  rw [List.nodup_iff_pairwise_ne, List.pairwise_map]
  refine List.Pairwise.imp_of_mem ?_ (tmsOf_ord ah Z B M N C ln a b)
  intro x y hx hy h he
  exact lt2_irr _ (by rw [one_which ((tmsOf_mem hz hC).1 hx).2.1 ((tmsOf_mem hz hC).1 hy).2.1 he] at h; exact h)

theorem ringsL_ord {ah : Int} {Z : List (Int × Int)} {B M N : List Int} {C : List (Int × Int)} {A : List Alm} {ln lo hi : Int} (hz : MayZ ah Z) (hC : C.Pairwise (fun x y => x.1 < y.1)) : (ringsL ah Z B M N C A ln lo hi).Pairwise Lt4 :=
  srtR_ord (ringsU_nodup (tms_which hz hC))

theorem ringsL_len (ah : Int) (Z : List (Int × Int)) (B M N : List Int) (C : List (Int × Int)) (A : List Alm) (ln lo hi : Int) : (ringsL ah Z B M N C A ln lo hi).length = (ringsU ah Z B M N C A ln lo hi).length := srtR_len _

/-- what an alarm that is right may say. -/
theorem alm_ok {a : Alm} (h : almBad a = false) : -100000 ≤ a.1 ∧ a.1 ≤ 100000 ∧ 0 ≤ a.2.2.1 ∧ a.2.2.1 ≤ 5 ∧ 0 ≤ a.2.2.2 ∧ a.2.2.2 ≤ 10000 ∧ (0 < a.2.2.1 → 1 ≤ a.2.2.2) ∧ (a.2.2.1 = 0 → a.2.2.2 = 0) := by
  unfold almBad almE at h
  simp only [bne_eq_false_iff_eq] at h
  split at h
  · cases h
  · simp at *; omega

theorem ringsL_mem {ah : Int} {Z : List (Int × Int)} {B M N : List Int} {C : List (Int × Int)} {A : List Alm} {ln lo hi : Int} (hz : MayZ ah Z) (hC : C.Pairwise (fun x y => x.1 < y.1)) (hA : ∀ a ∈ A, almBad a = false) (hl : 0 ≤ ln ∧ ln ≤ 100000) {r : Rng} :
    r ∈ ringsL ah Z B M N C A ln lo hi ↔ (lo ≤ r.1 ∧ r.1 ≤ hi) ∧ timeB r.1 = true ∧ ∃ (f : Int) (j k : Nat) (h : j < A.length), IsT B M N r.2.1 ∧ oneT ah Z C ln r.2.1 = some (r.2.1, f) ∧ (k : Int) ≤ A[j].2.2.1 ∧ r.1 = almAt A[j] f ln + k * A[j].2.2.2 ∧ r.2.2.1 = j ∧ r.2.2.2 = k := by
  unfold ringsL srtR ringsU
  rw [List.mem_mergeSort, List.mem_flatMap]
  constructor
  · rintro ⟨x, hx, hr⟩
    obtain ⟨h1, h2, h3, h4⟩ := (tmsOf_mem hz hC).1 hx
    obtain ⟨j, hj, h5⟩ := almsL_mem.1 hr
    obtain ⟨k, hk, rfl, h6, h7, h8⟩ := turnsL_mem.1 h5
    refine ⟨⟨h7, h8⟩, h6, x.2, j, k, hj, h1, h2, by omega, rfl, by simp, rfl⟩
  · rintro ⟨⟨h1, h2⟩, h3, f, j, k, hj, h4, h5, h6, h7, h8, h9⟩
    have ha := alm_ok (hA A[j] (List.getElem_mem hj))
    have hb : 0 ≤ (k : Int) * A[j].2.2.2 := Int.mul_nonneg (by omega) (by omega)
    have hc : (k : Int) * A[j].2.2.2 ≤ 5 * 10000 := Int.mul_le_mul (by omega) (by omega) (by omega) (by omega)
    have hd : f - 100000 ≤ almAt A[j] f ln ∧ almAt A[j] f ln ≤ f + 200000 := by unfold almAt; split <;> omega
    have w1 : lo - 300000 ≤ f ∧ f < hi + 300000 := by
      obtain ⟨q, hq⟩ : ∃ q, q = almAt A[j] f ln := ⟨_, rfl⟩
      obtain ⟨m, hm⟩ : ∃ m, m = (k : Int) * A[j].2.2.2 := ⟨_, rfl⟩
      rw [← hq, ← hm] at h7
      rw [← hq] at hd
      rw [← hm] at hb hc
      omega
    refine ⟨(r.2.1, f), (tmsOf_mem hz hC).2 ⟨h4, h5, w1.1, w1.2⟩, almsL_mem.2 ⟨j, hj, turnsL_mem.2 ⟨k, by omega, ?_, by rw [← h7]; exact h3, (by show lo ≤ almAt A[j] f ln + (k : Int) * A[j].2.2.2; omega), (by show almAt A[j] f ln + (k : Int) * A[j].2.2.2 ≤ hi; omega)⟩⟩⟩
    exact Prod.ext h7 (Prod.ext rfl (Prod.ext (by simpa using h8) h9))

theorem ringsL_split {ah : Int} {Z : List (Int × Int)} {B M N : List Int} {C : List (Int × Int)} {A : List Alm} {ln lo mid hi : Int} (hz : MayZ ah Z) (hC : C.Pairwise (fun x y => x.1 < y.1)) (hA : ∀ a ∈ A, almBad a = false) (hl : 0 ≤ ln ∧ ln ≤ 100000) (h1 : lo ≤ mid) (h2 : mid ≤ hi + 1) :
    ringsL ah Z B M N C A ln lo (mid - 1) ++ ringsL ah Z B M N C A ln mid hi = ringsL ah Z B M N C A ln lo hi := by
  refine ord_ext lt4_irr lt4_trans _ _ (List.pairwise_append.2 ⟨ringsL_ord hz hC, ringsL_ord hz hC, fun x hx y hy => ?_⟩) (ringsL_ord hz hC) fun r => ?_
  · have h3 := ((ringsL_mem hz hC hA hl).1 hx).1
    have h4 := ((ringsL_mem hz hC hA hl).1 hy).1
    unfold Lt4; omega
  · rw [List.mem_append, ringsL_mem hz hC hA hl, ringsL_mem hz hC hA hl, ringsL_mem hz hC hA hl]
    constructor
    · rintro (h | h)
      · exact ⟨⟨h.1.1, by omega⟩, h.2⟩
      · exact ⟨⟨by omega, h.1.2⟩, h.2⟩
    · rintro ⟨⟨h3, h4⟩, h5⟩
      by_cases h7 : r.1 < mid
      · exact .inl ⟨⟨h3, by omega⟩, h5⟩
      · exact .inr ⟨⟨by omega, h4⟩, h5⟩

end Go.Proofs.YtgelojhpanbnaaaGreatDoor

namespace Go.Proofs.YtgelojhpanbnaaaGreatDoor
open Go.RowKit Go.Shelf Go.Sort
set_option linter.unusedSimpArgs false
set_option linter.unusedVariables false

theorem compare_self : ∀ l : List UInt8, Lib.compareBytes l l = 0
  | [] => rfl
  | a :: r => by rw [Lib.compareBytes, if_neg (by simp), if_neg (by simp)]; exact compare_self r

/-- how one text stands to another. -/
def strQ (a b : ByteArray) : Int := Lib.compareBytes a.data.toList b.data.toList

theorem strQ_self (a : ByteArray) : strQ a a = 0 := compare_self _

theorem strq_any (a b : ByteArray) (w : World) : Calls Tryz.prog 102 #[.string a, .string b] w fun e w' => e = .returned (.int .i64 (strQ a b)) ∧ w' = w := Tryz.strings_Compare a b w

theorem cmpq_st (a b : Int) (w : World) : Calls Tryz.prog 101 #[.int .i64 a, .int .i64 b] w fun e w' => e = .returned (.int .i64 (cmpQ a b)) ∧ w' = w := (cmpq_any a b w).mono fun e w' h => ⟨h.1, h.2.symm⟩

theorem ints_five {w : World} {b : Nat} {x1 x2 x3 x4 x5 : Int} (h0 : w.cell? ⟨b, 0, none⟩ = some (.int .i64 x1)) (h1 : w.cell? ⟨b, 1, none⟩ = some (.int .i64 x2)) (h2 : w.cell? ⟨b, 2, none⟩ = some (.int .i64 x3)) (h3 : w.cell? ⟨b, 3, none⟩ = some (.int .i64 x4)) (h4 : w.cell? ⟨b, 4, none⟩ = some (.int .i64 x5)) : IntsR w (.slice (some ⟨b, 0, none⟩) 5 5) [x1, x2, x3, x4, x5] :=
  ⟨_, 5, rfl, by simp, by simp, by decide, fun _ => ⟨b, 0, rfl, fun j u hj => by
    match j, hj with
    | 0, hj => (simp at hj; subst hj; simpa using h0)
    | 1, hj => (simp at hj; subst hj; simpa using h1)
    | 2, hj => (simp at hj; subst hj; simpa using h2)
    | 3, hj => (simp at hj; subst hj; simpa using h3)
    | 4, hj => (simp at hj; subst hj; simpa using h4)⟩⟩

set_option maxRecDepth 100000 in
set_option maxHeartbeats 8000000 in
theorem rorder_any (a1 : Int) (na : ByteArray) (a2 a3 a4 b1 : Int) (nb : ByteArray) (b2 b3 b4 : Int) (w : World) :
    Calls Tryz.prog 34 #[.agg #[.int .i64 a1, .string na, .int .i64 a2, .int .i64 a3, .int .i64 a4], .agg #[.int .i64 b1, .string nb, .int .i64 b2, .int .i64 b3, .int .i64 b4]] w
      fun e w' => e = .returned (.int .i64 (orQ [cmpQ a1 b1, strQ na nb, cmpQ a2 b2, cmpQ a3 b3, cmpQ a4 b4])) ∧ ∃ q os, w' = grow (w.drewN q) os := by
  go_enter Tryz.func34, Tryz.ntmps34
  go_wp2_with fail
  obtain ⟨w0, hw0⟩ : ∃ w0, w0 = (w.alloc (.cells #[.int .i64 a1, .string na, .int .i64 a2, .int .i64 a3, .int .i64 a4] 66)).alloc (.cells #[.int .i64 b1, .string nb, .int .i64 b2, .int .i64 b3, .int .i64 b4] 66) := ⟨_, rfl⟩
  rw [← hw0]
  obtain ⟨pb, hpb⟩ : ∃ p, p = w.heap.size := ⟨_, rfl⟩
  have c0 : w0.cell? ⟨pb, 0, none⟩ = some (.int .i64 a1) := by rw [hw0, hpb]; simp
  have c1 : w0.cell? ⟨pb, 1, none⟩ = some (.string na) := by rw [hw0, hpb]; simp
  have c2 : w0.cell? ⟨pb, 2, none⟩ = some (.int .i64 a2) := by rw [hw0, hpb]; simp
  have c3 : w0.cell? ⟨pb, 3, none⟩ = some (.int .i64 a3) := by rw [hw0, hpb]; simp
  have c4 : w0.cell? ⟨pb, 4, none⟩ = some (.int .i64 a4) := by rw [hw0, hpb]; simp
  have d0 : w0.cell? ⟨pb + 1, 0, none⟩ = some (.int .i64 b1) := by rw [hw0, hpb]; simp
  have d1 : w0.cell? ⟨pb + 1, 1, none⟩ = some (.string nb) := by rw [hw0, hpb]; simp
  have d2 : w0.cell? ⟨pb + 1, 2, none⟩ = some (.int .i64 b2) := by rw [hw0, hpb]; simp
  have d3 : w0.cell? ⟨pb + 1, 3, none⟩ = some (.int .i64 b3) := by rw [hw0, hpb]; simp
  have d4 : w0.cell? ⟨pb + 1, 4, none⟩ = some (.int .i64 b4) := by rw [hw0, hpb]; simp
  have W0 := Lib.hid hw0
  rw [← hpb]
  clear hw0 hpb
  refine wp_region_still_tail 25 (by kernel_rfl) (by kernel_rfl) ?_
  simp only [List.append_eq, List.cons_append, List.nil_append, List.take_succ_cons, List.take_zero, List.drop_succ_cons, List.drop_zero]
  repeat (first | still_step | still_call (cmpq_st _ _ _) | still_call (strq_any _ _ _))
  refine wpStill_nil ?_
  change wpList _ _ _ _ _ w0.drew
  go_wp2_with fail
  refine (orq_any _ [cmpQ a1 b1, strQ na nb, cmpQ a2 b2, cmpQ a3 b3, cmpQ a4 b4] _ (ints_five (by simp) (by simp) (by simp) (by simp) (by simp))).mono ?_; rintro e w' ⟨rfl, rfl⟩
  go_wp2
  go_ret
  exact ⟨rfl, 1, #[_, _, _], by rw [W0.out]; simp only [alloc_eq_grow, drew_grow, grow_grow]; rfl⟩

theorem orQ_cons (x : Int) (L : List Int) : orQ (x :: L) = if x = 0 then orQ L else x := by
  unfold orQ
  by_cases h : x = 0
  · rw [if_pos h, List.find?_cons_of_neg (by simp [h])]
  · rw [if_neg h, List.find?_cons_of_pos (by simpa using h)]; rfl

theorem orQ_nil : orQ [] = 0 := rfl

theorem cmpQ_way (a b : Int) : (cmpQ a b = -1 ∧ a < b) ∨ (cmpQ a b = 1 ∧ b < a) ∨ (cmpQ a b = 0 ∧ a = b) := by
  unfold cmpQ
  by_cases h1 : a < b
  · exact .inl ⟨if_pos h1, h1⟩
  · by_cases h2 : b < a
    · exact .inr (.inl ⟨by rw [if_neg h1, if_pos h2], h2⟩)
    · exact .inr (.inr ⟨by rw [if_neg h1, if_neg h2], by omega⟩)

/-- how one ring stands to another one of its event. -/
def ringC (x y : Rng) : Int := orQ [cmpQ x.1 y.1, 0, cmpQ x.2.1 y.2.1, cmpQ x.2.2.1 y.2.2.1, cmpQ x.2.2.2 y.2.2.2]

theorem ringC_lt (x y : Rng) : ringC x y < 0 ↔ Lt4 x y := by
  unfold ringC Lt4
  simp only [orQ_cons, orQ_nil, if_true]
  rcases cmpQ_way x.1 y.1 with ⟨e1, h1⟩ | ⟨e1, h1⟩ | ⟨e1, h1⟩
  · rw [e1, if_neg (by decide)]; omega
  · rw [e1, if_neg (by decide)]; omega
  rw [e1, if_pos rfl]
  rcases cmpQ_way x.2.1 y.2.1 with ⟨e2, h2⟩ | ⟨e2, h2⟩ | ⟨e2, h2⟩
  · rw [e2, if_neg (by decide)]; omega
  · rw [e2, if_neg (by decide)]; omega
  rw [e2, if_pos rfl]
  rcases cmpQ_way x.2.2.1 y.2.2.1 with ⟨e3, h3⟩ | ⟨e3, h3⟩ | ⟨e3, h3⟩
  · rw [e3, if_neg (by decide)]; omega
  · rw [e3, if_neg (by decide)]; omega
  rw [e3, if_pos rfl]
  rcases cmpQ_way x.2.2.2 y.2.2.2 with ⟨e4, h4⟩ | ⟨e4, h4⟩ | ⟨e4, h4⟩
  · rw [e4, if_neg (by decide)]; omega
  · rw [e4, if_neg (by decide)]; omega
  · rw [e4, if_pos rfl]; omega

theorem ringLt (x y : Rng) : ltOf ringC x y = true ↔ Lt4 x y := by
  rw [ltOf, decide_eq_true_eq, ringC_lt]

theorem ringLt_no (x y : Rng) : ltOf ringC x y = false ↔ ¬ Lt4 x y := by
  rw [ltOf, decide_eq_false_iff_not, ringC_lt]

theorem ringSWO : SWO (ltOf ringC) where
  irrefl x := by rw [ringLt_no]; exact lt4_irr x
  trans x y z h1 h2 := by rw [ringLt] at *; exact lt4_trans h1 h2
  ntrans x y z h1 h2 := by rw [ringLt_no] at *; unfold Lt4 at *; omega

theorem ringTot (x y : Rng) (h1 : ltOf ringC x y = false) (h2 : ltOf ringC y x = false) : x = y := by
  rw [ringLt_no] at h1 h2
  unfold Lt4 at h1 h2
  exact Prod.ext (by omega) (Prod.ext (by omega) (Prod.ext (by omega) (by omega)))

theorem srtR_eq (L : List Rng) : (L.mergeSort fun x y => !(ltOf ringC) y x) = srtR L := by
  have : (fun x y => !(ltOf ringC) y x) = leR := by
    funext x y
    rw [Bool.eq_iff_iff, leR_iff, Bool.not_eq_true', ringLt_no]
  rw [this]; rfl

/-- a ring as cells: when, of whom, of which time, of which alarm, which turn. -/
def encR (nm : ByteArray) (x : Rng) : List Value := [.int .i64 x.1, .string nm, .int .i64 x.2.1, .int .i64 x.2.2.1, .int .i64 x.2.2.2]

/-- rings of one's own. -/
def OwnR (nm : ByteArray) (B : Nat) (w : World) (v : Value) (L : List Rng) : Prop := w.ownsRow B 66 5 v L.length (L.flatMap (encR nm))

theorem ringC_any (nm : ByteArray) (x y : Rng) (w : World) :
    Calls Tryz.prog 34 #[.agg (encR nm x).toArray, .agg (encR nm y).toArray] w fun e w' => e = .returned (.int .i64 (ringC x y)) ∧ ∃ q os, w' = grow (w.drewN q) os := by
  have h := rorder_any x.1 nm x.2.1 x.2.2.1 x.2.2.2 y.1 nm y.2.1 y.2.2.1 y.2.2.2 w
  rw [strQ_self] at h
  exact h

theorem sortR_any {base : Nat} (nm : ByteArray) (v : Value) (L : List Rng) (w : World) (hown : OwnR nm base w v L) (hlen : L.length < 4611686018427387904) :
    Calls Tryz.prog 95 #[v, .func (.func 34) #[] #[]] w fun e w' => e = .returned (.tuple #[]) ∧ OwnR nm base w' v (srtR L) ∧ w.grownBy w' v.ownBlock := by
  have hk : ∀ x : Rng, (encR nm x).length = 5 := fun _ => rfl
  have hown0 := hown
  rcases hown.2 with ⟨rfl, h0⟩ | ⟨g, cap, cur, rfl, hb, hg, hn, hc, hs, ht⟩
  · obtain rfl : L = [] := List.length_eq_zero_iff.1 h0
    refine (show Calls Tryz.prog 95 _ _ _ from AnyF.slices_SortFunc_none Tryz.sortRing none 0 _ w).mono fun e w' ⟨h1, h2⟩ => ?_
    subst h2
    exact ⟨h1, by rw [show srtR [] = [] by simp [srtR]]; exact hown0, World.grownBy.refl _ _⟩
  · have hgl : g < w.heap.size := (Array.getElem?_eq_some_iff.1 hg).1
    have hH : HoldsK (encR nm) 5 w g 0 L.toArray := holdsK_own hk L hg ht
    have eg : ∀ args w, (callFunc 34 args).run Tryz.prog w = .ok (.enter 34 args) w := enters_of Tryz.func34 (by kernel_rfl) rfl
    have hcmp : CmpLays Tryz.prog 34 #[] (encR nm) 5 ringC g 0 L.toArray.size w := fun _ _ _ _ x y => ringC_any nm x y _
    have h := AnyQ.slices_SortFunc_total Tryz.sortRing 5 Tryz.isAgg66 Tryz.sizeOf66 (encR nm) hk (fun x u hu => by simp [encR] at hu; rcases hu with rfl | rfl | rfl | rfl | rfl <;> rfl) ringC ringSWO 34 #[] g 0 cap L.toArray w eg hcmp hH hgl (by simpa using hlen) ringTot
    change Calls Tryz.prog 95 _ _ _ at h
    refine h.mono ?_
    rintro e w' ⟨rfl, n, os, rfl⟩
    refine ⟨rfl, ?_, grownBy_putId _⟩
    have := ownsRow_sortedK (e := 66) (os := os) (n := n) hk (srtR L) (srtR_len L) hb hg hn hc hs
    unfold OwnR
    rw [srtR_len]
    simpa [srtR_eq] using this

end Go.Proofs.YtgelojhpanbnaaaGreatDoor

namespace Go.Proofs.YtgelojhpanbnaaaGreatDoor
open Go.RowKit Go.Shelf
set_option linter.unusedSimpArgs false
set_option linter.unusedVariables false

/-- a ring: when, whose, of which time, of which alarm, which turn. -/
abbrev RngX := Int × ByteArray × Int × Int × Int

theorem cmpB_way : ∀ a b : List UInt8, (Lib.compareBytes a b = -1 ∧ Op.bytesLess a b = true ∧ Op.bytesLess b a = false ∧ a ≠ b) ∨ (Lib.compareBytes a b = 1 ∧ Op.bytesLess a b = false ∧ Op.bytesLess b a = true ∧ a ≠ b) ∨ (Lib.compareBytes a b = 0 ∧ Op.bytesLess a b = false ∧ Op.bytesLess b a = false ∧ a = b)
  | [], [] => by simp [Lib.compareBytes, Op.bytesLess]
  | [], _ :: _ => by simp [Lib.compareBytes, Op.bytesLess]
  | _ :: _, [] => by simp [Lib.compareBytes, Op.bytesLess]
  | a :: x, b :: y => by
    rw [Lib.compareBytes, Op.bytesLess, Op.bytesLess]
    by_cases h1 : a < b
    · have h2 : ¬ b < a := UInt8.lt_asymm h1
      have h3 : a ≠ b := fun e => UInt8.lt_irrefl b (e ▸ h1)
      have h4 : b ≠ a := Ne.symm h3
      simp [h1, h2, h3, h4]
    · by_cases h2 : b < a
      · have h3 : a ≠ b := fun e => UInt8.lt_irrefl b (e ▸ h2)
        have h4 : b ≠ a := Ne.symm h3
        simp [h1, h2, h3, h4]
      · have h3 : a = b := UInt8.le_antisymm (UInt8.not_lt.1 h2) (UInt8.not_lt.1 h1)
        subst h3
        have ih := cmpB_way x y
        simp [h1]
        simpa using ih

theorem strQ_way (a b : ByteArray) : (strQ a b = -1 ∧ Op.bytesLess a.toList b.toList = true ∧ Op.bytesLess b.toList a.toList = false ∧ a ≠ b) ∨ (strQ a b = 1 ∧ Op.bytesLess a.toList b.toList = false ∧ Op.bytesLess b.toList a.toList = true ∧ a ≠ b) ∨ (strQ a b = 0 ∧ Op.bytesLess a.toList b.toList = false ∧ Op.bytesLess b.toList a.toList = false ∧ a = b) := by
  have h := cmpB_way a.data.toList b.data.toList
  rw [Lib.toList_data, Lib.toList_data]
  have e : a.data.toList = b.data.toList ↔ a = b := ⟨fun h => by rw [← bs_data a, ← bs_data b, h], fun h => by rw [h]⟩
  rw [e, Ne, e] at h
  exact h

theorem less_trans : ∀ {a b c : List UInt8}, Op.bytesLess a b = true → Op.bytesLess b c = true → Op.bytesLess a c = true
  | _, [], _, h, _ => by simp [Op.bytesLess] at h
  | _, _ :: _, [], _, h => by simp [Op.bytesLess] at h
  | [], _ :: _, _ :: _, _, _ => by simp [Op.bytesLess]
  | a :: x, b :: y, c :: z, h1, h2 => by
    rw [Op.bytesLess] at h1 h2 ⊢
    simp only [Bool.or_eq_true, Bool.and_eq_true, decide_eq_true_eq, beq_iff_eq] at h1 h2 ⊢
    rcases h1 with h1 | ⟨rfl, h1⟩
    · rcases h2 with h2 | ⟨rfl, h2⟩
      · exact .inl (UInt8.lt_trans h1 h2)
      · exact .inl h1
    · rcases h2 with h2 | ⟨rfl, h2⟩
      · exact .inl h2
      · exact .inr ⟨rfl, less_trans h1 h2⟩

theorem strQ_trans {a b c : ByteArray} (h1 : strQ a b < 0) (h2 : strQ b c < 0) : strQ a c < 0 := by
  have k1 : Op.bytesLess a.toList b.toList = true := by
    rcases strQ_way a b with h | h | h
    · exact h.2.1
    · omega
    · omega
  have k2 : Op.bytesLess b.toList c.toList = true := by
    rcases strQ_way b c with h | h | h
    · exact h.2.1
    · omega
    · omega
  have k3 := less_trans k1 k2
  rcases strQ_way a c with h | h | h
  · omega
  · rw [h.2.1] at k3; cases k3
  · rw [h.2.1] at k3; cases k3

/-- how one ring stands to another. -/
def ordX (x y : RngX) : Int := orQ [cmpQ x.1 y.1, strQ x.2.1 y.2.1, cmpQ x.2.2.1 y.2.2.1, cmpQ x.2.2.2.1 y.2.2.2.1, cmpQ x.2.2.2.2 y.2.2.2.2]

/-- .. as numbers. -/
theorem ordX_eq (x y : RngX) : ordX x y = if cmpQ x.1 y.1 ≠ 0 then cmpQ x.1 y.1 else if strQ x.2.1 y.2.1 ≠ 0 then strQ x.2.1 y.2.1 else if cmpQ x.2.2.1 y.2.2.1 ≠ 0 then cmpQ x.2.2.1 y.2.2.1 else if cmpQ x.2.2.2.1 y.2.2.2.1 ≠ 0 then cmpQ x.2.2.2.1 y.2.2.2.1 else cmpQ x.2.2.2.2 y.2.2.2.2 := by
  unfold ordX
  rw [orQ_cons, orQ_cons, orQ_cons, orQ_cons, orQ_cons, orQ_nil]
  by_cases h1 : cmpQ x.1 y.1 = 0
  · by_cases h2 : strQ x.2.1 y.2.1 = 0
    · by_cases h3 : cmpQ x.2.2.1 y.2.2.1 = 0
      · by_cases h4 : cmpQ x.2.2.2.1 y.2.2.2.1 = 0
        · by_cases h5 : cmpQ x.2.2.2.2 y.2.2.2.2 = 0 <;> simp [h1, h2, h3, h4, h5]
        · simp [h1, h2, h3, h4]
      · simp [h1, h2, h3]
    · simp [h1, h2]
  · simp [h1]

/-- one ring ahead of another one. -/
def LtX (x y : RngX) : Prop := x.1 < y.1 ∨ (x.1 = y.1 ∧ (strQ x.2.1 y.2.1 < 0 ∨ (x.2.1 = y.2.1 ∧ (x.2.2.1 < y.2.2.1 ∨ (x.2.2.1 = y.2.2.1 ∧ (x.2.2.2.1 < y.2.2.2.1 ∨ (x.2.2.2.1 = y.2.2.2.1 ∧ x.2.2.2.2 < y.2.2.2.2)))))))

theorem ordX_way (x y : RngX) : (ordX x y = -1 ∧ LtX x y) ∨ (ordX x y = 1 ∧ LtX y x) ∨ (ordX x y = 0 ∧ x = y) := by
  obtain ⟨a1, na, a2, a3, a4⟩ := x
  obtain ⟨b1, nb, b2, b3, b4⟩ := y
  rw [ordX_eq]
  unfold LtX
  simp only
  rcases cmpQ_way a1 b1 with ⟨e1, l1⟩ | ⟨e1, l1⟩ | ⟨e1, rfl⟩
  · exact .inl ⟨by simp [e1], .inl l1⟩
  · exact .inr (.inl ⟨by simp [e1], .inl l1⟩)
  · rcases strQ_way na nb with ⟨e2, l2, -, -⟩ | ⟨e2, -, l2, n2⟩ | ⟨e2, -, -, rfl⟩
    · exact .inl ⟨by simp [e1, e2], .inr ⟨rfl, .inl (by omega)⟩⟩
    · have h : strQ nb na < 0 := by
        rcases strQ_way nb na with h | h | h
        · omega
        · rw [l2] at h; cases h.2.1
        · exact absurd h.2.2.2.symm n2
      exact .inr (.inl ⟨by simp [e1, e2], .inr ⟨rfl, .inl h⟩⟩)
    · rcases cmpQ_way a2 b2 with ⟨e3, l3⟩ | ⟨e3, l3⟩ | ⟨e3, rfl⟩
      · exact .inl ⟨by simp [e1, e2, e3], .inr ⟨rfl, .inr ⟨rfl, .inl l3⟩⟩⟩
      · exact .inr (.inl ⟨by simp [e1, e2, e3], .inr ⟨rfl, .inr ⟨rfl, .inl l3⟩⟩⟩)
      · rcases cmpQ_way a3 b3 with ⟨e4, l4⟩ | ⟨e4, l4⟩ | ⟨e4, rfl⟩
        · exact .inl ⟨by simp [e1, e2, e3, e4], .inr ⟨rfl, .inr ⟨rfl, .inr ⟨rfl, .inl l4⟩⟩⟩⟩
        · exact .inr (.inl ⟨by simp [e1, e2, e3, e4], .inr ⟨rfl, .inr ⟨rfl, .inr ⟨rfl, .inl l4⟩⟩⟩⟩)
        · rcases cmpQ_way a4 b4 with ⟨e5, l5⟩ | ⟨e5, l5⟩ | ⟨e5, rfl⟩
          · exact .inl ⟨by simp [e1, e2, e3, e4, e5], .inr ⟨rfl, .inr ⟨rfl, .inr ⟨rfl, .inr ⟨rfl, l5⟩⟩⟩⟩⟩
          · exact .inr (.inl ⟨by simp [e1, e2, e3, e4, e5], .inr ⟨rfl, .inr ⟨rfl, .inr ⟨rfl, .inr ⟨rfl, l5⟩⟩⟩⟩⟩)
          · exact .inr (.inr ⟨by simp [e1, e2, e3, e4, e5], rfl⟩)

theorem ltX_irr (x : RngX) : ¬ LtX x x := by
  unfold LtX
  have := strQ_self x.2.1
  omega

theorem ltX_trans {x y z : RngX} (h1 : LtX x y) (h2 : LtX y z) : LtX x z := by
  obtain ⟨a1, na, a2, a3, a4⟩ := x
  obtain ⟨b1, nb, b2, b3, b4⟩ := y
  obtain ⟨c1, nc, c2, c3, c4⟩ := z
  unfold LtX at *
  simp only at *
  rcases h1 with h1 | ⟨rfl, h1⟩
  · exact .inl (by omega)
  rcases h2 with h2 | ⟨rfl, h2⟩
  · exact .inl h2
  refine .inr ⟨rfl, ?_⟩
  rcases h1 with h1 | ⟨rfl, h1⟩
  · rcases h2 with h2 | ⟨rfl, h2⟩
    · exact .inl (strQ_trans h1 h2)
    · exact .inl h1
  rcases h2 with h2 | ⟨rfl, h2⟩
  · exact .inl h2
  exact .inr ⟨rfl, by omega⟩

theorem ordX_lt (x y : RngX) : ordX x y < 0 ↔ LtX x y := by
  rcases ordX_way x y with ⟨e, h⟩ | ⟨e, h⟩ | ⟨e, rfl⟩
  · exact ⟨fun _ => h, fun _ => by omega⟩
  · exact ⟨fun h2 => by omega, fun h2 => absurd (ltX_trans h h2) (ltX_irr _)⟩
  · exact ⟨fun h2 => by omega, fun h2 => absurd h2 (ltX_irr _)⟩

theorem ordX_gt (x y : RngX) : 0 < ordX x y ↔ LtX y x := by
  rcases ordX_way x y with ⟨e, h⟩ | ⟨e, h⟩ | ⟨e, rfl⟩
  · exact ⟨fun h2 => by omega, fun h2 => absurd (ltX_trans h h2) (ltX_irr _)⟩
  · exact ⟨fun _ => h, fun _ => by omega⟩
  · exact ⟨fun h2 => by omega, fun h2 => absurd h2 (ltX_irr _)⟩

theorem ordX_0 (x y : RngX) : ordX x y = 0 ↔ x = y := by
  rcases ordX_way x y with ⟨e, h⟩ | ⟨e, h⟩ | ⟨e, rfl⟩
  · exact ⟨fun h2 => by omega, fun h2 => by subst h2; exact absurd h (ltX_irr _)⟩
  · exact ⟨fun h2 => by omega, fun h2 => by subst h2; exact absurd h (ltX_irr _)⟩
  · exact ⟨fun _ => rfl, fun _ => e⟩

theorem ltX_tot {x y : RngX} (h1 : ¬ LtX y x) (h2 : x ≠ y) : LtX x y := by
  rcases ordX_way x y with ⟨e, h⟩ | ⟨e, h⟩ | ⟨e, rfl⟩
  · exact h
  · exact absurd h h1
  · exact absurd rfl h2

open Classical in
/-- a ring put into a list by order, once. -/
noncomputable def putX (l : List RngX) (r : RngX) : List RngX := if r ∈ l then l else l.filter (fun x => decide (¬ LtX r x)) ++ r :: l.filter (fun x => decide (LtX r x))

theorem putX_mem {l : List RngX} {r x : RngX} : x ∈ putX l r ↔ x ∈ l ∨ x = r := by
  classical
  unfold putX
  by_cases h : r ∈ l
  · rw [if_pos h]
    exact ⟨.inl, fun hx => by rcases hx with hx | rfl; exact hx; exact h⟩
  · rw [if_neg h]
    simp only [List.mem_append, List.mem_cons, List.mem_filter, decide_eq_true_eq]
    constructor
    · rintro (⟨h1, -⟩ | rfl | ⟨h1, -⟩)
      · exact .inl h1
      · exact .inr rfl
      · exact .inl h1
    · rintro (h1 | rfl)
      · by_cases h2 : LtX r x
        · exact .inr (.inr ⟨h1, h2⟩)
        · exact .inl ⟨h1, h2⟩
      · exact .inr (.inl rfl)

theorem putX_ord {l : List RngX} {r : RngX} (h : l.Pairwise LtX) : (putX l r).Pairwise LtX := by
  classical
  unfold putX
  by_cases hn : r ∈ l
  · rw [if_pos hn]; exact h
  · rw [if_neg hn]
    refine List.pairwise_append.2 ⟨h.filter _, List.pairwise_cons.2 ⟨fun x hx => ?_, h.filter _⟩, fun x hx y hy => ?_⟩
    · simpa using (List.mem_filter.1 hx).2
    · have h1 : ¬ LtX r x := by simpa using (List.mem_filter.1 hx).2
      have h2 : x ≠ r := fun he => hn (he ▸ (List.mem_filter.1 hx).1)
      have h3 : LtX x r := ltX_tot h1 h2
      rcases List.mem_cons.1 hy with rfl | hy
      · exact h3
      · exact ltX_trans h3 (by simpa using (List.mem_filter.1 hy).2)

open Classical in
/-- by the place where the search ends. -/
theorem putX_at {l : List RngX} {r : RngX} {k : Nat} (hk : k ≤ l.length) (h1 : ∀ i (hi : i < l.length), k ≤ i → LtX r l[i]) (h2 : ∀ i (hi : i < l.length), i < k → ¬ LtX r l[i]) :
    putX l r = if r ∈ l then l else l.take k ++ r :: l.drop k := by
  classical
  unfold putX
  by_cases hn : r ∈ l
  · rw [if_pos hn, if_pos hn]
  · rw [if_neg hn, if_neg hn]
    have e1 : (l.take k).filter (fun x => decide (¬ LtX r x)) = l.take k := List.filter_eq_self.2 fun x hx => by
      obtain ⟨i, hi, rfl⟩ := List.mem_iff_getElem.1 hx
      rw [List.length_take] at hi
      rw [List.getElem_take]
      simpa using h2 i (by omega) (by omega)
    have e2 : (l.drop k).filter (fun x => decide (¬ LtX r x)) = [] := List.filter_eq_nil_iff.2 fun x hx => by
      obtain ⟨i, hi, rfl⟩ := List.mem_iff_getElem.1 hx
      rw [List.length_drop] at hi
      rw [List.getElem_drop]
      simpa using h1 (k + i) (by omega) (by omega)
    have e3 : (l.take k).filter (fun x => decide (LtX r x)) = [] := List.filter_eq_nil_iff.2 fun x hx => by
      obtain ⟨i, hi, rfl⟩ := List.mem_iff_getElem.1 hx
      rw [List.length_take] at hi
      rw [List.getElem_take]
      simpa using h2 i (by omega) (by omega)
    have e4 : (l.drop k).filter (fun x => decide (LtX r x)) = l.drop k := List.filter_eq_self.2 fun x hx => by
      obtain ⟨i, hi, rfl⟩ := List.mem_iff_getElem.1 hx
      rw [List.length_drop] at hi
      rw [List.getElem_drop]
      simpa using h1 (k + i) (by omega) (by omega)
    have f1 : l.filter (fun x => decide (¬ LtX r x)) = l.take k := by
      conv => lhs; rw [← List.take_append_drop k l]
      rw [List.filter_append, e1, e2, List.append_nil]
    have f2 : l.filter (fun x => decide (LtX r x)) = l.drop k := by
      conv => lhs; rw [← List.take_append_drop k l]
      rw [List.filter_append, e3, e4, List.nil_append]
    rw [f1, f2]

theorem putX_len (l : List RngX) (r : RngX) : (putX l r).length ≤ l.length + 1 := by
  classical
  unfold putX
  by_cases hn : r ∈ l
  · rw [if_pos hn]; omega
  · rw [if_neg hn, List.length_append, List.length_cons]
    have h : ∀ m : List RngX, (m.filter (fun x => decide (¬ LtX r x))).length + (m.filter (fun x => decide (LtX r x))).length = m.length := fun m => by
      induction m with
      | nil => rfl
      | cons x m ih => by_cases hx : LtX r x <;> simp [hx] <;> simp at ih <;> omega
    have := h l; omega

/-- a ring of one event, with its name. -/
def wnX (nm : ByteArray) (r : Rng) : RngX := (r.1, nm, r.2.1, r.2.2.1, r.2.2.2)

theorem wnX_lt {nm : ByteArray} {x y : Rng} : LtX (wnX nm x) (wnX nm y) ↔ Lt4 x y := by
  unfold LtX Lt4 wnX
  have := strQ_self nm
  simp only
  constructor
  · rintro (h | ⟨h1, h | ⟨-, h⟩⟩)
    · exact .inl h
    · omega
    · exact .inr ⟨h1, h⟩
  · rintro (h | ⟨h1, h⟩)
    · exact .inl h
    · exact .inr ⟨h1, .inr ⟨by first | trivial | rfl, h⟩⟩

theorem wnX_inj {nm : ByteArray} {x y : Rng} (h : wnX nm x = wnX nm y) : x = y := by
  unfold wnX at h
  simp only [Prod.mk.injEq] at h
  exact Prod.ext h.1 (Prod.ext h.2.2.1 (Prod.ext h.2.2.2.1 h.2.2.2.2))

/-- rings put in, one by one: those, in order. -/
theorem foldX_mem : ∀ (M B : List RngX) (x : RngX), x ∈ M.foldl putX B ↔ x ∈ B ∨ x ∈ M
  | [], B, x => by simp
  | m :: M, B, x => by
    rw [List.foldl_cons, foldX_mem M (putX B m) x, putX_mem, List.mem_cons]
    constructor
    · rintro ((h | h) | h)
      · exact .inl h
      · exact .inr (.inl h)
      · exact .inr (.inr h)
    · rintro (h | h | h)
      · exact .inl (.inl h)
      · exact .inl (.inr h)
      · exact .inr h

theorem foldX_ord : ∀ (M B : List RngX), B.Pairwise LtX → (M.foldl putX B).Pairwise LtX
  | [], _, h => h
  | m :: M, B, h => foldX_ord M (putX B m) (putX_ord h)

theorem foldX_len : ∀ (M B : List RngX), (M.foldl putX B).length ≤ B.length + M.length
  | [], B => by simp
  | m :: M, B => by
    have h1 := foldX_len M (putX B m)
    have h2 := putX_len B m
    rw [List.foldl_cons, List.length_cons]; omega

/-- rings of one event, put in one by one, are they in order. -/
theorem foldX_sort (nm : ByteArray) {U : List Rng} (hn : U.Nodup) : (U.map (wnX nm)).foldl putX [] = (srtR U).map (wnX nm) := by
  refine ord_ext ltX_irr ltX_trans _ _ (foldX_ord _ _ List.Pairwise.nil) ?_ fun x => ?_
  · exact List.Pairwise.map (wnX nm) (fun a b h => wnX_lt.2 h) (srtR_ord hn)
  · rw [foldX_mem]
    simp only [List.not_mem_nil, false_or, List.mem_map]
    exact ⟨fun ⟨a, ha, e⟩ => ⟨a, by unfold srtR; rw [List.mem_mergeSort]; exact ha, e⟩, fun ⟨a, ha, e⟩ => ⟨a, by unfold srtR at ha; rw [List.mem_mergeSort] at ha; exact ha, e⟩⟩

end Go.Proofs.YtgelojhpanbnaaaGreatDoor

namespace Go.Proofs.YtgelojhpanbnaaaGreatDoor
open Go.RowKit Go.Shelf
set_option linter.unusedSimpArgs false
set_option linter.unusedVariables false

/-- a ring as cells. -/
def encX (x : RngX) : List Value := [.int .i64 x.1, .string x.2.1, .int .i64 x.2.2.1, .int .i64 x.2.2.2.1, .int .i64 x.2.2.2.2]

theorem orQ_skip {x : Int} {L : List Int} (h : x = 0) : orQ (x :: L) = orQ L := by rw [orQ_cons, if_pos h]

theorem orQ_hit {x : Int} {L : List Int} (h : x ≠ 0) : orQ (x :: L) = x := by rw [orQ_cons, if_neg h]

/-- the k-th of two rows of five that differ. -/
theorem five_round {X Y : List Int} {k : Nat} (h1 : X.length = 5) (h2 : Y.length = 5) (hk : k < 5) : orQ ((List.zipWith cmpQ X Y).drop k) = if cmpQ (X[k]'(by omega)) (Y[k]'(by omega)) = 0 then orQ ((List.zipWith cmpQ X Y).drop (k + 1)) else cmpQ (X[k]'(by omega)) (Y[k]'(by omega)) := by
  have hl : (List.zipWith cmpQ X Y).length = 5 := by rw [List.length_zipWith, h1, h2]; rfl
  rw [List.drop_eq_getElem_cons (by omega), orQ_cons, List.getElem_zipWith]

theorem five_cells {w : World} {b : Nat} {x1 x2 x3 x4 x5 : Int} {t : TypeId} (h : w.heap[b]? = some (.cells #[.int .i64 x1, .int .i64 x2, .int .i64 x3, .int .i64 x4, .int .i64 x5] t (0, 0))) : IntsR w (.slice (some ⟨b, 0, none⟩) 5 5) [x1, x2, x3, x4, x5] := by
  refine ints_five ?_ ?_ ?_ ?_ ?_ <;> simp [World.cell?, h]

set_option maxRecDepth 100000 in
set_option maxHeartbeats 4000000 in
theorem rord_any (a1 : Int) (na : ByteArray) (a2 a3 a4 b1 : Int) (nb : ByteArray) (b2 b3 b4 : Int) (w : World) :
    Calls Tryz.prog 35 #[.agg #[.int .i64 a1, .string na, .int .i64 a2, .int .i64 a3, .int .i64 a4], .agg #[.int .i64 b1, .string nb, .int .i64 b2, .int .i64 b3, .int .i64 b4]] w
      fun e w' => e = .returned (.int .i64 (ordX (a1, na, a2, a3, a4) (b1, nb, b2, b3, b4))) ∧ Below w.heap.size w w' := by
  obtain ⟨pb, hpb⟩ : ∃ p, p = w.heap.size := ⟨_, rfl⟩
  obtain ⟨w0, hw0⟩ : ∃ w0, w0 = (w.alloc (.cells #[.int .i64 a1, .string na, .int .i64 a2, .int .i64 a3, .int .i64 a4] 66)).alloc (.cells #[.int .i64 b1, .string nb, .int .i64 b2, .int .i64 b3, .int .i64 b4] 66) := ⟨_, rfl⟩
  have c0 : w0.cell? ⟨pb, 0, none⟩ = some (.int .i64 a1) := by rw [hw0, hpb]; simp
  have c1 : w0.cell? ⟨pb, 1, none⟩ = some (.string na) := by rw [hw0, hpb]; simp
  have c2 : w0.cell? ⟨pb, 2, none⟩ = some (.int .i64 a2) := by rw [hw0, hpb]; simp
  have c3 : w0.cell? ⟨pb, 3, none⟩ = some (.int .i64 a3) := by rw [hw0, hpb]; simp
  have c4 : w0.cell? ⟨pb, 4, none⟩ = some (.int .i64 a4) := by rw [hw0, hpb]; simp
  have d0 : w0.cell? ⟨pb + 1, 0, none⟩ = some (.int .i64 b1) := by rw [hw0, hpb]; simp
  have d1 : w0.cell? ⟨pb + 1, 1, none⟩ = some (.string nb) := by rw [hw0, hpb]; simp
  have d2 : w0.cell? ⟨pb + 1, 2, none⟩ = some (.int .i64 b2) := by rw [hw0, hpb]; simp
  have d3 : w0.cell? ⟨pb + 1, 3, none⟩ = some (.int .i64 b3) := by rw [hw0, hpb]; simp
  have d4 : w0.cell? ⟨pb + 1, 4, none⟩ = some (.int .i64 b4) := by rw [hw0, hpb]; simp
  have B0 := Lib.hid (show Below w.heap.size w w0 by rw [hw0]; exact ((Below.refl _ _).alloc (Nat.le_refl _) _).alloc (by simp) _)
  have hq1 : pb + 1 < w0.heap.size := World.block_lt_of_cell? w0 _ d0
  have hq0 : pb < w0.heap.size := by omega
  have W0 := Lib.hid hw0; have PB := Lib.hid hpb
  have C1 := Lib.hid c1; have D1 := Lib.hid d1
  obtain ⟨lt, hlt⟩ : ∃ b, b = Op.bytesLess na.toList nb.toList := ⟨_, rfl⟩
  obtain ⟨gt, hgt⟩ : ∃ b, b = (!Op.bytesLess na.toList nb.toList && !na.toList == nb.toList) := ⟨_, rfl⟩
  obtain ⟨x2, hx2⟩ : ∃ x : Int, x = if gt = true then 1 else 0 := ⟨_, rfl⟩
  obtain ⟨y2, hy2⟩ : ∃ x : Int, x = if lt = true then 1 else 0 := ⟨_, rfl⟩
  have HX := Lib.hid hx2; have HY := Lib.hid hy2
  have QE := Lib.hid (show ordX (a1, na, a2, a3, a4) (b1, nb, b2, b3, b4) = orQ (List.zipWith cmpQ [a1, x2, a2, a3, a4] [b1, y2, b2, b3, b4]) by
    have h : strQ na nb = cmpQ x2 y2 := by
      rw [hx2, hy2, hlt, hgt]
      rcases strQ_way na nb with ⟨e, l1, l2, l3⟩ | ⟨e, l1, l2, l3⟩ | ⟨e, l1, l2, l3⟩
      · rw [e, l1]; simp [cmpQ]
      · have h : (na.toList == nb.toList) = false := by
          rw [beq_eq_false_iff_ne, Lib.toList_data, Lib.toList_data]
          exact fun h => l3 (by rw [← bs_data na, ← bs_data nb, h])
        rw [e, l1, h]; simp [cmpQ]
      · subst l3
        rw [e, l1, beq_self_eq_true]; simp [cmpQ]
    unfold ordX
    simp only [List.zipWith]
    rw [h])
  obtain ⟨RS, hRS⟩ : ∃ z, z = ordX (a1, na, a2, a3, a4) (b1, nb, b2, b3, b4) := ⟨_, rfl⟩
  rw [← hRS] at QE ⊢
  have LT := Lib.hid hlt; have GT := Lib.hid hgt
  clear hw0 hpb hx2 hy2 hRS hlt hgt
  go_enter Tryz.func35, Tryz.ntmps35
  go_upto_region 1 with fail
  rw [← W0.out, ← PB.out]
  obtain ⟨xb, hxb⟩ : ∃ x, x = w0.heap.size := ⟨_, rfl⟩
  obtain ⟨w2, hw2⟩ : ∃ x, x = (w0.alloc (.cells #[.int .i64 a1, .int .i64 0, .int .i64 a2, .int .i64 a3, .int .i64 a4] 3)).alloc (.cells #[.int .i64 b1, .int .i64 0, .int .i64 b2, .int .i64 b3, .int .i64 b4] 3) := ⟨_, rfl⟩
  have XB := Lib.hid (show w2.heap[xb]? = some (.cells #[.int .i64 a1, .int .i64 0, .int .i64 a2, .int .i64 a3, .int .i64 a4] 3 (0, 0)) by rw [hw2, hxb]; exact (((Below.refl _ _).alloc (Nat.le_refl _) _).block w0.heap.size (by simp)).trans (heap_alloc_new _ _))
  have YB := Lib.hid (show w2.heap[xb + 1]? = some (.cells #[.int .i64 b1, .int .i64 0, .int .i64 b2, .int .i64 b3, .int .i64 b4] 3 (0, 0)) by rw [hw2, hxb]; have h := heap_alloc_new (w0.alloc (.cells #[.int .i64 a1, .int .i64 0, .int .i64 a2, .int .i64 a3, .int .i64 a4] 3)) (.cells #[.int .i64 b1, .int .i64 0, .int .i64 b2, .int .i64 b3, .int .i64 b4] 3); rw [World.size_alloc] at h; exact h)
  have B2 := Lib.hid (show Below w0.heap.size w0 w2 by rw [hw2]; exact ((Below.refl _ _).alloc (Nat.le_refl _) _).alloc (by simp) _)
  have W2 := Lib.hid hw2; have XE := Lib.hid hxb
  go_upto_region 3 with fail
  rw [← W2.out, ← XE.out]
  clear hw2 hxb c0 c2 c3 c4 d0 d2 d3 d4
  have c1 := cell_below B2.out C1.out
  have d1 := cell_below B2.out D1.out
  go_upto_if 30 with fail
  rw [← LT.out]
  clear c1 d1
  go_cut [] (fun wx => wx.heap[xb]? = some (.cells #[.int .i64 a1, .int .i64 0, .int .i64 a2, .int .i64 a3, .int .i64 a4] 3 (0, 0)) ∧ wx.heap[xb + 1]? = some (.cells #[.int .i64 b1, .int .i64 y2, .int .i64 b2, .int .i64 b3, .int .i64 b4] 3 (0, 0)) ∧ Below w0.heap.size w0 wx)
  case first => as_aux_lemma =>
    cases lt
    · have e : y2 = 0 := by rw [HY.out]; rfl
      subst e
      go_wp2
      go_meet
      exact ⟨XB.out, YB.out, B2.out⟩
    · have e : y2 = 1 := by rw [HY.out]; rfl
      subst e
      have f0 : w2.cell? ⟨xb + 1, 1, none⟩ = some (.int .i64 0) := by simp [World.cell?, YB.out]
      have f1 : w2.frozen? ⟨xb + 1, 1, none⟩ = false := by simp [World.frozen?, YB.out]
      have Y2 := Lib.hid (heap_setCell_same w2 (xb + 1) 1 _ _ (.int .i64 1) YB.out)
      have X2 := Lib.hid ((heap_setCell_other w2 ⟨xb + 1, 1, none⟩ xb (.int .i64 1) (by simp)).trans XB.out)
      have B3 := Lib.hid (B2.out.setCell (p := ⟨xb + 1, 1, none⟩) (by rw [← XE.out]; exact Nat.le_succ _) (.int .i64 1))
      go_wp2
      go_meet
      exact ⟨X2.out, by simpa using Y2.out, B3.out⟩
  case rest =>
  obtain ⟨hx3, hy3, hb3⟩ := hcut
  obtain ⟨w3, rfl⟩ : ∃ x, x = wc := ⟨_, rfl⟩
  have X3 := Lib.hid hx3; have Y3 := Lib.hid hy3; have B3 := Lib.hid hb3
  clear hx3 hy3 hb3 XB YB B2
  have c1 := cell_below B3.out C1.out
  have d1 := cell_below B3.out D1.out
  go_upto_if 37 with fail
  rw [← GT.out]
  clear c1 d1
  go_cut [] (fun wx => wx.heap[xb]? = some (.cells #[.int .i64 a1, .int .i64 x2, .int .i64 a2, .int .i64 a3, .int .i64 a4] 3 (0, 0)) ∧ wx.heap[xb + 1]? = some (.cells #[.int .i64 b1, .int .i64 y2, .int .i64 b2, .int .i64 b3, .int .i64 b4] 3 (0, 0)) ∧ Below w0.heap.size w0 wx)
  case first => as_aux_lemma =>
    cases gt
    · have e : x2 = 0 := by rw [HX.out]; rfl
      subst e
      go_wp2
      go_meet
      exact ⟨X3.out, Y3.out, B3.out⟩
    · have e : x2 = 1 := by rw [HX.out]; rfl
      subst e
      have f0 : w3.cell? ⟨xb, 1, none⟩ = some (.int .i64 0) := by simp [World.cell?, X3.out]
      have f1 : w3.frozen? ⟨xb, 1, none⟩ = false := by simp [World.frozen?, X3.out]
      have X4 := Lib.hid (heap_setCell_same w3 xb 1 _ _ (.int .i64 1) X3.out)
      have Y4 := Lib.hid ((heap_setCell_other w3 ⟨xb, 1, none⟩ (xb + 1) (.int .i64 1) (by simp)).trans Y3.out)
      have B4 := Lib.hid (B3.out.setCell (p := ⟨xb, 1, none⟩) (Nat.le_of_eq XE.out.symm) (.int .i64 1))
      go_wp2
      go_meet
      exact ⟨by simpa using X4.out, Y4.out, B4.out⟩
  case rest =>
  obtain ⟨hx4, hy4, hb4⟩ := hcut
  obtain ⟨w4, rfl⟩ : ∃ x, x = wc := ⟨_, rfl⟩
  have B4 := Lib.hid (B0.out.trans (hb4.mono B0.out.size))
  obtain ⟨X, hX⟩ : ∃ X : List Int, X = [a1, x2, a2, a3, a4] := ⟨_, rfl⟩
  obtain ⟨Y, hY⟩ : ∃ Y : List Int, Y = [b1, y2, b2, b3, b4] := ⟨_, rfl⟩
  have hxl : X.length = 5 := by rw [hX]; rfl
  have hyl : Y.length = 5 := by rw [hY]; rfl
  have HXS := Lib.hid (show ∀ k (hk : k < X.length), w4.cell? ⟨xb, k, none⟩ = some (.int .i64 X[k]) from fun k hk => by
    obtain ⟨a, c, e, -, -, hc⟩ := intsR_open (five_cells hx4)
    cases e
    obtain ⟨b, off, e, hc⟩ := hc (by simp)
    cases e
    subst hX
    have := hc k hk
    rwa [Nat.zero_add] at this)
  have HYS := Lib.hid (show ∀ k (hk : k < Y.length), w4.cell? ⟨xb + 1, k, none⟩ = some (.int .i64 Y[k]) from fun k hk => by
    obtain ⟨a, c, e, -, -, hc⟩ := intsR_open (five_cells hy4)
    cases e
    obtain ⟨b, off, e, hc⟩ := hc (by simp)
    cases e
    subst hY
    have := hc k hk
    rwa [Nat.zero_add] at this)
  rw [← hX, ← hY] at QE
  have FR := Lib.hid (show ∀ (k : Nat) (h1 : k < X.length) (h2 : k < Y.length), orQ ((List.zipWith cmpQ X Y).drop k) = if cmpQ X[k] Y[k] = 0 then orQ ((List.zipWith cmpQ X Y).drop (k + 1)) else cmpQ X[k] Y[k] from fun k h1 h2 => five_round (k := k) hxl hyl (by omega))
  have QL := Lib.hid (show (List.zipWith cmpQ X Y).length = 5 by rw [List.length_zipWith, hxl, hyl]; rfl)
  have XL := Lib.hid hxl; have YL := Lib.hid hyl
  clear hx4 hy4 hb4 X3 Y3 B3 HX HY hX hY hxl hyl LT GT
  go_upto_region 7 with fail
  go_wp2_with fail
  go_loopg [7] 5 (fun g iv wr => ∃ k : Nat, k ≤ 5 ∧ iv = .int .i64 k ∧ g = 5 - k ∧ Hid (orQ (List.zipWith cmpQ X Y) = orQ ((List.zipWith cmpQ X Y).drop k)) ∧ Below w4.heap.size w4 wr)
  case atStart => exact ⟨0, by omega, rfl, rfl, Lib.hid rfl, Below.refl _ _⟩
  case round =>
    obtain ⟨k, hk, rfl, hg, HQ, hb⟩ := hrel
    have G := Lib.hid hg; have BR := Lib.hid hb
    clear hg
    by_cases hlt : k < 5
    · have q0 := cell_below hb (HXS.out k (by rw [XL.out]; exact hlt))
      have q1 := cell_below hb (HYS.out k (by rw [YL.out]; exact hlt))
      have FK := Lib.hid (HQ.out.trans (FR.out k (by rw [XL.out]; exact hlt) (by rw [YL.out]; exact hlt)))
      obtain ⟨u, hu⟩ : ∃ u, u = X[k]'(by rw [XL.out]; exact hlt) := ⟨_, rfl⟩
      obtain ⟨v, hv⟩ : ∃ v, v = Y[k]'(by rw [YL.out]; exact hlt) := ⟨_, rfl⟩
      rw [← hu] at q0 FK
      rw [← hv] at q1 FK
      have i0 : (0 : Int) ≤ (k : Int) := Int.natCast_nonneg _
      have i2 : (k : Int) < 5 := by omega
      have s1 : IntKind.i64.wrap ((k : Int) + 1) = (k : Int) + 1 := IntWalk.i64_in _ (by omega)
      have t1 : decide ((k : Int) < 5) = true := decide_eq_true i2
      clear hb hu hv
      rcases cmpQ_way u v with ⟨e, l⟩ | ⟨e, l⟩ | ⟨e, l⟩
      · have l1 : decide (u < v) = true := decide_eq_true l
        have FE := Lib.hid (show RS = -1 by rw [QE.out, FK.out, e]; rfl)
        clear e l
        go_upto_region 10 with fail
        go_quiet (fail)
        go_wp2
        go_ret
        exact ⟨by first | (rw [FE.out]; done) | (rw [FE.out]; rfl), B4.out.trans (Below.mono (by first | exact below_drewN BR.out _ | exact below_drewN (below_drewN BR.out _) _) B4.out.size)⟩
      · have l1 : decide (u < v) = false := decide_eq_false (by omega)
        have l2 : decide (v < u) = true := decide_eq_true l
        have FE := Lib.hid (show RS = 1 by rw [QE.out, FK.out, e]; rfl)
        clear e l
        go_upto_region 10 with fail
        go_quiet (fail)
        go_upto_region 12 with fail
        go_quiet (fail)
        go_wp2
        go_ret
        exact ⟨by first | (rw [FE.out]; done) | (rw [FE.out]; rfl), B4.out.trans (Below.mono (by first | exact below_drewN BR.out _ | exact below_drewN (below_drewN BR.out _) _) B4.out.size)⟩
      · have l1 : decide (u < v) = false := decide_eq_false (by omega)
        have l2 : decide (v < u) = false := decide_eq_false (by omega)
        have FE := Lib.hid (show orQ (List.zipWith cmpQ X Y) = orQ ((List.zipWith cmpQ X Y).drop (k + 1)) by rw [FK.out, e]; rfl)
        clear e l
        go_upto_region 10 with fail
        go_quiet (fail)
        go_upto_region 12 with fail
        go_quiet (fail)
        go_wp2
        go_roundg (5 - (k + 1))
        case measure => rw [G.out]; omega
        case rel => exact ⟨k + 1, by omega, by go_num, rfl, FE, below_drewN BR.out _⟩
    · obtain rfl : k = 5 := by omega
      have t1 : decide ((5 : Int) < 5) = false := by decide
      have FE := Lib.hid (show RS = 0 by rw [QE.out, HQ.out, List.drop_of_length_le (by rw [QL.out]; exact Nat.le_refl _)]; rfl)
      clear hb
      go_wp2
      go_ret
      exact ⟨by first | (rw [FE.out]; done) | (rw [FE.out]; rfl), B4.out.trans (BR.out.mono B4.out.size)⟩

end Go.Proofs.YtgelojhpanbnaaaGreatDoor
