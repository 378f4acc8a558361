/- Rings of an event that is once, one by one; what is known of rings that are told. No program in sight. -/
import Derived.Test.YtkpmddlinlcobaaGreatDoorAlmC
import Derived.Test.YtkpmddlinlcobaaGreatDoorQ14
namespace Go.Proofs.YtkpmddlinlcobaaGreatDoor
open Go.RowKit Go.Shelf
set_option linter.unusedSimpArgs false
set_option linter.unusedVariables false

theorem turnsL_all {at_ b lo hi wh ix : Int} : ∀ {n : Nat}, (∀ k : Nat, k < n → timeB (at_ + k * b) = true ∧ lo ≤ at_ + k * b ∧ at_ + k * b ≤ hi) → turnsL at_ b lo hi wh ix n = (List.range n).map fun (k : Nat) => ((at_ + (k : Int) * b, wh, ix, (k : Int)) : Rng)
  | 0, _ => rfl
  | n + 1, h => by
    rw [turnsL_succ, turnsL_all (fun k hk => h k (by omega)), if_pos (h n (by omega)), List.range_succ, List.map_append]; rfl

/-- the rings of one alarm, turn by turn. -/
def turnsR (at_ b wh : Int) (n : Nat) : List Rng := (List.range n).map fun (k : Nat) => ((at_ + (k : Int) * b, wh, 0, (k : Int)) : Rng)

theorem turnsR_len (at_ b wh : Int) (n : Nat) : (turnsR at_ b wh n).length = n := by simp [turnsR]

theorem turnsR_at {at_ b wh : Int} {n k : Nat} (h : k < (turnsR at_ b wh n).length) : (turnsR at_ b wh n)[k] = (at_ + (k : Int) * b, wh, 0, (k : Int)) := by simp [turnsR]

theorem turnsR_ord {at_ b wh : Int} {n : Nat} (h : 0 ≤ b) : (turnsR at_ b wh n).Pairwise Lt4 := by
  rw [turnsR, List.pairwise_map]
  refine (List.pairwise_lt_range (n := n)).imp ?_
  intro i j hij
  have h1 : (i : Int) * b ≤ (j : Int) * b := Int.mul_le_mul_of_nonneg_right (by omega) h
  have h2 : (i : Int) < (j : Int) := by omega
  rcases Int.lt_or_eq_of_le h1 with h3 | h3
  · exact .inl (show at_ + (i : Int) * b < at_ + (j : Int) * b by omega)
  · exact .inr ⟨show at_ + (i : Int) * b = at_ + (j : Int) * b by omega, .inr ⟨rfl, .inr ⟨rfl, h2⟩⟩⟩

theorem rings_one {st ln lo hi : Int} {al : Alm} (h : almBad al = false) (ts : timeB st = true) (te : timeB (st + ln) = true) (h1 : lo - 300000 ≤ st) (h2 : st < hi + 300000)
    (hk : ∀ k : Nat, (k : Int) ≤ al.2.2.1 → timeB (almAt al st ln + k * al.2.2.2) = true ∧ lo ≤ almAt al st ln + k * al.2.2.2 ∧ almAt al st ln + k * al.2.2.2 ≤ hi) :
    ringsL 0 [] [st] [] [] [] [al] ln lo hi = turnsR (almAt al st ln) al.2.2.2 st (al.2.2.1 + 1).toNat := by
  have ok := alm_ok h
  have hz : MayZ 0 [] := mayZ_nil (by decide)
  have ht : tmsOf 0 [] [st] [] [] [] ln (lo - 300000) (hi + 300000) = [(st, st)] :=
    tmsOf_one hz (by simp) (oneT_nil.2 ⟨rfl, rfl, by simp [reallyC], ts, te⟩) (by omega) (by omega)
  have hu : ringsU 0 [] [st] [] [] [] [al] ln lo hi = turnsR (almAt al st ln) al.2.2.2 st (al.2.2.1 + 1).toNat := by
    rw [ringsU, ht, List.flatMap_cons, List.flatMap_nil, List.append_nil, almsL, almsL, List.append_nil]
    exact turnsL_all (fun k hk2 => hk k (by omega))
  refine ord_ext lt4_irr lt4_trans _ _ (ringsL_ord hz (by simp)) (turnsR_ord ok.2.2.2.2.1) fun r => ?_
  rw [ringsL, srtR, List.mem_mergeSort, hu]

theorem two_ringsU : ringsU 0 [] [66729179] [] [] [] [(-10, false, 1, 3), (0, true, 0, 0)] 60 66729000 66729999 = [(66729169, 66729179, 0, 0), (66729172, 66729179, 0, 1), (66729239, 66729179, 1, 0)] := by
  have ht : tmsOf 0 [] [66729179] [] [] [] 60 (66729000 - 300000) (66729999 + 300000) = [(66729179, 66729179)] :=
    tmsOf_one (mayZ_nil (by decide)) (by simp) (oneT_nil.2 ⟨rfl, rfl, by decide, by decide, by decide⟩) (by decide) (by decide)
  rw [ringsU, ht]
  decide

theorem two_rings : ringsL 0 [] [66729179] [] [] [] [(-10, false, 1, 3), (0, true, 0, 0)] 60 66729000 66729999 = [(66729169, 66729179, 0, 0), (66729172, 66729179, 0, 1), (66729239, 66729179, 1, 0)] := by
  refine ord_ext lt4_irr lt4_trans _ _ (ringsL_ord (mayZ_nil (by decide)) (by simp)) ?_ fun r => ?_
  · simp [Lt4]
  · rw [ringsL, srtR, List.mem_mergeSort, two_ringsU]

theorem ringE_0 {E : Int} {n : Nat} (h : 0 = ringE E n) : E = 0 ∧ n ≤ 400 := by
  unfold ringE at h
  by_cases h1 : E ≠ 0
  · rw [if_pos h1] at h; exact absurd h.symm h1
  · rw [if_neg h1] at h
    unfold manyE at h
    by_cases h2 : 400 < n
    · rw [if_pos h2] at h; cases h
    · exact ⟨by omega, by omega⟩

theorem ringE_mk {n : Nat} (h : n ≤ 400) : ringE 0 n = 0 := by rw [ringE, if_neg (by simp), manyE, if_neg (by omega)]

/-- what is known of the rings between two times, when they are told. -/
structure RngFacts (ah ln a b : Int) (Z : List (Int × Int)) (T M N : List Int) (C : List (Int × Int)) (A : List Alm) (R : List Rng) : Prop where
  ta : timeB a = true
  tb : timeB b = true
  le : a ≤ b
  span : b - a ≤ 1000000
  len : R.length ≤ 400
  lenA : A.length ≤ 4
  lnb : 0 ≤ ln ∧ ln ≤ 100000
  alm : ∀ x ∈ A, almBad x = false
  lo : ∀ r ∈ R, a ≤ r.1
  hi : ∀ r ∈ R, r.1 < b
  of : ∀ r ∈ R, ∃ (f : Int) (j k : Nat) (h : j < A.length), timeB f = true ∧ (k : Int) ≤ A[j].2.2.1 ∧ r.1 = almAt A[j] f ln + k * A[j].2.2.2 ∧ r.2.2.1 = j ∧ r.2.2.2 = k ∧ (r.2.1, f) ∈ tmsOf ah Z T M N C ln f (f + 1)
  up : ∀ (i : Nat) (h : i + 1 < R.length), Lt4 R[i] R[i + 1]
  split : ∀ c, a ≤ c → c ≤ b → ringsL ah Z T M N C A ln a (c - 1) ++ ringsL ah Z T M N C A ln c (b - 1) = R

theorem rng_facts {st ln : Int} {rp : Bool} {fr ev ct ti : Int} {mo da : List Int} {we : List (Int × Int)} {pk M N : List Int} {C : List (Int × Int)} {A : List Alm} {ah a b : Int} {Z : List (Int × Int)} {T : List Int} {R : List Rng} {F : Int}
    (hF : F = 0 → EvFacts st ln rp fr ev ct ti mo da we pk M N C A) (hR : R = ringsL ah Z T M N C A ln a (b - 1)) (hX : 0 = ringE (betE F (zfault ah Z) a b) R.length) : F = 0 ∧ zfault ah Z = 0 ∧ RngFacts ah ln a b Z T M N C A R := by
  obtain ⟨e1, n1⟩ := ringE_0 hX
  obtain ⟨f0, z0, t1, t2, t3, t4⟩ := betE_0 e1
  have ef := hF f0
  have mz := mayZ_of z0
  have hm : ∀ r ∈ R, _ := fun r hr => (ringsL_mem mz ef.upC ef.alm ef.ln).1 (by rw [hR] at hr; exact hr)
  refine ⟨f0, z0, t1, t2, t3, t4, n1, ef.lenA, ef.ln, ef.alm, fun r hr => (hm r hr).1.1, fun r hr => by have := (hm r hr).1.2; omega, fun r hr => ?_, fun i hi => ?_, fun c h1 h2 => ?_⟩
  · obtain ⟨-, h3, f, j, k, hj, h4, h5, h6, h7, h8, h9⟩ := hm r hr
    exact ⟨f, j, k, hj, (oneT_which h5).2.1, h6, h7, h8, h9, (tmsOf_mem mz ef.upC).2 ⟨h4, h5, Int.le_refl _, by show f < f + 1; omega⟩⟩
  · subst hR
    exact List.pairwise_iff_getElem.1 (ringsL_ord mz ef.upC) i (i + 1) (by omega) hi (by omega)
  · rw [hR]; exact ringsL_split mz ef.upC ef.alm ef.ln h1 (by omega)

end Go.Proofs.YtkpmddlinlcobaaGreatDoor
