/- Texts joined into one (a claim has at most 60 files): The reference's times of an event, plainly: put into a list that rises, once; The contract of the reference chimeref2.put; The contracts of the references chimeref2.Local and chimeref2.Is; The contract of the reference chimeref2.Really. -/
import Derived.Test.YtgelojhpanbnaaaGreatDoorQ14
import Derived.Test.YtgelojhpanbnaaaGreatDoorQ08
import Derived.Test.YtgelojhpanbnaaaGreatDoorQ23
import Derived.Test.YtgelojhpanbnaaaGreatDoorQ31
import Derived.Test.YtgelojhpanbnaaaGreatDoorQ15
import Derived.StillTailTactics
import Derived.Deep.RegionHeld3
import Derived.Test.YtgelojhpanbnaaaGreatDoorQ10
namespace Go.Proofs.YtgelojhpanbnaaaGreatDoor
open Go.RowKit Go.Shelf
set_option linter.unusedVariables false

def putL (l : List Int) (n : Int) : List Int := if n ∈ l then l else l.filter (fun x => decide (x ≤ n)) ++ n :: l.filter (fun x => decide (n < x))

theorem putL_mem {l : List Int} {n x : Int} : x ∈ putL l n ↔ x ∈ l ∨ x = n := by
  unfold putL
  by_cases h : n ∈ l
  · rw [if_pos h]
    exact ⟨.inl, fun hx => by rcases hx with hx | rfl; exact hx; exact h⟩
  · rw [if_neg h]
    simp only [List.mem_append, List.mem_cons, List.mem_filter, decide_eq_true_eq]
    constructor
    · rintro (⟨h1, -⟩ | rfl | ⟨h1, -⟩)
      · exact .inl h1
      · exact .inr rfl
      · exact .inl h1
    · rintro (h1 | rfl)
      · by_cases h2 : x ≤ n
        · exact .inl ⟨h1, h2⟩
        · exact .inr (.inr ⟨h1, by omega⟩)
      · exact .inr (.inl rfl)

theorem putL_up {l : List Int} {n : Int} (h : l.Pairwise (· < ·)) : (putL l n).Pairwise (· < ·) := by
  unfold putL
  by_cases hn : n ∈ l
  · rw [if_pos hn]; exact h
  · rw [if_neg hn]
    refine List.pairwise_append.2 ⟨h.filter _, List.pairwise_cons.2 ⟨fun x hx => ?_, h.filter _⟩, fun x hx y hy => ?_⟩
    · simpa using (List.mem_filter.1 hx).2
    · have h1 : x ≤ n := by simpa using (List.mem_filter.1 hx).2
      have h2 : x ≠ n := fun he => hn (he ▸ (List.mem_filter.1 hx).1)
      rcases List.mem_cons.1 hy with rfl | h3
      · omega
      · have h4 : n < y := by simpa using (List.mem_filter.1 h3).2
        omega

theorem rise_le {l : List Int} (h : l.Pairwise (· < ·)) {i j : Nat} (hi : i < l.length) (hj : j < l.length) (hij : i ≤ j) : l[i] ≤ l[j] := by
  rcases Nat.lt_or_ge i j with h1 | h1
  · exact Int.le_of_lt (List.pairwise_iff_getElem.1 h i j hi hj h1)
  · obtain rfl : i = j := by omega
    exact Int.le_refl _

theorem putL_cut {l : List Int} {n : Int} {k : Nat} (h : l.Pairwise (· < ·)) (hk : k ≤ l.length) (h1 : ∀ i (hi : i < l.length), k ≤ i → n < l[i]) (h2 : ∀ i (hi : i < l.length), i < k → l[i] < n) : putL l n = l.take k ++ n :: l.drop k := by
  have hn : n ∉ l := fun hm => by
    obtain ⟨i, hi, he⟩ := List.mem_iff_getElem.1 hm
    rcases Nat.lt_or_ge i k with h3 | h3
    · have := h2 i hi h3; omega
    · have := h1 i hi h3; omega
  have e1 : l.filter (fun x => decide (x ≤ n)) = l.take k := by
    conv => lhs; rw [← List.take_append_drop k l]
    have q1 : (l.take k).filter (fun x => decide (x ≤ n)) = l.take k := List.filter_eq_self.2 fun x hx => by
      obtain ⟨i, hi, rfl⟩ := List.mem_iff_getElem.1 hx
      rw [List.length_take] at hi
      have := h2 i (by omega) (by omega)
      simp; omega
    have q2 : (l.drop k).filter (fun x => decide (x ≤ n)) = [] := List.filter_eq_nil_iff.2 fun x hx => by
      obtain ⟨i, hi, rfl⟩ := List.mem_iff_getElem.1 hx
      rw [List.length_drop] at hi
      have := h1 (k + i) (by omega) (by omega)
      simp; omega
    rw [List.filter_append, q1, q2, List.append_nil]
  have e2 : l.filter (fun x => decide (n < x)) = l.drop k := by
    conv => lhs; rw [← List.take_append_drop k l]
    have q1 : (l.take k).filter (fun x => decide (n < x)) = [] := List.filter_eq_nil_iff.2 fun x hx => by
      obtain ⟨i, hi, rfl⟩ := List.mem_iff_getElem.1 hx
      rw [List.length_take] at hi
      have := h2 i (by omega) (by omega)
      simp; omega
    have q2 : (l.drop k).filter (fun x => decide (n < x)) = l.drop k := List.filter_eq_self.2 fun x hx => by
      obtain ⟨i, hi, rfl⟩ := List.mem_iff_getElem.1 hx
      rw [List.length_drop] at hi
      have := h1 (k + i) (by omega) (by omega)
      simp; omega
    rw [List.filter_append, q1, q2, List.nil_append]
  rw [putL, if_neg hn, e1, e2]

theorem putL_has {l : List Int} {n : Int} (h : n ∈ l) : putL l n = l := by rw [putL, if_pos h]

theorem putF_mem : ∀ (M B : List Int) (x : Int), x ∈ M.foldl putL B ↔ x ∈ B ∨ x ∈ M
  | [], B, x => by simp
  | m :: M, B, x => by
    rw [List.foldl_cons, putF_mem M (putL B m) x, putL_mem, List.mem_cons]
    constructor
    · rintro ((h | h) | h)
      · exact .inl h
      · exact .inr (.inl h)
      · exact .inr (.inr h)
    · rintro (h | h | h)
      · exact .inl (.inl h)
      · exact .inl (.inr h)
      · exact .inr h

theorem putF_up : ∀ (M B : List Int), B.Pairwise (· < ·) → (M.foldl putL B).Pairwise (· < ·)
  | [], _, h => h
  | m :: M, B, h => putF_up M (putL B m) (putL_up h)

theorem putF_len : ∀ (M B : List Int), (M.foldl putL B).length ≤ B.length + M.length
  | [], B => by simp
  | m :: M, B => by
    have h1 := putF_len M (putL B m)
    have h2 : (putL B m).length ≤ B.length + 1 := by
      unfold putL
      by_cases h : m ∈ B
      · rw [if_pos h]; omega
      · rw [if_neg h, List.length_append, List.length_cons]
        have h3 : (B.filter (fun x => decide (x ≤ m))).length + (B.filter (fun x => decide (m < x))).length = B.length := by
          clear h h1
          induction B with
          | nil => rfl
          | cons b B ih =>
            by_cases hb : b ≤ m
            · have hb2 : ¬ m < b := by omega
              simp [hb, hb2] at ih ⊢; omega
            · have hb2 : m < b := by omega
              simp [hb, hb2] at ih ⊢; omega
        omega
    rw [List.foldl_cons, List.length_cons]
    omega

def keepB (N : List Int) (a b x : Int) : Bool := !inB N x && decide (a ≤ x) && decide (x ≤ b)

theorem local_eq {B T M N : List Int} {a b : Int} (hB : B.Pairwise (· < ·)) (h : ∀ x, a ≤ x → x ≤ b → (x ∈ B ↔ x ∈ T)) : (M.foldl putL B).filter (keepB N a b) = evL T M N a b := by
  refine rise_ext _ _ ((putF_up M B hB).filter _) (evL_up ..) fun x => ?_
  rw [List.mem_filter, putF_mem, evL_mem]
  unfold keepB
  simp only [Bool.and_eq_true, Bool.not_eq_true', decide_eq_true_eq]
  constructor
  · rintro ⟨h1, ⟨h2, h3⟩, h4⟩
    exact ⟨h1.imp (h x h3 h4).1 id, h3, h4, h2⟩
  · rintro ⟨h1, h3, h4, h2⟩
    exact ⟨h1.imp (h x h3 h4).2 id, ⟨h2, h3⟩, h4⟩

end Go.Proofs.YtgelojhpanbnaaaGreatDoor

namespace Go.Proofs.YtgelojhpanbnaaaGreatDoor
open Go.RowKit Go.Shelf
set_option linter.unusedSimpArgs false
set_option linter.unusedVariables false

theorem reads_take {w : World} {p : Option Addr} {n cap k : Nat} {xs : List Value} (h : Reads w (.slice p n cap) 1 n xs) (hk : k ≤ n) : Reads w (.slice p k cap) 1 k (xs.take k) := by
  obtain ⟨p', cap', e, k1, k2, k3, k4⟩ := h
  cases e
  refine ⟨p, cap, rfl, by rw [List.length_take]; omega, by omega, k3, fun hp => ?_⟩
  obtain ⟨b, off, e1, hc⟩ := k4 (by omega)
  exact ⟨b, off, e1, fun j u hj => hc j u (by rw [List.getElem?_take] at hj; split at hj; exact hj; cases hj)⟩

theorem reads_drop {w : World} {b off n cap k : Nat} {xs : List Value} (h : Reads w (.slice (some ⟨b, off, none⟩) n cap) 1 n xs) (hk : k ≤ n) : Reads w (.slice (some ⟨b, off + k, none⟩) (n - k) (cap - k)) 1 (n - k) (xs.drop k) := by
  obtain ⟨p', cap', e, k1, k2, k3, k4⟩ := h
  cases e
  refine ⟨_, _, rfl, by rw [List.length_drop]; omega, by omega, by omega, fun hp => ?_⟩
  obtain ⟨b', off', e1, hc⟩ := k4 (by omega)
  cases e1
  refine ⟨b, off + k, rfl, fun j u hj => ?_⟩
  rw [List.getElem?_drop] at hj
  have := hc (k + j) u hj
  rw [← Nat.add_assoc] at this
  exact this

theorem reads_drop2 {w : World} {ad : Addr} {n cap k : Nat} {xs : List Value} (h : Reads w (.slice (some ad) n cap) 1 n xs) (hk : k ≤ n) : Reads w (.slice (if cap = k then some ad else some (ad.add k)) (n - k) (cap - k)) 1 (n - k) (xs.drop k) := by
  by_cases h0 : n - k = 0
  · obtain ⟨p', cap', e, k1, k2, k3, k4⟩ := h
    cases e
    exact ⟨_, _, rfl, by rw [List.length_drop]; omega, by omega, by omega, fun hp => by omega⟩
  · obtain ⟨p', cap', e, k1, k2, k3, k4⟩ := h
    cases e
    obtain ⟨b, off, e1, hc⟩ := k4 (by omega)
    cases e1
    have e2 : (⟨b, off, none⟩ : Addr).add k = ⟨b, off + k, none⟩ := by unfold Addr.add; split <;> simp_all
    rw [if_neg (by omega), e2]
    exact reads_drop ⟨_, _, rfl, k1, k2, k3, k4⟩ hk

theorem ints_row_one {L : List Int} {k : Nat} : ∀ u ∈ ((L.map (Value.int .i64)).take k), u.oneCell' = true := fun u hu => by
  obtain ⟨x, -, rfl⟩ := List.mem_map.1 (List.mem_of_mem_take hu); rfl

theorem ints_row_one2 {L : List Int} {k : Nat} : ∀ u ∈ ((L.map (Value.int .i64)).drop k), u.oneCell' = true := fun u hu => by
  obtain ⟨x, -, rfl⟩ := List.mem_map.1 (List.mem_of_mem_drop hu); rfl

set_option maxRecDepth 100000 in
set_option maxHeartbeats 4000000 in
theorem rput_own (v : Value) (L : List Int) (n : Int) (w : World) (hL : IntsR w v L) (hr : L.Pairwise (· < ·)) (hl : L.length ≤ 1000000) :
    Calls Tryz.prog 120 #[v, .int .i64 n] w fun e w' => ∃ u, e = .returned u ∧ (IntsR w' u (putL L n) ∧ (u = v ∨ FreshV w.heap.size u)) ∧ Below w.heap.size w w' := by
  obtain ⟨i0, hi0, hz0, hz1, hz2⟩ := info_parts intInfoP
  obtain ⟨a, cap, rfl, hc1, hc2, hcell⟩ := intsR_open hL
  unfold maxLen at hc2
  have HC := Lib.hid hcell; have HL := Lib.hid hL; have HR := Lib.hid hr
  clear hcell hL hr
  go_enter Tryz.func120, Tryz.ntmps120
  go_upto_block 0 with fail
  go_cut [5] (fun s5 wx => ∃ k : Nat, k ≤ L.length ∧ s5 = .int .i64 k ∧ Hid (∀ i (hi : i < L.length), k ≤ i → n < L[i]) ∧ Hid (∀ i (hi : i < L.length), i < k → L[i] ≤ n) ∧ w = wx)
  case first => as_aux_lemma =>
    go_wp2_with fail
    go_loopg [5] L.length (fun g kv wr => ∃ k : Nat, k ≤ L.length ∧ kv = .int .i64 k ∧ g = k ∧ Hid (∀ i (hi : i < L.length), k ≤ i → n < L[i]) ∧ wr = w)
    case atStart => exact ⟨L.length, Nat.le_refl _, rfl, rfl, Lib.hid (fun i hi h => by omega), rfl⟩
    case round =>
      obtain ⟨k, hk, rfl, hg, HI, rfl⟩ := hrel
      have G := Lib.hid hg; clear hg
      by_cases h0 : k = 0
      · have t0 : decide ((0 : Int) < (k : Int)) = false := decide_eq_false (by omega)
        have t0b : decide (0 < k) = false := decide_eq_false (by omega)
        have NI := Lib.hid (show ∀ i (hi : i < L.length), i < k → L[i] ≤ n from fun i hi h => by omega)
        clear h0
        go_wp2
        go_meet
        exact ⟨k, hk, rfl, HI, NI, rfl⟩
      · have hkm : k - 1 < L.length := by omega
        obtain ⟨b, off, rfl, hcs⟩ := HC.out (by omega)
        have c0 := hcs (k - 1) hkm
        obtain ⟨x, hx⟩ : ∃ x, x = L[k - 1] := ⟨_, rfl⟩
        rw [← hx] at c0
        have X := Lib.hid hx
        have i1 : (0 : Int) < (k : Int) := by omega
        have t0 : decide ((0 : Int) < (k : Int)) = true := decide_eq_true i1
        have t0b : decide (0 < k) = true := decide_eq_true (by omega)
        have s1 : IntKind.i64.wrap ((k : Int) - 1) = (k : Int) - 1 := IntWalk.i64_in _ (by omega)
        have s2 : (0 : Int) ≤ (k : Int) - 1 := by omega
        have s3 : (1 : Int) ≤ (k : Int) := by omega
        have s4 : ((k : Int) - 1).toNat = k - 1 := by omega
        have s5 : (k : Int) - 1 < (L.length : Int) := by omega
        by_cases g1 : n < x
        · have d1 : decide (n < x) = true := decide_eq_true g1
          have NI := Lib.hid (show ∀ i (hi : i < L.length), k - 1 ≤ i → n < L[i] from fun i hi h => by
            rcases Nat.lt_or_ge i k with h1 | h1
            · obtain rfl : i = k - 1 := by omega
              rw [← X.out]; exact g1
            · exact HI.out i hi h1)
          clear hx hcs g1
          go_wp2
          go_roundg (k - 1)
          case measure => rw [G.out]; omega
          case rel => exact ⟨k - 1, by omega, by go_num, rfl, NI, rfl⟩
        · have d1 : decide (n < x) = false := decide_eq_false g1
          have NI := Lib.hid (show ∀ i (hi : i < L.length), i < k → L[i] ≤ n from fun i hi h => by
            have h1 := rise_le HR.out hi hkm (by omega)
            rw [← hx] at h1; omega)
          clear hx hcs g1
          go_wp2
          go_meet
          exact ⟨k, hk, rfl, HI, NI, rfl⟩
  case rest =>
  obtain ⟨k, hk, rfl, HI, HJ, rfl⟩ := hcut
  obtain ⟨q, hq⟩ : ∃ q, q = decide (n ∈ L) := ⟨_, rfl⟩
  have Q := Lib.hid hq
  clear hq
  go_upto_region 4 with fail
  go_cut [32] (fun s32 wx => s32 = .bool q ∧ w = wx)
  case first => as_aux_lemma =>
    by_cases h0 : k = 0
    · have t0 : decide ((0 : Int) < (k : Int)) = false := decide_eq_false (by omega)
      have t0b : decide (0 < k) = false := decide_eq_false (by omega)
      obtain rfl : q = false := by
        rw [Q.out]
        exact decide_eq_false fun h => by
          obtain ⟨i, hi, e⟩ := List.mem_iff_getElem.1 h
          have := HI.out i hi (by omega); omega
      clear h0
      go_wp2
      go_meet
      exact ⟨rfl, rfl⟩
    · have hkm : k - 1 < L.length := by omega
      obtain ⟨b, off, rfl, hcs⟩ := HC.out (by omega)
      have c0 := hcs (k - 1) hkm
      obtain ⟨x, hx⟩ : ∃ x, x = L[k - 1] := ⟨_, rfl⟩
      rw [← hx] at c0
      have i1 : (0 : Int) < (k : Int) := by omega
      have t0 : decide ((0 : Int) < (k : Int)) = true := decide_eq_true i1
      have t0b : decide (0 < k) = true := decide_eq_true (by omega)
      have s1 : IntKind.i64.wrap ((k : Int) - 1) = (k : Int) - 1 := IntWalk.i64_in _ (by omega)
      have s2 : (0 : Int) ≤ (k : Int) - 1 := by omega
      have s3 : (1 : Int) ≤ (k : Int) := by omega
      have s4 : ((k : Int) - 1).toNat = k - 1 := by omega
      have s5 : (k : Int) - 1 < (L.length : Int) := by omega
      by_cases g2 : x = n
      · have d2 : (x == n) = true := by simpa using g2
        obtain rfl : q = true := by rw [Q.out]; exact decide_eq_true (by rw [← g2, hx]; exact List.getElem_mem _)
        clear hx hcs g2
        go_wp2
        go_meet
        exact ⟨by first | rfl | simp [d2], rfl⟩
      · have d2 : (x == n) = false := by simpa using g2
        obtain rfl : q = false := by
          rw [Q.out]
          exact decide_eq_false fun h => by
            obtain ⟨i, hi, e⟩ := List.mem_iff_getElem.1 h
            rcases Nat.lt_or_ge i k with h1 | h1
            · have h2 := rise_le HR.out hi hkm (by omega)
              have h3 := HJ.out (k - 1) hkm (by omega)
              rw [← hx] at h2 h3
              rw [e] at h2; omega
            · have := HI.out i hi h1; omega
        clear hx hcs g2
        go_wp2
        go_meet
        exact ⟨by first | rfl | simp [d2], rfl⟩
  case rest =>
  obtain ⟨rfl, rfl⟩ := hcut
  cases q
  rotate_left
  · have E := Lib.hid (putL_has (l := L) (n := n) (by have := Q.out; simpa using this.symm))
    go_wp2
    go_ret
    exact ⟨_, rfl, ⟨by rw [E.out]; exact HL.out, .inl rfl⟩, Below.refl _ _⟩
  have NM := Lib.hid (show n ∉ L by have := Q.out; simpa using this.symm)
  have E := Lib.hid (putL_cut (n := n) HR.out hk HI.out (fun i hi h => by
    have h1 := HJ.out i hi h
    have h2 : L[i] ≠ n := fun he => NM.out (he ▸ List.getElem_mem _)
    omega))
  have hk2 : (k : Int) ≤ (L.length : Int) := by omega
  have hk3 : k ≤ cap := by omega
  have hk4 : (k : Int) ≤ (cap : Int) := by omega
  have hk0 : (0 : Int) ≤ (k : Int) := Int.natCast_nonneg _
  rcases a with _ | ad
  · obtain rfl : L = [] := List.length_eq_zero_iff.1 (by
      rcases Nat.eq_zero_or_pos L.length with h | h
      · exact h
      · obtain ⟨b, off, e, -⟩ := HC.out h; cases e)
    have P1 := Lib.hid (reads_take (k := k) (show Reads w (.slice none ([] : List Int).length cap) 1 ([] : List Int).length _ from HL.out) hk)
    go_wp2_with (at_builtin; refine wpList_append_row rfl _ _ 22 rfl 3 i0 _ 1 8 Tryz.underlying22 hi0 hz0 hz1 hz2 rfl (by decide) w.heap.size _ _ 0 k [] _ rfl rfl (World.ownsRow_nil _ _ _ _) P1.out ints_row_one (Nat.le_refl _) (by omega) (by unfold maxLen; omega) ?_)
    intro v1 w1 hown1 hb1
    have O1 := Lib.hid hown1; have B1 := Lib.hid hb1
    obtain ⟨oa, oc, rfl, -, -, -⟩ := owns_cells hown1
    have hs1 := hb1.size
    clear hown1 hb1
    go_wp2_with (at_builtin; refine wpList_append_lies _ rfl _ _ 22 rfl w.heap.size 3 i0 _ 1 8 Tryz.underlying22 hi0 hz0 hz1 hz2 rfl (by decide) _ _ _ rfl (O1.out.alloc _) ⟨w1.heap.size, 0, none⟩ 1 1 [.int .i64 n] rfl rfl ?d11 ?d12 (by decide) (by unfold maxLen; omega) (by omega) (by simp; omega) _ rfl ?_)
    case d11 => exact cell_one_new _ _ _
    case d12 => first | rfl | (intro u hu; simp at hu; subst hu; rfl)
    intro g3 cap3 w2 hown3 hgrow3 hat3 hlt3
    have B2 := Lib.hid ((B1.out.alloc hs1 (.cells #[.int .i64 n] 3)).grown hgrow3 (by simp; omega) (ownBlock_ge O1.out))
    have O2 := Lib.hid hown3
    clear hown3 hgrow3 hat3 hlt3
    obtain rfl : k = 0 := by simpa using hk
    have R2 := Lib.hid (show IntsR w2 (.slice (some ⟨g3, 0, none⟩) 1 cap3) (putL [] n) by
      have h := ownsRow_reads O2.out
      have e2 : putL [] n = [n] := by rw [E.out]; rfl
      rw [e2]
      have h2 : Reads w2 (.slice (some ⟨g3, 0, none⟩) 1 cap3) 1 1 [.int .i64 n] := by simpa using h
      exact h2)
    have F2 := Lib.hid (show FreshV w.heap.size (.slice (some ⟨g3, 0, none⟩) 1 cap3) from fun k hk => ownBlock_ge O2.out k hk)
    have hc9 : 1 ≤ cap3 := by
      obtain ⟨a9, c9, e9, -, h9, -⟩ := owns_cells O2.out
      cases e9
      exact h9
    go_wp2
    all_goals
      go_ret
      exact ⟨_, rfl, ⟨R2.out, .inr F2.out⟩, B2.out⟩
  have P1 := Lib.hid (reads_take (k := k) (show Reads w (.slice (some ad) L.length cap) 1 L.length _ from HL.out) hk)
  have P2 := Lib.hid (reads_drop2 (k := k) (show Reads w (.slice (some ad) L.length cap) 1 L.length _ from HL.out) hk)
  go_wp2_with (at_builtin; refine wpList_append_row rfl _ _ 22 rfl 3 i0 _ 1 8 Tryz.underlying22 hi0 hz0 hz1 hz2 rfl (by decide) w.heap.size _ _ 0 k [] _ rfl rfl (World.ownsRow_nil _ _ _ _) P1.out ints_row_one (Nat.le_refl _) (by omega) (by unfold maxLen; omega) ?_)
  intro v1 w1 hown1 hb1
  have O1 := Lib.hid hown1; have B1 := Lib.hid hb1
  obtain ⟨oa, oc, rfl, -, -, -⟩ := owns_cells hown1
  have hs1 := hb1.size
  clear hown1 hb1
  go_wp2_with (at_builtin; refine wpList_append_lies _ rfl _ _ 22 rfl w.heap.size 3 i0 _ 1 8 Tryz.underlying22 hi0 hz0 hz1 hz2 rfl (by decide) _ _ _ rfl (O1.out.alloc _) ⟨w1.heap.size, 0, none⟩ 1 1 [.int .i64 n] rfl rfl ?c11 ?c12 (by decide) (by unfold maxLen; omega) (by omega) (by simp; omega) _ rfl ?_)
  case c11 => exact cell_one_new _ _ _
  case c12 => first | rfl | (intro u hu; simp at hu; subst hu; rfl)
  intro g3 cap3 w2 hown3 hgrow3 hat3 hlt3
  have B2 := Lib.hid ((B1.out.alloc hs1 (.cells #[.int .i64 n] 3)).grown hgrow3 (by simp; omega) (ownBlock_ge O1.out))
  have O2 := Lib.hid hown3
  have P3 := Lib.hid (Reads.below P2.out B2.out)
  clear hown3 hgrow3 hat3 hlt3
  go_wp2_with (at_builtin; refine wpList_append_row rfl _ _ 22 rfl 3 i0 _ 1 8 Tryz.underlying22 hi0 hz0 hz1 hz2 rfl (by decide) w.heap.size _ _ (k + 1) (L.length - k) _ _ rfl rfl O2.out P3.out ints_row_one2 B2.out.size (by omega) (by unfold maxLen; omega) ?_)
  all_goals
    intro v4 w4 hown4 hb4
    have B4 := Lib.hid (B2.out.trans hb4)
    have R4 := Lib.hid (show IntsR w4 v4 (putL L n) by
      have h := ownsRow_reads hown4
      have e1 : k + 1 + (L.length - k) = (putL L n).length := by rw [E.out, List.length_append, List.length_take, List.length_cons, List.length_drop]; omega
      have e2 : (L.map (Value.int .i64)).take k ++ Value.int .i64 n :: (L.map (Value.int .i64)).drop k = (putL L n).map (Value.int .i64) := by rw [E.out, List.map_append, List.map_cons, List.map_take, List.map_drop]
      rw [e1, e2] at h
      exact h)
    have F4 := Lib.hid (show FreshV w.heap.size v4 from ownBlock_ge hown4)
    clear hown4 hb4
    go_wp2
    go_ret
    exact ⟨_, rfl, ⟨R4.out, .inr F4.out⟩, B4.out⟩

theorem rput_any (v : Value) (L : List Int) (n : Int) (w : World) (hL : IntsR w v L) (hr : L.Pairwise (· < ·)) (hl : L.length ≤ 1000000) :
    Calls Tryz.prog 120 #[v, .int .i64 n] w fun e w' => ∃ u, e = .returned u ∧ IntsR w' u (putL L n) ∧ Below w.heap.size w w' :=
  (rput_own v L n w hL hr hl).mono fun _ _ ⟨u, h1, h2, h3⟩ => ⟨u, h1, h2.1, h3⟩

end Go.Proofs.YtgelojhpanbnaaaGreatDoor

namespace Go.Proofs.YtgelojhpanbnaaaGreatDoor
open Go.RowKit Go.Shelf
set_option linter.unusedSimpArgs false
set_option linter.unusedVariables false

def LocB (a b : Int) (T : List Int) (w : World) (v : Value) : Prop := ∃ B0 : List Int, IntsR w v B0 ∧ B0.Pairwise (· < ·) ∧ (∀ x, a ≤ x → x ≤ b → (x ∈ B0 ↔ x ∈ T)) ∧ B0.length ≤ 109573

theorem tms_rise {mi : Int} {E : List Int} (hE : E.Pairwise (· < ·)) (hb : ∀ z ∈ E, 1 ≤ z ∧ z ≤ 109573) (h1 : 0 ≤ mi) (h2 : mi < 1440) : (tmsL mi E).Pairwise (· < ·) := by
  unfold tmsL
  rw [List.pairwise_map]
  refine hE.imp_of_mem fun {x y} hx hy hxy => ?_
  have b1 := hb x hx; have b2 := hb y hy
  rw [evT_in b1.1 b1.2 h1 h2, evT_in b2.1 b2.2 h1 h2]
  omega

theorem loc_days {E : List Int} {mi b tt : Int} (hb : ∀ z ∈ E, 1 ≤ z ∧ z ≤ 109573) (h1 : 0 ≤ mi) (h2 : mi < 1440) (ht : 0 ≤ b → b / 1440 + 1 ≤ tt) (x : Int) (hx : x ≤ b) : x ∈ tmsL mi (upto tt E) ↔ x ∈ tmsL mi E := by
  unfold tmsL
  simp only [List.mem_map]
  constructor
  · rintro ⟨z, hz, rfl⟩
    exact ⟨z, (List.mem_filter.1 hz).1, rfl⟩
  · rintro ⟨z, hz, rfl⟩
    refine ⟨z, List.mem_filter.2 ⟨hz, ?_⟩, rfl⟩
    have hbz := hb z hz
    rw [evT_in hbz.1 hbz.2 h1 h2] at hx
    have := ht (by omega)
    simp only [decide_eq_true_eq]
    omega

theorem tt_ok {b : Int} (hb : -9223372036854775808 ≤ b ∧ b < 9223372036854775808) (h0 : 0 ≤ b) : b / 1440 + 1 ≤ wrap64 (wrap64 (b.tdiv 1440) + 1) := by
  rw [Int.tdiv_eq_ediv_of_nonneg h0, IntWalk.wrap64_in (b / 1440) (by omega), IntWalk.wrap64_in _ (by omega)]
  exact Int.le_refl _

theorem keep_snoc {p : Int → Bool} {L : List Int} {k : Nat} (h : k < L.length) : (L.take (k + 1)).filter p = (L.take k).filter p ++ (if p L[k] then [L[k]] else []) := by
  rw [List.take_succ_eq_append_getElem h, List.filter_append]
  congr 1
  by_cases hp : p L[k] = true <;> simp [hp]

theorem keep_len (p : Int → Bool) (L : List Int) (k : Nat) : ((L.take k).filter p).length ≤ k := Nat.le_trans (List.length_filter_le _ _) (List.length_take_le k L)

theorem ints_oneL {w : World} {b : Nat} {x : Int} (h : w.cell? ⟨b, 0, none⟩ = some (.int .i64 x)) : IntsR w (.slice (some ⟨b, 0, none⟩) 1 1) [x] :=
  ⟨_, 1, rfl, by simp, by simp, by decide, fun _ => ⟨b, 0, rfl, fun j u hj => by match j, hj with | 0, hj => (simp at hj; subst hj; simpa using h)⟩⟩

set_option maxRecDepth 100000 in
set_option maxHeartbeats 16000000 in
theorem rlocal_own (snm stx : ByteArray) (st ln : Int) (rp : Bool) (fr ev ct ti : Int) (vm vd vw vp vM vN vC vA : Value) (mo da : List Int) (we : List (Int × Int)) (pk M N : List Int) (C : List (Int × Int)) (A : List Alm) (a b : Int) (w : World) (hR : EvR w vm vd vw vp vM vN vC vA mo da we pk M N C A) (hok : EvOk rp st fr ev ct ti mo da we pk M) (hbb : -9223372036854775808 ≤ b ∧ b < 9223372036854775808) :
    Calls Tryz.prog 118 #[.agg #[.string snm, .string stx, .int .i64 st, .int .i64 ln, .bool rp, .int .i64 fr, .int .i64 ev, .int .i64 ct, .int .i64 ti, vm, vd, vw, vp, vM, vN, vC, vA], .int .i64 a, .int .i64 b] w fun e w' => ∃ u, e = .returned u ∧ (IntsR w' u (evL (ruleT rp st fr ev ct ti mo da we pk) M N a b) ∧ FreshV w.heap.size u) ∧ Below w.heap.size w w' := by
  obtain ⟨i0, hi0, hz0, hz1, hz2⟩ := info_parts intInfoP
  obtain ⟨h1, h2, h3, h4, hM, hN, hC, hA⟩ := hR
  obtain ⟨am, km, rfl, -, -, -⟩ := intsR_open h1
  obtain ⟨ad, kd, rfl, -, -, -⟩ := intsR_open h2
  obtain ⟨aw, kw, rfl, -, -, -⟩ := pairsR_open h3
  obtain ⟨ap, kp, rfl, -, -, -⟩ := intsR_open h4
  obtain ⟨aM, kM, rfl, -, kM2, hcM⟩ := intsR_open hM
  obtain ⟨aN, kN, rfl, -, -, -⟩ := intsR_open hN
  obtain ⟨aC, kC, rfl, -, kC2, hds⟩ := pairsR_open hC
  obtain ⟨aA, kA, rfl, -, -, -⟩ := almsR_open hA
  unfold maxLen at kC2
  obtain ⟨eb, heb⟩ : ∃ x, x = w.heap.size := ⟨_, rfl⟩
  obtain ⟨w0, hw0⟩ : ∃ x, x = w.alloc (.cells #[.string snm, .string stx, .int .i64 st, .int .i64 ln, .bool rp, .int .i64 fr, .int .i64 ev, .int .i64 ct, .int .i64 ti, .slice am mo.length km, .slice ad da.length kd, .slice aw we.length kw, .slice ap pk.length kp, .slice aM M.length kM, .slice aN N.length kN, .slice aC C.length kC, .slice aA A.length kA] 29) := ⟨_, rfl⟩
  have hb0 : Below w.heap.size w w0 := by rw [hw0]; exact (Below.refl _ _).alloc (Nat.le_refl _) _
  have ec := hw0 ▸ evC_new w 29 snm stx st ln rp fr ev ct ti (.slice am mo.length km) (.slice ad da.length kd) (.slice aw we.length kw) (.slice ap pk.length kp) (.slice aM M.length kM) (.slice aN N.length kN) (.slice aC C.length kC) (.slice aA A.length kA)
  rw [← heb] at ec
  obtain ⟨t1, t2⟩ := timeB_yes hok.1
  obtain ⟨y, m, d, hd, hn⟩ := Cal.ex_date (st / 1440 + 1) (by omega) (by omega)
  obtain ⟨T, hT⟩ : ∃ T, T = ruleT rp st fr ev ct ti mo da we pk := ⟨_, rfl⟩
  obtain ⟨E, hE⟩ : ∃ E, E = eachL fr ev ct ti y m d mo da we pk (st / 1440 + 1) := ⟨_, rfl⟩
  obtain ⟨mi, hmi⟩ : ∃ x, x = st % 1440 := ⟨_, rfl⟩
  have TE := Lib.hid (show rp = true → T = tmsL mi E from fun h => by rw [hT, ruleT, if_pos h, daysAt_eq hd hn, hE, hmi])
  have TF := Lib.hid (show rp = false → T = [st] from fun h => by rw [hT, ruleT, h]; rfl)
  have EU := Lib.hid (show rp = true → E.Pairwise (· < ·) ∧ ∀ z ∈ E, 1 ≤ z ∧ z ≤ 109573 from fun h => by rw [hE]; exact eachL_up hd hn (ruleF_0 (hok.2.1 h)).2.1)
  have EL := Lib.hid (show rp = true → E.length ≤ 109573 from fun h => by rw [hE]; exact eachL_len hd hn (ruleF_0 (hok.2.1 h)).2.1)
  obtain ⟨tt, htt⟩ : ∃ x, x = wrap64 (wrap64 (b.tdiv 1440) + 1) := ⟨_, rfl⟩
  have TT := Lib.hid (show 0 ≤ b → b / 1440 + 1 ≤ tt from fun h => by rw [htt]; exact tt_ok hbb h)
  have SQ := Lib.hid (show rp = true → ∀ wx, Below w0.heap.size w0 wx → Calls Tryz.prog 189 #[.agg #[.int .i64 fr, .int .i64 ev, .int .i64 ct, .int .i64 ti, .slice am mo.length km, .slice ad da.length kd, .slice aw we.length kw, .slice ap pk.length kp], .int .i64 (st / 1440 + 1), .int .i64 (wrap64 (wrap64 (b.tdiv 1440) + 1)), .int .i64 200000] wx
      (fun e w' => ∃ r, e = .returned r ∧ IntsR w' r (upto tt E) ∧ Below wx.heap.size wx w') from fun h wx hbx => by
    have hbw := hb0.trans (hbx.mono hb0.size)
    have hF := hok.2.1 h
    have hr := ruleF_0 hF
    have ht : 0 ≤ ti := by
      have hu := hF
      unfold ruleF at hu
      by_cases g1 : numsB fr ev ct ti = true
      · simp [numsB, dayOk] at g1; omega
      · rw [if_neg g1] at hu; omega
    have hu := all_up hd hn hr.2.1 (fr := fr) (mo := mo) (da := da) (we := we) (pk := pk)
    rw [← htt]
    refine (rseq_any fr ev ct ti y m d (st / 1440 + 1) tt 200000 _ _ _ _ mo da we pk wx (h1.below hbw) (h2.below hbw) (h3.below hbw) (h4.below hbw) hd hn hF (by omega)).mono fun e w' ⟨v, g1, g2, g3⟩ => ⟨v, g1, ?_, g3⟩
    rw [seqR_each hr.2.2.1.1 ht hu.1] at g2
    have e2 : (upto tt (eachL fr ev ct ti y m d mo da we pk (st / 1440 + 1))).take (200000 : Int).toNat = upto tt E := by
      rw [hE]
      refine List.take_of_length_le (Nat.le_trans (List.length_filter_le _ _) ?_)
      have := EL.out h
      rw [hE] at this
      omega
    rw [← e2]
    exact g2)
  have MB := Lib.hid (show 0 ≤ mi ∧ mi < 1440 by omega)
  have SM := Lib.hid (show st.tmod 1440 = mi by rw [hmi]; exact Int.tmod_eq_emod_of_nonneg (b := 1440) (by omega))
  have HM := Lib.hid (show 0 < M.length → ∃ b off, aM = some ⟨b, off, none⟩ ∧ ∀ j (hj : j < M.length), w0.cell? ⟨b, off + j, none⟩ = some (.int .i64 M[j]) from fun hp => by
    obtain ⟨b, off, e1, e2⟩ := hcM hp
    exact ⟨b, off, e1, fun j hj => cell_below hb0 (e2 j hj)⟩)
  have RN := Lib.hid (hN.below hb0)
  have lM := hok.2.2
  unfold maxLen at kM2
  have EC := Lib.hid ec; have B0 := Lib.hid hb0; have W0 := Lib.hid hw0; have EB := Lib.hid heb
  rw [← hT]
  clear h1 h2 h3 h4 hM hN hC hA hds hcM hok hw0 hb0 ec heb hT hE hmi htt hbb hd hn
  go_enter Tryz.func118, Tryz.ntmps118
  go_upto_region 1 with fail
  rw [← W0.out]
  rw [← EB.out]
  have k2 := EC.out.k2
  obtain ⟨w1, hw1⟩ : ∃ x, x = w0.alloc (.cells #[.int .i64 st] 3) := ⟨_, rfl⟩
  obtain ⟨ob, hob⟩ : ∃ x, x = w0.heap.size := ⟨_, rfl⟩
  have hb1 : Below w0.heap.size w0 w1 := by rw [hw1]; exact (Below.refl _ _).alloc (Nat.le_refl _) _
  have L1 := Lib.hid (show rp = false → LocB a b T w1 (.slice (some ⟨ob, 0, none⟩) 1 1) from fun h => by
    refine ⟨[st], ?_, by simp, fun x _ _ => by rw [TF.out h], by simp⟩
    rw [hw1, hob]
    exact ints_oneL (by simp))
  have B1 := Lib.hid hb1; have W1 := Lib.hid hw1; have OB := Lib.hid hob
  clear hw1 hob hb1
  go_upto_region 2 with fail
  rw [← W1.out]
  rw [← OB.out]
  clear k2
  have E1 := Lib.hid (EC.out.below B1.out)
  have k2 := E1.out.k2; have k4 := E1.out.k4; have k5 := E1.out.k5; have k6 := E1.out.k6; have k7 := E1.out.k7; have k8 := E1.out.k8; have k9 := E1.out.k9; have k10 := E1.out.k10; have k11 := E1.out.k11; have k12 := E1.out.k12
  go_upto_if 18 with fail
  go_cut [7] (fun s7 wx => LocB a b T wx s7 ∧ Below w1.heap.size w1 wx)
  case first => as_aux_lemma =>
    cases rp
    · have L2 := Lib.hid (L1.out rfl)
      go_wp2
      go_meet
      exact ⟨L2.out, Below.refl _ _⟩
    obtain ⟨e1, e2⟩ := EU.out rfl
    have EUr := Lib.hid e1; have EB2 := Lib.hid e2
    have ELn := EL.out rfl
    have SQ1 := Lib.hid (SQ.out rfl _ B1.out)
    clear e1 e2
    go_wp2_with fail
    refine SQ1.out.mono ?_; rintro e w2 ⟨v, rfl, hv, hb2⟩
    obtain ⟨D, hD⟩ : ∃ D, D = upto tt E := ⟨_, rfl⟩
    rw [← hD] at hv
    have DB := Lib.hid (show ∀ z ∈ D, 1 ≤ z ∧ z ≤ 109573 from fun z hz => by rw [hD] at hz; exact EB2.out z (List.mem_filter.1 hz).1)
    have LD := Lib.hid (show (tmsL mi D).Pairwise (· < ·) ∧ (∀ x, a ≤ x → x ≤ b → (x ∈ tmsL mi D ↔ x ∈ T)) by
      rw [hD]
      refine ⟨tms_rise (EUr.out.filter _) (fun z hz => EB2.out z (List.mem_filter.1 hz).1) MB.out.1 MB.out.2, fun x _ hx => ?_⟩
      rw [TE.out (by simp)]
      exact loc_days EB2.out MB.out.1 MB.out.2 TT.out x hx)
    have DL : D.length ≤ 109573 := by rw [hD]; exact Nat.le_trans (List.length_filter_le _ _) ELn
    have V2 := Lib.hid hv
    obtain ⟨va, vc, rfl, -, kv2, hcs⟩ := intsR_open hv
    unfold maxLen at kv2
    have HD := Lib.hid hcs
    have B2 := Lib.hid hb2
    have E2 := Lib.hid (E1.out.below hb2)
    obtain ⟨n, hn⟩ : ∃ n, n = D.length := ⟨_, rfl⟩
    have NE := Lib.hid hn
    rw [← hn] at DL ⊢
    clear hv hcs hb2 hD hn k2 k4 k5 k6 k7 k8 k9 k10 k11 k12 SQ1
    go_wp2_with fail
    go_loopg [7, 9] n (fun g ov iv wr => ∃ k : Nat, k ≤ n ∧ iv = .int .i64 k ∧ g = n - k ∧ wr.ownsRow w2.heap.size 3 1 ov k ((tmsL mi (D.take k)).map (Value.int .i64)) ∧ Below w2.heap.size w2 wr)
    case atStart => exact ⟨0, Nat.zero_le _, rfl, rfl, World.ownsRow_nil _ _ _ _, Below.refl _ _⟩
    case round =>
      obtain ⟨k, hk, rfl, hg, ho, hb⟩ := hrel
      obtain ⟨w3, rfl⟩ : ∃ x, x = wr := ⟨_, rfl⟩
      have G := Lib.hid hg; have OW := Lib.hid ho; have B3 := Lib.hid hb
      obtain ⟨oa, oc, rfl, -, -, -⟩ := owns_cells ho
      clear hg ho hb
      by_cases hlt : k < n
      · have hk1 : k < D.length := by rw [← NE.out]; exact hlt
        obtain ⟨gb, go, rfl, hcs⟩ := HD.out (by omega)
        have d0 := hcs k hk1
        have d2 := E2.out.k2
        have c0 := cell_below B3.out d0
        have k2 := cell_below B3.out d2
        have TN := Lib.hid (show tmsL mi (D.take (k + 1)) = tmsL mi (D.take k) ++ [evT mi D[k]] by unfold tmsL; rw [List.take_succ_eq_append_getElem hk1, List.map_append]; rfl)
        obtain ⟨z, hz⟩ : ∃ z, z = D[k] := ⟨_, rfl⟩
        have zb := DB.out z (by rw [hz]; exact List.getElem_mem _)
        rw [← hz] at c0 TN d0
        obtain ⟨O, hO⟩ : ∃ O, O = tmsL mi (D.take k) := ⟨_, rfl⟩
        rw [← hO] at OW TN
        obtain ⟨u, hu⟩ : ∃ u, u = evT mi z := ⟨_, rfl⟩
        have UE := Lib.hid (show IntKind.i64.wrap (IntKind.i64.wrap (IntKind.i64.wrap (z - 1) * 1440) + st.tmod 1440) = u by rw [SM.out, hu, IntWalk.i64_left, IntWalk.i64_left, IntWalk.i64_left]; rfl)
        rw [← hu] at TN
        have j0 : (0 : Int) ≤ (k : Int) := Int.natCast_nonneg _
        have j2 : (k : Int) < (n : Int) := by omega
        have hs3 := B3.out.size
        have hlE : eb < w3.heap.size := World.block_lt_of_cell? w3 _ k2
        have hlG : gb < w3.heap.size := World.block_lt_of_cell? w3 _ c0
        clear hcs hz hO hu
        go_upto_region 8 with fail
        go_region_held3 (fun w' => w'.cell? ⟨gb, go + k, none⟩ = some (.int .i64 z) ∧ w'.cell? ⟨eb, 2, none⟩ = some (.int .i64 st))
            (first | (refine ⟨?_, ?_⟩ <;> assumption) | (refine ⟨?_, ?_⟩ <;> (first | exact cell_below hB4 d0 | exact cell_below hB4 d2)) | (refine ⟨?_, ?_⟩ <;> (first | exact cell_below (B3.out.alloc B3.out.size _) d0 | exact cell_below (B3.out.alloc B3.out.size _) d2 | exact cell_below (B3.out.drew.alloc B3.out.size _) d0 | exact cell_below (B3.out.drew.alloc B3.out.size _) d2 | exact cell_below ((B3.out.alloc B3.out.size _).drew) d0 | exact cell_below ((B3.out.alloc B3.out.size _).drew) d2)))
            (first
              | (rw [UE.out]; refine step_append_lies _ (by rfl) _ _ _ (by rfl) w2.heap.size 3 i0 _ 1 8 Tryz.underlying22 hi0 hz0 hz1 hz2 rfl (by decide) (.slice oa k oc) k (O.map (Value.int .i64)) (by rfl) (by first | exact OW.out.alloc _ | exact (OW.out.alloc _).drew | exact (OW.out.drew).alloc _) ⟨w3.heap.size, 0, none⟩ 1 1 [.int .i64 u] (by rfl) (by rfl) (World.news_of_block (cs := #[.int .i64 u]) (t := 3) (fr := (0, 0)) (heap_alloc_new w3 _)) (by simp [Value.oneCell']) (by decide) (by unfold maxLen; omega) (by omega) (by simp; omega) (w3.heap.size + 1) (by simp) ?_; intro gg cap1 w4 hown1 hgrow hat hlt1; have hB4 : Below w2.heap.size w2 w4 := by first | exact (B3.out.alloc B3.out.size _).grown hgrow (by simp; omega) (fun c hc => (OW.out.lt c hc).1) | exact ((B3.out.alloc B3.out.size _).drew).grown hgrow (by simp; omega) (fun c hc => (OW.out.lt c hc).1) | exact ((B3.out.drew).alloc B3.out.size _).grown hgrow (by simp; omega) (fun c hc => (OW.out.lt c hc).1)))
        have O4 := Lib.hid hown1; have B4 := Lib.hid hB4
        clear hown1 hgrow hat hlt1 hB4 c0 k2 d0 d2
        go_wp2
        go_roundg (n - (k + 1))
        case measure => rw [G.out]; omega
        case rel => exact ⟨k + 1, by omega, by go_num, rfl, by rw [TN.out, List.map_append]; exact O4.out, B4.out⟩
      · obtain rfl : k = n := by omega
        have j2 : ¬ (k : Int) < (k : Int) := by omega
        have e1 : D.take k = D := List.take_of_length_le (by rw [NE.out]; exact Nat.le_refl _)
        rw [e1] at OW
        have LX := Lib.hid (show LocB a b T w3 (.slice oa k oc) from ⟨tmsL mi D, intsR_of_owns (by rw [show (tmsL mi D).length = k by rw [tmsL, List.length_map, NE.out]]; exact OW.out), LD.out.1, LD.out.2, by rw [tmsL, List.length_map, ← NE.out]; exact DL⟩)
        clear e1
        go_wp2
        go_meet
        exact ⟨LX.out, B2.out.trans (B3.out.mono B2.out.size)⟩
  case rest =>
  obtain ⟨hLB, hb2⟩ := hcut
  obtain ⟨w2, rfl⟩ : ∃ x, x = wc := ⟨_, rfl⟩
  obtain ⟨L0, hL0, hLr, hLT, hLl⟩ := hLB
  obtain ⟨ga, gc, rfl, -, -, -⟩ := intsR_open hL0
  have RB := Lib.hid hL0; have LR := Lib.hid hLr; have LL := Lib.hid hLl
  have B2 := Lib.hid (B1.out.trans (hb2.mono B1.out.size))
  have LE := Lib.hid (local_eq (M := M) (N := N) hLr hLT)
  clear hL0 hLr hLT hLl hb2 k2 k4 k5 k6 k7 k8 k9 k10 k11 k12 E1 L1 B1 SQ TE TF EU EL TT MB SM
  go_upto_block 2 with fail
  go_cut [7] (fun s7 wx => IntsR wx s7 (M.foldl putL L0) ∧ Below w2.heap.size w2 wx)
  case first => as_aux_lemma =>
    go_wp2_with fail
    go_loopg [7, 10] M.length (fun g ov iv wr => ∃ j : Nat, j ≤ M.length ∧ iv = .int .i64 j ∧ g = M.length - j ∧ IntsR wr ov ((M.take j).foldl putL L0) ∧ Below w2.heap.size w2 wr)
    case atStart => exact ⟨0, Nat.zero_le _, rfl, rfl, RB.out, Below.refl _ _⟩
    case round =>
      obtain ⟨j, hj, rfl, hg, ho, hb⟩ := hrel
      obtain ⟨w3, rfl⟩ : ∃ x, x = wr := ⟨_, rfl⟩
      have G := Lib.hid hg; have B3 := Lib.hid hb; have OV := Lib.hid ho
      have k13 := ((EC.out.below B2.out).below B3.out).k13
      obtain ⟨oa, oc, rfl, -, -, -⟩ := intsR_open ho
      clear hg hb ho
      by_cases hlt : j < M.length
      · obtain ⟨mb, mo2, rfl, hcs⟩ := HM.out (by omega)
        have c0 := cell_below B3.out (cell_below B2.out (hcs j hlt))
        have SN := Lib.hid (show (M.take (j + 1)).foldl putL L0 = putL ((M.take j).foldl putL L0) M[j] by rw [List.take_succ_eq_append_getElem hlt, List.foldl_append]; rfl)
        obtain ⟨x, hx⟩ : ∃ x, x = M[j] := ⟨_, rfl⟩
        obtain ⟨O, hO⟩ : ∃ O, O = (M.take j).foldl putL L0 := ⟨_, rfl⟩
        have UP : O.Pairwise (· < ·) := by rw [hO]; exact putF_up _ _ LR.out
        have LN : O.length ≤ 1000000 := by rw [hO]; refine Nat.le_trans (putF_len _ _) ?_; have h1 := LL.out; have h2 := List.length_take_le j M; omega
        rw [← hx] at c0 SN; rw [← hO] at OV SN
        have PU := Lib.hid (rput_any _ O x w3 (by first | exact OV.out | (rw [hO]; exact OV.out)) UP LN)
        have j0 : (0 : Int) ≤ (j : Int) := Int.natCast_nonneg _
        have j2 : (j : Int) < (M.length : Int) := by omega
        rw [← hO]
        clear hcs hx hO UP LN
        go_wp2_with fail
        refine PU.out.mono ?_; rintro e w4 ⟨v, rfl, hv, hb4⟩
        have HV := Lib.hid hv; have HB := Lib.hid (B3.out.trans (hb4.mono B3.out.size))
        clear hv hb4 c0 k13
        have s1 : IntKind.i64.wrap ((j : Int) + 1) = (j : Int) + 1 := IntWalk.i64_in _ (by omega)
        go_wp2
        go_roundg (M.length - (j + 1))
        case measure => rw [G.out]; omega
        case rel => exact ⟨j + 1, by omega, by go_num, rfl, by rw [SN.out]; exact HV.out, HB.out⟩
      · obtain rfl : j = M.length := by omega
        have j2 : ¬ ((M.length : Nat) : Int) < (M.length : Int) := by omega
        have e1 : M.take M.length = M := List.take_length
        rw [e1] at OV
        rw [e1]
        clear e1
        go_wp2
        go_meet
        exact ⟨OV.out, B3.out⟩
  case rest =>
  obtain ⟨hL, hb3⟩ := hcut
  obtain ⟨w3, rfl⟩ : ∃ x, x = wc := ⟨_, rfl⟩
  obtain ⟨L, hLe⟩ : ∃ L, L = M.foldl putL L0 := ⟨_, rfl⟩
  rw [← hLe] at hL LE
  have LL2 : L.length ≤ 1000000 := by rw [hLe]; refine Nat.le_trans (putF_len _ _) ?_; have h1 := LL.out; omega
  obtain ⟨la, lc, rfl, -, -, hcl⟩ := intsR_open hL
  have B3 := Lib.hid (B2.out.trans (hb3.mono B2.out.size))
  have HL := Lib.hid hcl
  clear hL hcl hb3 hLe RB LR LL
  go_upto_block 4 with fail
  go_cut [11] (fun s11 wx => (∃ u, s11 = u ∧ IntsR wx u (evL T M N a b) ∧ FreshV w3.heap.size u) ∧ Below w3.heap.size w3 wx)
  case first => as_aux_lemma =>
    go_wp2_with fail
    go_loopg [11, 12] L.length (fun g ov iv wr => ∃ j : Nat, j ≤ L.length ∧ iv = .int .i64 j ∧ g = L.length - j ∧ wr.ownsRow w3.heap.size 3 1 ov ((L.take j).filter (keepB N a b)).length (((L.take j).filter (keepB N a b)).map (Value.int .i64)) ∧ Below w3.heap.size w3 wr)
    case atStart => exact ⟨0, Nat.zero_le _, rfl, rfl, World.ownsRow_nil _ _ _ _, Below.refl _ _⟩
    case round =>
      obtain ⟨j, hj, rfl, hg, ho, hb⟩ := hrel
      obtain ⟨w4, rfl⟩ : ∃ x, x = wr := ⟨_, rfl⟩
      have G := Lib.hid hg; have B4 := Lib.hid hb; have OW := Lib.hid ho
      have k14 := ((EC.out.below B3.out).below B4.out).k14
      obtain ⟨oa, oc, rfl, -, -, -⟩ := owns_cells ho
      clear hg hb ho
      by_cases hlt : j < L.length
      · obtain ⟨gb, go, rfl, hcs⟩ := HL.out (by omega)
        have c0 := cell_below B4.out (hcs j hlt)
        have SN := Lib.hid (keep_snoc (p := keepB N a b) hlt)
        obtain ⟨x, hx⟩ : ∃ x, x = L[j] := ⟨_, rfl⟩
        rw [← hx] at c0 SN
        obtain ⟨O, hO⟩ : ∃ O, O = (L.take j).filter (keepB N a b) := ⟨_, rfl⟩
        have OL : O.length ≤ 1000000 := by rw [hO]; exact Nat.le_trans (keep_len _ _ _) (by omega)
        rw [← hO] at OW SN ⊢
        have RN4 := Lib.hid ((RN.out.below B3.out).below B4.out)
        have j0 : (0 : Int) ≤ (j : Int) := Int.natCast_nonneg _
        have j2 : (j : Int) < (L.length : Int) := by omega
        have s1 : IntKind.i64.wrap ((j : Int) + 1) = (j : Int) + 1 := IntWalk.i64_in _ (by omega)
        clear hcs hx hO
        go_upto_region 17 with fail
        go_cut [13] (fun s13 wx => s13 = .bool (inB N x) ∧ Below w4.heap.size w4 wx)
        case first => as_aux_lemma =>
          go_still_tail 6, (by kernel_rfl)
          change wpList _ _ _ _ _ w4.drew
          go_wp2_with fail
          refine (rin_any _ N x _ (RN4.out.below ((Below.refl _ _).drew))).mono ?_; rintro e w5 ⟨rfl, rfl⟩
          go_wp2
          go_meet
          exact ⟨rfl, (Below.refl _ _).drew⟩
        case rest =>
        obtain ⟨rfl, hb5⟩ := hcut
        obtain ⟨w5, rfl⟩ : ∃ x, x = wc := ⟨_, rfl⟩
        have c0 := cell_below hb5 c0
        have B5 := Lib.hid (B4.out.trans (hb5.mono B4.out.size))
        have OW5 := Lib.hid (own_kept OW.out hb5)
        have KE := Lib.hid (show keepB N a b x = (!inB N x && decide (a ≤ x) && decide (x ≤ b)) from rfl)
        obtain ⟨bn, hbn⟩ : ∃ q, q = inB N x := ⟨_, rfl⟩
        obtain ⟨bk, hbk⟩ : ∃ q, q = keepB N a b x := ⟨_, rfl⟩
        rw [← hbn] at KE ⊢
        rw [← hbk] at KE SN
        clear hbn hbk hb5 k14 OW RN4
        go_upto_region 18 with fail
        go_cut [92] (fun s92 wx => s92 = .bool bk ∧ Below w5.heap.size w5 wx)
        case first => as_aux_lemma =>
          cases bn
          · by_cases g1 : a ≤ x
            · have d1 : decide (a ≤ x) = true := decide_eq_true g1
              by_cases g2 : x ≤ b
              · have d2 : decide (x ≤ b) = true := decide_eq_true g2
                clear g1 g2
                go_wp2
                go_meet
                exact ⟨by rw [KE.out]; first | rfl | simp [d1, d2], by first | exact Below.refl _ _ | exact below_drewN (Below.refl _ _) _⟩
              · have d2 : decide (x ≤ b) = false := decide_eq_false g2
                clear g1 g2
                go_wp2
                go_meet
                exact ⟨by rw [KE.out]; first | rfl | simp [d1, d2], by first | exact Below.refl _ _ | exact below_drewN (Below.refl _ _) _⟩
            · have d1 : decide (a ≤ x) = false := decide_eq_false g1
              clear g1
              go_wp2
              go_meet
              exact ⟨by rw [KE.out]; first | rfl | simp [d1], by first | exact Below.refl _ _ | exact below_drewN (Below.refl _ _) _⟩
          · go_wp2
            go_meet
            exact ⟨by rw [KE.out]; first | rfl | simp, by first | exact Below.refl _ _ | exact below_drewN (Below.refl _ _) _⟩
        case rest =>
        obtain ⟨rfl, hb6⟩ := hcut
        obtain ⟨w6, rfl⟩ : ∃ x, x = wc := ⟨_, rfl⟩
        have c0 := cell_below hb6 c0
        have B6 := Lib.hid (B5.out.trans (hb6.mono B5.out.size))
        have hown := own_kept OW5.out hb6
        have hw6 := B6.out.size
        clear hb6 OW5 KE
        cases bk
        · have HO := Lib.hid hown
          clear hown c0
          go_wp2
          go_roundg (L.length - (j + 1))
          case measure => rw [G.out]; omega
          case rel => exact ⟨j + 1, by omega, by go_num, rfl, by rw [SN.out]; simpa using HO.out, B6.out⟩
        · go_wp2_with (at_builtin; refine wpList_append_lies _ rfl _ _ 22 rfl w3.heap.size 3 i0 _ 1 8 Tryz.underlying22 hi0 hz0 hz1 hz2 rfl (by decide) _ _ _ rfl (hown.alloc _) ⟨w6.heap.size, 0, none⟩ 1 1 [.int .i64 x] rfl rfl (cell_one_new _ _ _) (by simp [Value.oneCell']) (by decide) (by unfold maxLen; omega) (by omega) (by simp; omega) _ rfl ?_)
          intro g7 cap7 w7 hown7 hgrow7 hat7 hlt7
          have HO := Lib.hid hown7
          have HB := Lib.hid ((B6.out.alloc hw6 (.cells #[.int .i64 x] 3)).grown hgrow7 (by simp; omega) (fun c hc => (hown.lt c hc).1))
          clear hown7 hgrow7 hat7 hlt7 hown c0
          go_wp2
          go_roundg (L.length - (j + 1))
          case measure => rw [G.out]; omega
          case rel => exact ⟨j + 1, by omega, by go_num, rfl, by rw [show (L.take (j + 1)).filter (keepB N a b) = O ++ [x] from SN.out.trans (by simp), List.length_append, List.map_append]; exact HO.out, HB.out⟩
      · obtain rfl : j = L.length := by omega
        have j2 : ¬ ((L.length : Nat) : Int) < (L.length : Int) := by omega
        have e1 : L.take L.length = L := List.take_length
        rw [e1] at OW
        rw [LE.out] at OW
        have HI := Lib.hid (intsR_of_owns OW.out)
        have HFr := Lib.hid (show FreshV w3.heap.size _ from ownBlock_ge OW.out)
        rw [e1, LE.out]
        clear e1
        go_wp2
        go_meet
        exact ⟨⟨_, rfl, HI.out, HFr.out⟩, B4.out⟩
  case rest =>
  obtain ⟨⟨u, rfl, hu, hfr⟩, hb4⟩ := hcut
  have HU := Lib.hid hu
  have HFr := Lib.hid (show FreshV w.heap.size _ from fun k hk => Nat.le_trans (Nat.le_trans B0.out.size B3.out.size) (hfr k hk))
  clear hfr
  have HB := Lib.hid (B3.out.trans (hb4.mono B3.out.size))
  clear hu hb4
  go_wp2
  go_ret
  exact ⟨_, rfl, ⟨HU.out, HFr.out⟩, B0.out.trans (HB.out.mono B0.out.size)⟩

theorem rlocal_any (snm stx : ByteArray) (st ln : Int) (rp : Bool) (fr ev ct ti : Int) (vm vd vw vp vM vN vC vA : Value) (mo da : List Int) (we : List (Int × Int)) (pk M N : List Int) (C : List (Int × Int)) (A : List Alm) (a b : Int) (w : World) (hR : EvR w vm vd vw vp vM vN vC vA mo da we pk M N C A) (hok : EvOk rp st fr ev ct ti mo da we pk M) (hbb : -9223372036854775808 ≤ b ∧ b < 9223372036854775808) :
    Calls Tryz.prog 118 #[.agg #[.string snm, .string stx, .int .i64 st, .int .i64 ln, .bool rp, .int .i64 fr, .int .i64 ev, .int .i64 ct, .int .i64 ti, vm, vd, vw, vp, vM, vN, vC, vA], .int .i64 a, .int .i64 b] w fun e w' => ∃ u, e = .returned u ∧ IntsR w' u (evL (ruleT rp st fr ev ct ti mo da we pk) M N a b) ∧ Below w.heap.size w w' :=
  (rlocal_own snm stx st ln rp fr ev ct ti vm vd vw vp vM vN vC vA mo da we pk M N C A a b w hR hok hbb).mono fun _ _ ⟨u, h1, h2, h3⟩ => ⟨u, h1, h2.1, h3⟩

end Go.Proofs.YtgelojhpanbnaaaGreatDoor

namespace Go.Proofs.YtgelojhpanbnaaaGreatDoor
open Go.RowKit Go.Shelf
set_option linter.unusedSimpArgs false
set_option linter.unusedVariables false

theorem really_hit {C : List (Int × Int)} {t : Int} {k : Nat} (h : k < C.length) (hn : ∀ i (hi : i < C.length), i < k → C[i].1 ≠ t) (he : C[k].1 = t) : reallyC C t = (C[k].2, C[k].2 == 0) := by
  have hf : C.find? (fun c => c.1 == t) = some C[k] := by
    rw [List.find?_eq_some_iff_getElem]
    refine ⟨by simpa using he, k, h, rfl, fun j hj => ?_⟩
    simpa using hn j (by omega) hj
  unfold reallyC; rw [hf]

theorem really_none {C : List (Int × Int)} {t : Int} (hn : ∀ i (hi : i < C.length), C[i].1 ≠ t) : reallyC C t = (t, false) := by
  have hf : C.find? (fun c => c.1 == t) = none := List.find?_eq_none.2 fun c hc => by
    obtain ⟨i, hi, rfl⟩ := List.mem_iff_getElem.1 hc
    simpa using hn i hi
  unfold reallyC; rw [hf]

set_option maxRecDepth 100000 in
set_option maxHeartbeats 8000000 in
theorem rreally_any (snm stx : ByteArray) (st ln : Int) (rp : Bool) (fr ev ct ti : Int) (vm vd vw vp vM vN vC vA : Value) (mo da : List Int) (we : List (Int × Int)) (pk M N : List Int) (C : List (Int × Int)) (A : List Alm) (x : Int) (w : World) (h1 : vm.oneCell' = true) (h2 : vd.oneCell' = true) (h3 : vw.oneCell' = true) (h4 : vp.oneCell' = true) (h5 : vM.oneCell' = true) (h6 : vN.oneCell' = true) (h7 : vA.oneCell' = true) (hC : PairsR w vC C) (hcl : C.length ≤ 8796093022208) :
    Calls Tryz.prog 121 #[.agg #[.string snm, .string stx, .int .i64 st, .int .i64 ln, .bool rp, .int .i64 fr, .int .i64 ev, .int .i64 ct, .int .i64 ti, vm, vd, vw, vp, vM, vN, vC, vA], .int .i64 x] w fun e w' => e = .returned (.tuple #[.int .i64 (reallyC C x).1, .bool (!(reallyC C x).2)]) ∧ Below w.heap.size w w' := by
  obtain ⟨aC, kC, rfl, -, kC2, hcs⟩ := pairsR_open hC
  unfold maxLen at kC2
  obtain ⟨eb, heb⟩ : ∃ x, x = w.heap.size := ⟨_, rfl⟩
  obtain ⟨w0, hw0⟩ : ∃ x, x = w.alloc (.cells #[.string snm, .string stx, .int .i64 st, .int .i64 ln, .bool rp, .int .i64 fr, .int .i64 ev, .int .i64 ct, .int .i64 ti, vm, vd, vw, vp, vM, vN, .slice aC C.length kC, vA] 29) := ⟨_, rfl⟩
  have hb0 : Below w.heap.size w w0 := by rw [hw0]; exact (Below.refl _ _).alloc (Nat.le_refl _) _
  have ec := hw0 ▸ evC_new w 29 snm stx st ln rp fr ev ct ti vm vd vw vp vM vN (.slice aC C.length kC) vA
  rw [← heb] at ec
  have HC := Lib.hid (show 0 < C.length → ∃ b off, aC = some ⟨b, off, none⟩ ∧ ∀ j (hj : j < C.length), w0.cell? ⟨b, off + j * 2, none⟩ = some (.int .i64 C[j].1) ∧ w0.cell? ⟨b, off + j * 2 + 1, none⟩ = some (.int .i64 C[j].2) from fun hp => by
    obtain ⟨b, off, e1, e2⟩ := hcs hp
    exact ⟨b, off, e1, fun j hj => ⟨cell_below hb0 (e2 j hj).1, cell_below hb0 (e2 j hj).2⟩⟩)
  have K15 := Lib.hid ec.k15; have B0 := Lib.hid hb0; have W0 := Lib.hid hw0; have EB := Lib.hid heb
  clear hC hcs hw0 hb0 ec heb
  go_enter Tryz.func121, Tryz.ntmps121
  go_upto_region 1 with fail
  rw [← W0.out]
  rw [← EB.out]
  go_wp2_with fail
  go_loopg [6] C.length (fun g iv wr => ∃ k : Nat, k ≤ C.length ∧ iv = .int .i64 k ∧ g = C.length - k ∧ Hid (∀ i (hi : i < C.length), i < k → C[i].1 ≠ x) ∧ w0 = wr)
  case atStart => exact ⟨0, Nat.zero_le _, rfl, rfl, Lib.hid (fun i hi h => by omega), rfl⟩
  case round =>
    obtain ⟨k, hk, rfl, hg, HN, rfl⟩ := hrel
    have G := Lib.hid hg; clear hg
    have k15 := K15.out
    by_cases hlt : k < C.length
    · obtain ⟨cb, co, rfl, hcs⟩ := HC.out (by omega)
      obtain ⟨c0, c1⟩ := hcs k hlt
      obtain ⟨p, hp⟩ : ∃ p, p = C[k].1 := ⟨_, rfl⟩
      obtain ⟨q, hq⟩ : ∃ q, q = C[k].2 := ⟨_, rfl⟩
      rw [← hp] at c0; rw [← hq] at c1
      have j0 : (0 : Int) ≤ (k : Int) := Int.natCast_nonneg _
      have j2 : (k : Int) < (C.length : Int) := by omega
      by_cases g1 : p = x
      · have d1 : (p == x) = true := by simpa using g1
        have RR := Lib.hid (show reallyC C x = (q, q == 0) by rw [hq]; exact really_hit hlt HN.out (by rw [← hp]; exact g1))
        have NE := Lib.hid (show (q != 0) = !(q == 0) from rfl)
        clear hp hq hcs g1
        go_wp2
        go_quiet (fail)
        go_wp2
        go_ret2
        exact ⟨by rw [RR.out]; rfl, below_drewN B0.out _⟩
      · have d1 : (p == x) = false := by simpa using g1
        have NX := Lib.hid (show ∀ i (hi : i < C.length), i < k + 1 → C[i].1 ≠ x from fun i hi h => by
          rcases Nat.lt_or_ge i k with h1 | h1
          · exact HN.out i hi h1
          · obtain rfl : i = k := by omega
            rw [← hp]; exact g1)
        clear hp hq hcs g1
        go_wp2
        go_roundg (C.length - (k + 1))
        case measure => rw [G.out]; omega
        case rel => exact ⟨k + 1, by omega, by go_num, rfl, NX, rfl⟩
    · obtain rfl : k = C.length := by omega
      have j2 : ¬ (C.length : Int) < (C.length : Int) := by omega
      have RR := Lib.hid (show reallyC C x = (x, false) from really_none fun i hi => HN.out i hi hi)
      go_wp2
      go_ret2
      exact ⟨by rw [RR.out]; rfl, B0.out⟩

end Go.Proofs.YtgelojhpanbnaaaGreatDoor
