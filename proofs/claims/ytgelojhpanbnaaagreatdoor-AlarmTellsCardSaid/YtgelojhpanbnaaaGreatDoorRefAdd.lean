/- The contract of the reference chimeref2.Add. Conditions: the list is in order; it is not too long. -/
import Derived.Test.YtgelojhpanbnaaaGreatDoorQ27
import Derived.Test.YtgelojhpanbnaaaGreatDoorQ24
import Derived.StillTailTactics
namespace Go.Proofs.YtgelojhpanbnaaaGreatDoor
open Go.RowKit Go.Shelf
set_option linter.unusedSimpArgs false
set_option linter.unusedVariables false

theorem ringInfoX : (Tryz.prog.info? 66).map (fun i => (i.zero, i.size, i.bytes)) = some (some (.agg #[.int .i64 0, .string ⟨#[]⟩, .int .i64 0, .int .i64 0, .int .i64 0]), 5, 48) := by kernel_rfl

theorem reads_takeN {w : World} {p : Option Addr} {n cap k s : Nat} {xs : List Value} (h : Reads w (.slice p n cap) s n xs) (hk : k ≤ n) : Reads w (.slice p k cap) s k (xs.take (k * s)) := by
  obtain ⟨p', cap', e, k1, k2, k3, k4⟩ := h
  cases e
  have hm : k * s ≤ n * s := Nat.mul_le_mul_right _ hk
  refine ⟨p, cap, rfl, by rw [List.length_take]; omega, by omega, k3, fun hp => ?_⟩
  obtain ⟨b, off, e1, hc⟩ := k4 (by omega)
  exact ⟨b, off, e1, fun j u hj => hc j u (by rw [List.getElem?_take] at hj; split at hj; exact hj; cases hj)⟩

theorem reads_dropN {w : World} {ad : Addr} {n cap k s : Nat} {xs : List Value} (h : Reads w (.slice (some ad) n cap) s n xs) (hk : k ≤ n) : Reads w (.slice (if cap = k then some ad else some (ad.add (k * s))) (n - k) (cap - k)) s (n - k) (xs.drop (k * s)) := by
  obtain ⟨p', cap', e, k1, k2, k3, k4⟩ := h
  cases e
  have hm : (n - k) * s = n * s - k * s := Nat.sub_mul ..
  by_cases h0 : n - k = 0
  · exact ⟨_, _, rfl, by rw [List.length_drop]; omega, by omega, by omega, fun hp => by omega⟩
  · obtain ⟨b, off, e1, hc⟩ := k4 (by omega)
    cases e1
    have e2 : (⟨b, off, none⟩ : Addr).add (k * s) = ⟨b, off + k * s, none⟩ := by unfold Addr.add; split <;> simp_all
    rw [if_neg (by omega), e2]
    refine ⟨_, _, rfl, by rw [List.length_drop]; omega, by omega, by omega, fun hp => ⟨b, off + k * s, rfl, fun j u hj => ?_⟩⟩
    rw [List.getElem?_drop] at hj
    have := hc (k * s + j) u hj
    rw [← Nat.add_assoc] at this
    exact this

theorem encX_len (x : RngX) : (encX x).length = 5 := rfl

theorem flatX_take : ∀ (L : List RngX) (k : Nat), (L.flatMap encX).take (k * 5) = (L.take k).flatMap encX
  | [], k => by simp
  | x :: r, 0 => by simp
  | x :: r, k + 1 => by
    rw [show (k + 1) * 5 = k * 5 + 1 + 1 + 1 + 1 + 1 by omega]
    simp only [List.flatMap_cons, encX, List.cons_append, List.nil_append, List.take_succ_cons]
    rw [← flatX_take r k]

theorem flatX_drop : ∀ (L : List RngX) (k : Nat), (L.flatMap encX).drop (k * 5) = (L.drop k).flatMap encX
  | [], k => by simp
  | x :: r, 0 => by simp
  | x :: r, k + 1 => by
    rw [show (k + 1) * 5 = k * 5 + 1 + 1 + 1 + 1 + 1 by omega]
    simp only [List.flatMap_cons, encX, List.cons_append, List.nil_append, List.drop_succ_cons]
    rw [← flatX_drop r k]

theorem flatX_one {L : List RngX} {n : Nat} : ∀ u ∈ (L.flatMap encX).take n, u.oneCell' = true := fun u hu => by
  obtain ⟨x, -, hx⟩ := List.mem_flatMap.1 (List.mem_of_mem_take hu)
  simp only [encX, List.mem_cons, List.not_mem_nil, or_false] at hx
  rcases hx with rfl | rfl | rfl | rfl | rfl <;> rfl

theorem flatX_one2 {L : List RngX} {n : Nat} : ∀ u ∈ (L.flatMap encX).drop n, u.oneCell' = true := fun u hu => by
  obtain ⟨x, -, hx⟩ := List.mem_flatMap.1 (List.mem_of_mem_drop hu)
  simp only [encX, List.mem_cons, List.not_mem_nil, or_false] at hx
  rcases hx with rfl | rfl | rfl | rfl | rfl <;> rfl

/-- rings, as they lie. -/
def RngsX (w : World) (v : Value) (L : List RngX) : Prop := Reads w v 5 L.length (L.flatMap encX)

theorem RngsX.below {w w' : World} {v : Value} {L : List RngX} (h : RngsX w v L) (hb : Below w.heap.size w w') : RngsX w' v L := Reads.below h hb

theorem rngsX_nil (w : World) : RngsX w (.slice none 0 0) [] := reads_nil w 5

theorem rngsX_open {w : World} {v : Value} {L : List RngX} (h : RngsX w v L) : ∃ a cap, v = .slice a L.length cap ∧ L.length ≤ cap ∧ cap ≤ maxLen ∧
    (0 < L.length → ∃ b off, a = some ⟨b, off, none⟩ ∧ ∀ (i : Nat) (hi : i < L.length), w.cell? ⟨b, off + i * 5, none⟩ = some (.int .i64 L[i].1) ∧ w.cell? ⟨b, off + i * 5 + 1, none⟩ = some (.string L[i].2.1) ∧ w.cell? ⟨b, off + i * 5 + 2, none⟩ = some (.int .i64 L[i].2.2.1) ∧ w.cell? ⟨b, off + i * 5 + 3, none⟩ = some (.int .i64 L[i].2.2.2.1) ∧ w.cell? ⟨b, off + i * 5 + 4, none⟩ = some (.int .i64 L[i].2.2.2.2)) := by
  obtain ⟨p, cap, rfl, k1, k2, k3, k4⟩ := h
  refine ⟨p, cap, rfl, k2, k3, fun hp => ?_⟩
  obtain ⟨b, off, rfl, hc⟩ := k4 hp
  have q : ∀ (i : Nat) (hi : i < L.length) (o : Nat) (ho : o < 5) (u : Value), (encX L[i])[o]? = some u → w.cell? ⟨b, off + i * 5 + o, none⟩ = some u := fun i hi o ho u hu => by
    rw [Nat.add_assoc]
    exact hc _ _ ((flatMap_at (enc := encX) (k := 5) (fun _ => rfl) L i o hi ho).trans hu)
  exact ⟨b, off, rfl, fun i hi => ⟨q i hi 0 (by omega) _ rfl, q i hi 1 (by omega) _ rfl, q i hi 2 (by omega) _ rfl, q i hi 3 (by omega) _ rfl, q i hi 4 (by omega) _ rfl⟩⟩

theorem five_at {w : World} {a b c d e : Value} {t : TypeId} : Reads (w.alloc (.cells #[a, b, c, d, e] t)) (.slice (some ⟨w.heap.size, 0, none⟩) 1 1) 5 1 [a, b, c, d, e] :=
  reads_one rfl fun j u hj => by
    match j, hj with
    | 0, hj => (simp at hj; subst hj; simp)
    | 1, hj => (simp at hj; subst hj; simp)
    | 2, hj => (simp at hj; subst hj; simp)
    | 3, hj => (simp at hj; subst hj; simp)
    | 4, hj => (simp at hj; subst hj; simp)

set_option maxRecDepth 100000 in
set_option maxHeartbeats 8000000 in
theorem radd_any (v : Value) (L : List RngX) (a1 : Int) (na : ByteArray) (a2 a3 a4 : Int) (w : World) (hL : RngsX w v L) (hr : L.Pairwise LtX) (hl : L.length ≤ 1000000) :
    Calls Tryz.prog 98 #[v, .agg #[.int .i64 a1, .string na, .int .i64 a2, .int .i64 a3, .int .i64 a4]] w fun e w' => ∃ u, e = .returned u ∧ RngsX w' u (putX L (a1, na, a2, a3, a4)) ∧ Below w.heap.size w w' := by
  classical
  obtain ⟨i0, hi0, hz0, hz1, hz2⟩ := info_parts ringInfoX
  obtain ⟨a, cap, rfl, hc1, hc2, hcell⟩ := rngsX_open hL
  unfold maxLen at hc2
  obtain ⟨r, hr0⟩ : ∃ r : RngX, r = (a1, na, a2, a3, a4) := ⟨_, rfl⟩
  obtain ⟨pb, hpb⟩ : ∃ p, p = w.heap.size := ⟨_, rfl⟩
  obtain ⟨w0, hw0⟩ : ∃ x, x = w.alloc (.cells #[.int .i64 a1, .string na, .int .i64 a2, .int .i64 a3, .int .i64 a4] 66) := ⟨_, rfl⟩
  have B0 := Lib.hid (show Below w.heap.size w w0 by rw [hw0]; exact (Below.refl _ _).alloc (Nat.le_refl _) _)
  have p0 : w0.cell? ⟨pb, 0, none⟩ = some (.int .i64 a1) := by rw [hw0, hpb]; simp
  have p1 : w0.cell? ⟨pb, 1, none⟩ = some (.string na) := by rw [hw0, hpb]; simp
  have p2 : w0.cell? ⟨pb, 2, none⟩ = some (.int .i64 a2) := by rw [hw0, hpb]; simp
  have p3 : w0.cell? ⟨pb, 3, none⟩ = some (.int .i64 a3) := by rw [hw0, hpb]; simp
  have p4 : w0.cell? ⟨pb, 4, none⟩ = some (.int .i64 a4) := by rw [hw0, hpb]; simp
  have PC := Lib.hid (show ∀ wx, Below w0.heap.size w0 wx → wx.cell? ⟨pb, 0, none⟩ = some (.int .i64 a1) ∧ wx.cell? ⟨pb, 1, none⟩ = some (.string na) ∧ wx.cell? ⟨pb, 2, none⟩ = some (.int .i64 a2) ∧ wx.cell? ⟨pb, 3, none⟩ = some (.int .i64 a3) ∧ wx.cell? ⟨pb, 4, none⟩ = some (.int .i64 a4) from fun wx hb => ⟨cell_below hb p0, cell_below hb p1, cell_below hb p2, cell_below hb p3, cell_below hb p4⟩)
  have HC := Lib.hid (show 0 < L.length → ∃ b off, a = some ⟨b, off, none⟩ ∧ ∀ wx, Below w0.heap.size w0 wx → ∀ (i : Nat) (hi : i < L.length), wx.cell? ⟨b, off + i * 5, none⟩ = some (.int .i64 L[i].1) ∧ wx.cell? ⟨b, off + i * 5 + 1, none⟩ = some (.string L[i].2.1) ∧ wx.cell? ⟨b, off + i * 5 + 2, none⟩ = some (.int .i64 L[i].2.2.1) ∧ wx.cell? ⟨b, off + i * 5 + 3, none⟩ = some (.int .i64 L[i].2.2.2.1) ∧ wx.cell? ⟨b, off + i * 5 + 4, none⟩ = some (.int .i64 L[i].2.2.2.2) from fun hp => by
    obtain ⟨b, off, e, hc⟩ := hcell hp
    refine ⟨b, off, e, fun wx hb i hi => ?_⟩
    have hbx := B0.out.trans (hb.mono B0.out.size)
    obtain ⟨q0, q1, q2, q3, q4⟩ := hc i hi
    exact ⟨cell_below hbx q0, cell_below hbx q1, cell_below hbx q2, cell_below hbx q3, cell_below hbx q4⟩)
  have HL := Lib.hid (hL.below B0.out); have HR := Lib.hid hr
  have W0 := Lib.hid hw0; have PB := Lib.hid hpb
  have RO := Lib.hid (show ∀ (x : RngX) (wx : World), Calls Tryz.prog 35 #[.agg #[.int .i64 x.1, .string x.2.1, .int .i64 x.2.2.1, .int .i64 x.2.2.2.1, .int .i64 x.2.2.2.2], .agg #[.int .i64 a1, .string na, .int .i64 a2, .int .i64 a3, .int .i64 a4]] wx (fun e w' => e = .returned (.int .i64 (ordX x r)) ∧ Below wx.heap.size wx w') from fun x wx => by rw [hr0]; exact rord_any _ _ _ _ _ _ _ _ _ _ wx)
  rw [← hr0]
  have R0 := Lib.hid hr0
  clear hcell hL hr hw0 hpb hr0 p0 p1 p2 p3 p4
  go_enter Tryz.func98, Tryz.ntmps98
  go_upto_block 0 with fail
  rw [← W0.out, ← PB.out]
  go_cut [5] (fun s5 wx => ∃ k : Nat, k ≤ L.length ∧ s5 = .int .i64 k ∧ Hid (∀ i (hi : i < L.length), k ≤ i → LtX r L[i]) ∧ Hid (∀ i (hi : i < L.length), i < k → ¬ LtX r L[i]) ∧ Below w0.heap.size w0 wx)
  case first => as_aux_lemma =>
    go_wp2_with fail
    go_loopg [5] L.length (fun g kv wr => ∃ k : Nat, k ≤ L.length ∧ kv = .int .i64 k ∧ g = k ∧ Hid (∀ i (hi : i < L.length), k ≤ i → LtX r L[i]) ∧ Below w0.heap.size w0 wr)
    case atStart => exact ⟨L.length, Nat.le_refl _, rfl, rfl, Lib.hid (fun i hi h => by omega), Below.refl _ _⟩
    case round =>
      obtain ⟨k, hk, rfl, hg, HI, hb⟩ := hrel
      have G := Lib.hid hg; have BR := Lib.hid hb; clear hg
      by_cases h0 : k = 0
      · have t0 : decide ((0 : Int) < (k : Int)) = false := decide_eq_false (by omega)
        have t0b : decide (0 < k) = false := decide_eq_false (by omega)
        have NI := Lib.hid (show ∀ i (hi : i < L.length), i < k → ¬ LtX r L[i] from fun i hi h => by omega)
        have BE := Lib.hid hb.drew
        clear h0 hb
        go_upto_region 2 with fail
        go_still_tail 9, (by kernel_rfl)
        change wpList _ _ _ _ _ wr.drew
        go_wp2
        go_meet
        exact ⟨k, hk, rfl, HI, NI, BE.out⟩
      · have hkm : k - 1 < L.length := by omega
        obtain ⟨b, off, rfl, hcs⟩ := HC.out (by omega)
        obtain ⟨c0, c1, c2, c3, c4⟩ := hcs wr hb (k - 1) hkm
        obtain ⟨p0, p1, p2, p3, p4⟩ := PC.out wr hb
        have OC := Lib.hid (RO.out L[k - 1] wr.drew)
        have YES := Lib.hid (show LtX r L[k - 1] → ∀ i (hi : i < L.length), k - 1 ≤ i → LtX r L[i] from fun hl i hi h => by
          rcases Nat.lt_or_ge i k with h1 | h1
          · obtain rfl : i = k - 1 := by omega
            exact hl
          · exact HI.out i hi h1)
        have NO := Lib.hid (show ¬ LtX r L[k - 1] → ∀ i (hi : i < L.length), i < k → ¬ LtX r L[i] from fun hl i hi h hlt => by
          by_cases e : i = k - 1
          · subst e; exact hl hlt
          · exact hl (ltX_trans hlt (List.pairwise_iff_getElem.1 HR.out i (k - 1) hi hkm (by omega))))
        obtain ⟨x, hx⟩ : ∃ x, x = L[k - 1] := ⟨_, rfl⟩
        rw [← hx] at c0 c1 c2 c3 c4 OC YES NO
        obtain ⟨o, ho⟩ : ∃ o, o = ordX x r := ⟨_, rfl⟩
        have OG := Lib.hid (show 0 < o ↔ LtX r x by rw [ho]; exact ordX_gt x r)
        rw [← ho] at OC
        obtain ⟨x1, xn, x2, x3, x4⟩ := x
        simp only at c0 c1 c2 c3 c4 OC
        have BE := Lib.hid hb.drew
        have i1 : (0 : Int) < (k : Int) := by omega
        have t0 : decide ((0 : Int) < (k : Int)) = true := decide_eq_true i1
        have t0b : decide (0 < k) = true := decide_eq_true (by omega)
        have s1 : IntKind.i64.wrap ((k : Int) - 1) = (k : Int) - 1 := IntWalk.i64_in _ (by omega)
        have s2 : (0 : Int) ≤ (k : Int) - 1 := by omega
        have s3 : (1 : Int) ≤ (k : Int) := by omega
        have s4 : ((k : Int) - 1).toNat = k - 1 := by omega
        have s5 : (k : Int) - 1 < (L.length : Int) := by omega
        clear hx ho hcs hb h0
        go_upto_region 2 with fail
        go_still_tail 9, (by kernel_rfl)
        change wpList _ _ _ _ _ wr.drew
        go_wp2_with fail
        refine OC.out.mono ?_; rintro e w1 ⟨rfl, hb1⟩
        have B1 := Lib.hid (BE.out.trans (hb1.mono BE.out.size))
        clear hb1 c0 c1 c2 c3 c4 p0 p1 p2 p3 p4
        by_cases g1 : 0 < o
        · have d1 : decide (0 < o) = true := decide_eq_true g1
          have NI := Lib.hid (YES.out (OG.out.1 g1))
          clear g1
          go_wp2
          go_roundg (k - 1)
          case measure => rw [G.out]; omega
          case rel => exact ⟨k - 1, by omega, by go_num, rfl, NI, B1.out⟩
        · have d1 : decide (0 < o) = false := decide_eq_false g1
          have NI := Lib.hid (NO.out (fun h => g1 (OG.out.2 h)))
          clear g1
          go_wp2
          go_meet
          exact ⟨k, hk, rfl, HI, NI, B1.out⟩
  case rest =>
  obtain ⟨k, hk, rfl, HI, HJ, hb1⟩ := hcut
  obtain ⟨w1, rfl⟩ : ∃ x, x = wc := ⟨_, rfl⟩
  have B1 := Lib.hid hb1
  clear hb1
  obtain ⟨q, hq⟩ : ∃ q, q = decide (r ∈ L) := ⟨_, rfl⟩
  have E := Lib.hid (show putX L r = if q = true then L else L.take k ++ r :: L.drop k by
    have h := putX_at hk HI.out HJ.out
    rw [h, hq]; simp)
  have Q := Lib.hid hq
  clear hq
  go_upto_region 4 with fail
  go_cut [34] (fun s34 wx => s34 = .bool q ∧ Below w1.heap.size w1 wx)
  case first => as_aux_lemma =>
    have BE := Lib.hid (Below.refl w1.heap.size w1).drew
    by_cases h0 : k = 0
    · have t0 : decide ((0 : Int) < (k : Int)) = false := decide_eq_false (by omega)
      have t0b : decide (0 < k) = false := decide_eq_false (by omega)
      have q0 : q = false := by
        rw [Q.out]
        exact decide_eq_false fun h => by
          obtain ⟨i, hi, e⟩ := List.mem_iff_getElem.1 h
          have := HI.out i hi (by omega)
          rw [e] at this; exact ltX_irr _ this
      subst q0
      clear h0
      go_still_tail 9, (by kernel_rfl)
      change wpList _ _ _ _ _ w1.drew
      go_wp2
      go_meet
      exact ⟨rfl, BE.out⟩
    · have hkm : k - 1 < L.length := by omega
      obtain ⟨b, off, rfl, hcs⟩ := HC.out (by omega)
      obtain ⟨c0, c1, c2, c3, c4⟩ := hcs w1 B1.out (k - 1) hkm
      obtain ⟨p0, p1, p2, p3, p4⟩ := PC.out w1 B1.out
      have OC := Lib.hid (RO.out L[k - 1] w1.drew)
      have QM := Lib.hid (show q = true ↔ L[k - 1] = r by
        rw [Q.out, decide_eq_true_eq]
        constructor
        · intro h
          obtain ⟨i, hi, e⟩ := List.mem_iff_getElem.1 h
          rcases Nat.lt_or_ge i k with h1 | h1
          · by_cases e2 : i = k - 1
            · subst e2; exact e
            · have h3 := List.pairwise_iff_getElem.1 HR.out i (k - 1) hi hkm (by omega)
              rw [e] at h3
              exact absurd h3 (HJ.out (k - 1) hkm (by omega))
          · have h3 := HI.out i hi h1
            rw [e] at h3; exact absurd h3 (ltX_irr _)
        · intro h; rw [← h]; exact List.getElem_mem _)
      obtain ⟨x, hx⟩ : ∃ x, x = L[k - 1] := ⟨_, rfl⟩
      rw [← hx] at c0 c1 c2 c3 c4 OC QM
      obtain ⟨o, ho⟩ : ∃ o, o = ordX x r := ⟨_, rfl⟩
      have OG := Lib.hid (show (o == 0) = q by
        rw [Bool.eq_iff_iff, QM.out, beq_iff_eq, ho, ordX_0])
      rw [← ho] at OC
      obtain ⟨x1, xn, x2, x3, x4⟩ := x
      simp only at c0 c1 c2 c3 c4 OC
      have i1 : (0 : Int) < (k : Int) := by omega
      have t0 : decide ((0 : Int) < (k : Int)) = true := decide_eq_true i1
      have t0b : decide (0 < k) = true := decide_eq_true (by omega)
      have s1 : IntKind.i64.wrap ((k : Int) - 1) = (k : Int) - 1 := IntWalk.i64_in _ (by omega)
      have s2 : (0 : Int) ≤ (k : Int) - 1 := by omega
      have s3 : (1 : Int) ≤ (k : Int) := by omega
      have s4 : ((k : Int) - 1).toNat = k - 1 := by omega
      have s5 : (k : Int) - 1 < (L.length : Int) := by omega
      clear hx ho hcs h0
      go_still_tail 9, (by kernel_rfl)
      change wpList _ _ _ _ _ w1.drew
      go_wp2_with fail
      refine OC.out.mono ?_; rintro e w2 ⟨rfl, hb2⟩
      have B2 := Lib.hid (BE.out.trans (hb2.mono BE.out.size))
      clear hb2 c0 c1 c2 c3 c4 p0 p1 p2 p3 p4
      go_wp2
      go_meet
      exact ⟨by first | exact congrArg Value.bool OG.out | (rw [← OG.out]), B2.out⟩
  case rest =>
  obtain ⟨rfl, hb2⟩ := hcut
  obtain ⟨w2, rfl⟩ : ∃ x, x = wc := ⟨_, rfl⟩
  have B2 := Lib.hid (B1.out.trans (hb2.mono B1.out.size))
  have L2 := Lib.hid (HL.out.below B2.out)
  have BA := Lib.hid (B0.out.trans (B2.out.mono B0.out.size))
  obtain ⟨p0, p1, p2, p3, p4⟩ := PC.out w2 B2.out
  clear hb2 HI HJ B1 Q RO PC
  cases q
  case true =>
    have L3 := Lib.hid (show RngsX w2 (.slice a L.length cap) (putX L r) by rw [E.out, if_pos rfl]; exact L2.out)
    go_wp2
    go_ret
    exact ⟨_, rfl, L3.out, BA.out⟩
  have E2 := Lib.hid (show putX L r = L.take k ++ r :: L.drop k by rw [E.out, if_neg (by simp)])
  have RE := Lib.hid (show encX r = [.int .i64 a1, .string na, .int .i64 a2, .int .i64 a3, .int .i64 a4] by rw [R0.out]; rfl)
  clear E
  have k0 : (0 : Int) ≤ (k : Int) := Int.natCast_nonneg _
  have k1 : (k : Int) ≤ (L.length : Int) := by omega
  have k2 : (k : Int) ≤ (cap : Int) := by omega
  have k3 : (L.length : Int) ≤ (cap : Int) := by omega
  rcases a with _ | ad
  · obtain rfl : L = [] := List.length_eq_zero_iff.1 (by
      rcases Nat.eq_zero_or_pos L.length with h | h
      · exact h
      · obtain ⟨b, off, e, -⟩ := HC.out h; cases e)
    obtain rfl : k = 0 := by simpa using hk
    have P1 := Lib.hid (reads_takeN (k := 0) (show Reads w2 (.slice none ([] : List RngX).length cap) 5 ([] : List RngX).length _ from L2.out) hk)
    go_wp2_with (at_builtin; refine wpList_append_row rfl _ _ 62 rfl 66 i0 _ 5 48 Tryz.underlying62 hi0 hz0 hz1 hz2 rfl (by decide) w2.heap.size _ _ 0 0 [] _ rfl rfl (World.ownsRow_nil _ _ _ _) P1.out flatX_one (Nat.le_refl _) (by omega) (by unfold maxLen; omega) ?_)
    intro v1 w3 hown1 hb1
    have O1 := Lib.hid hown1; have B3 := Lib.hid hb1
    obtain ⟨oa, oc, rfl, -, -, -⟩ := owns_cells hown1
    have hs3 := hb1.size
    have p0 := cell_below hb1 p0; have p1 := cell_below hb1 p1; have p2 := cell_below hb1 p2; have p3 := cell_below hb1 p3; have p4 := cell_below hb1 p4
    have O1A := Lib.hid (World.ownsRow.alloc O1.out (.cells #[.int .i64 a1, .string na, .int .i64 a2, .int .i64 a3, .int .i64 a4] 66))
    have F5 := five_at (w := w3) (a := .int .i64 a1) (b := .string na) (c := .int .i64 a2) (d := .int .i64 a3) (e := .int .i64 a4) (t := 66)
    have hs3a : w2.heap.size ≤ (w3.alloc (.cells #[.int .i64 a1, .string na, .int .i64 a2, .int .i64 a3, .int .i64 a4] 66)).heap.size := by rw [World.size_alloc]; omega
    have B3A := Lib.hid (B3.out.alloc hs3 (.cells #[.int .i64 a1, .string na, .int .i64 a2, .int .i64 a3, .int .i64 a4] 66))
    clear hown1 hb1
    go_wp2_with (at_builtin; refine wpList_append_row rfl _ _ 62 rfl 66 i0 _ 5 48 Tryz.underlying62 hi0 hz0 hz1 hz2 rfl (by decide) w2.heap.size _ _ _ 1 _ _ rfl rfl O1A.out F5 (by simp [Value.oneCell']) hs3a (by omega) (by unfold maxLen; omega) ?_)
    intro v2 w4 hown2 hb2
    have O2 := Lib.hid hown2; have B4 := Lib.hid (B3A.out.trans hb2)
    obtain ⟨ob, oc2, rfl, -, hcc, -⟩ := owns_cells hown2
    clear hown2 hb2 p0 p1 p2 p3 p4 F5
    have P3 := Lib.hid (show Reads w4 (.slice none 0 cap) 5 0 [] from ⟨none, cap, rfl, by simp, Nat.zero_le _, by unfold maxLen; omega, fun h => absurd h (by omega)⟩)
    have hs4 := B4.out.size
    go_wp2_with (at_builtin; refine wpList_append_row rfl _ _ 62 rfl 66 i0 _ 5 48 Tryz.underlying62 hi0 hz0 hz1 hz2 rfl (by decide) w2.heap.size _ _ 1 0 _ [] rfl rfl O2.out P3.out (by simp) hs4 (by omega) (by unfold maxLen; omega) ?_)
    intro v5 w5 hown5 hb5
    have B5 := Lib.hid (B4.out.trans hb5)
    have R4 := Lib.hid (show RngsX w5 v5 (putX [] r) by
      have h := ownsRow_reads hown5
      have e2 : putX [] r = [r] := by rw [E2.out]; rfl
      rw [e2]
      unfold RngsX
      simp only [List.flatMap_cons, List.flatMap_nil, List.append_nil, RE.out]
      simpa using h)
    clear hown5 hb5
    go_wp2
    go_ret
    exact ⟨_, rfl, R4.out, BA.out.trans (B5.out.mono BA.out.size)⟩
  have P1 := Lib.hid (reads_takeN (k := k) (show Reads w2 (.slice (some ad) L.length cap) 5 L.length _ from L2.out) hk)
  have P2 := Lib.hid (reads_dropN (k := k) (show Reads w2 (.slice (some ad) L.length cap) 5 L.length _ from L2.out) hk)
  go_wp2_with (at_builtin; refine wpList_append_row rfl _ _ 62 rfl 66 i0 _ 5 48 Tryz.underlying62 hi0 hz0 hz1 hz2 rfl (by decide) w2.heap.size _ _ 0 k [] _ rfl rfl (World.ownsRow_nil _ _ _ _) P1.out flatX_one (Nat.le_refl _) (by omega) (by unfold maxLen; omega) ?_)
  intro v1 w3 hown1 hb1
  have O1 := Lib.hid hown1; have B3 := Lib.hid hb1
  obtain ⟨oa, oc, rfl, -, -, -⟩ := owns_cells hown1
  have hs3 := hb1.size
  have p0 := cell_below hb1 p0; have p1 := cell_below hb1 p1; have p2 := cell_below hb1 p2; have p3 := cell_below hb1 p3; have p4 := cell_below hb1 p4
  have O1A := Lib.hid (World.ownsRow.alloc O1.out (.cells #[.int .i64 a1, .string na, .int .i64 a2, .int .i64 a3, .int .i64 a4] 66))
  have F5 := five_at (w := w3) (a := .int .i64 a1) (b := .string na) (c := .int .i64 a2) (d := .int .i64 a3) (e := .int .i64 a4) (t := 66)
  have hs3a : w2.heap.size ≤ (w3.alloc (.cells #[.int .i64 a1, .string na, .int .i64 a2, .int .i64 a3, .int .i64 a4] 66)).heap.size := by rw [World.size_alloc]; omega
  have B3A := Lib.hid (B3.out.alloc hs3 (.cells #[.int .i64 a1, .string na, .int .i64 a2, .int .i64 a3, .int .i64 a4] 66))
  clear hown1 hb1
  go_wp2_with (at_builtin; refine wpList_append_row rfl _ _ 62 rfl 66 i0 _ 5 48 Tryz.underlying62 hi0 hz0 hz1 hz2 rfl (by decide) w2.heap.size _ _ _ 1 _ _ rfl rfl O1A.out F5 (by simp [Value.oneCell']) hs3a (by omega) (by unfold maxLen; omega) ?_)
  intro v2 w4 hown2 hb2
  have O2 := Lib.hid hown2; have B4 := Lib.hid (B3A.out.trans hb2)
  obtain ⟨ob, oc2, rfl, -, hcc, -⟩ := owns_cells hown2
  clear hown2 hb2 p0 p1 p2 p3 p4 F5
  have P3 := Lib.hid (Reads.below P2.out B4.out)
  have hs4 := B4.out.size
  go_wp2_with (at_builtin; refine wpList_append_row rfl _ _ 62 rfl 66 i0 _ 5 48 Tryz.underlying62 hi0 hz0 hz1 hz2 rfl (by decide) w2.heap.size _ _ (k + 1) (L.length - k) _ _ rfl rfl O2.out P3.out flatX_one2 hs4 (by omega) (by unfold maxLen; omega) ?_)
  all_goals
    intro v5 w5 hown5 hb5
    have B5 := Lib.hid (B4.out.trans hb5)
    have R5 := Lib.hid (show RngsX w5 v5 (putX L r) by
      have h := ownsRow_reads hown5
      have e1 : k + 1 + (L.length - k) = (putX L r).length := by rw [E2.out, List.length_append, List.length_take, List.length_cons, List.length_drop]; omega
      have e2 : (putX L r).flatMap encX = (L.flatMap encX).take (k * 5) ++ encX r ++ (L.flatMap encX).drop (k * 5) := by rw [E2.out, List.flatMap_append, List.flatMap_cons, flatX_take, flatX_drop, List.append_assoc]
      unfold RngsX
      rw [← e1, e2, RE.out]
      simpa using h)
    clear hown5 hb5
    go_wp2
    go_ret
    exact ⟨_, rfl, R5.out, BA.out.trans (B5.out.mono BA.out.size)⟩

end Go.Proofs.YtgelojhpanbnaaaGreatDoor
