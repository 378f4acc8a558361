/- plan.Clashes: its contract. -/
import Derived.Test.YtkpmddlinlcobaaGreatDoorPlanB
import Derived.Test.YtkpmddlinlcobaaGreatDoorPlanE
namespace Go.Proofs.YtkpmddlinlcobaaGreatDoor
open Go.RowKit Go.Shelf
set_option linter.unusedSimpArgs false
set_option linter.unusedVariables false

/-- what plan.Clashes answers. -/
def ClaP (E : Int) (K : List (Int × Int)) (w : World) (e : Ending) (w' : World) : Prop := ∃ v, e = .returned (.tuple #[v, errV E]) ∧ w'.ownsRow w.heap.size 84 2 v (if E = 0 then K else []).length (pairsV (if E = 0 then K else [])) ∧ Below w.heap.size w w'

theorem twoInfo : (Tryz.prog.info? 84).map (fun i => (i.zero, i.size, i.bytes)) = some (some (.agg #[.int .i64 0, .int .i64 0]), 2, 16) := by kernel_rfl

theorem sumN_len {k : Nat} {es : List Int} {n : Nat} (h : allE k es n = 0) : k ≤ 20 := by
  unfold allE at h
  by_cases h1 : 20 < k
  · rw [if_pos h1] at h; cases h
  · omega

set_option maxRecDepth 100000 in
set_option maxHeartbeats 16000000 in
theorem clashes_any (ah : Int) (vZ : Value) (Z : List (Int × Int)) (v : Value) (L : List Ev) (a b : Int) (w : World) (hw : Months w) (hL : EvsR w v L) (hZ : PairsR w vZ Z) :
    Calls Tryz.prog 38 #[.agg #[.int .i64 ah, vZ], v, .int .i64 a, .int .i64 b] w
      (ClaP (allE L.length (L.map (Ev.err ah Z a b)) (sumN (L.map fun e => (e.ln, e.times ah Z a b)))) (clU (L.map fun e => (e.ln, e.times ah Z a b)) L.length) w) := by
  obtain ⟨p, cap, rfl, -, -, -⟩ := evsR_open hL
  have hZ0 := hZ
  obtain ⟨aZ, kZ, rfl, -, -, -⟩ := pairsR_open hZ
  obtain ⟨eb, heb⟩ : ∃ x, x = w.heap.size := ⟨_, rfl⟩
  obtain ⟨wz, hwz⟩ : ∃ x, x = w.alloc (.cells #[.int .i64 ah, .slice aZ Z.length kZ] 56) := ⟨_, rfl⟩
  have hbz : Below w.heap.size w wz := by rw [hwz]; exact (Below.refl _ _).alloc (Nat.le_refl _) _
  have z0 : wz.cell? ⟨eb, 0, none⟩ = some (.int .i64 ah) := by rw [hwz, heb]; simp
  have z1 : wz.cell? ⟨eb, 1, none⟩ = some (.slice aZ Z.length kZ) := by rw [hwz, heb]; simp
  obtain ⟨E, hE⟩ : ∃ E, E = allE L.length (L.map (Ev.err ah Z a b)) (sumN (L.map fun e => (e.ln, e.times ah Z a b))) := ⟨_, rfl⟩
  obtain ⟨T, hT⟩ : ∃ T, T = L.map fun e => (e.ln, e.times ah Z a b) := ⟨_, rfl⟩
  have lT : T.length = L.length := by rw [hT, List.length_map]
  have AA := Lib.hid (show Calls Tryz.prog 91 #[.agg #[.int .i64 ah, .slice aZ Z.length kZ], .slice p L.length cap, .int .i64 a, .int .i64 b] wz (AllP E T wz) by
    have h := all_any ah _ Z _ L a b wz (hw.below hbz) (hL.below hbz) (hZ0.below hbz)
    rw [← hE, ← hT] at h; exact h)
  have E20 := Lib.hid (show E = 0 → T.length ≤ 20 from fun h => by rw [lT]; rw [hE] at h; exact sumN_len h)
  rw [← hE, ← hT, ← lT]
  rw [← lT] at AA
  have BW := Lib.hid hbz; have WZ := Lib.hid hwz; have EB := Lib.hid heb
  have Z0 := Lib.hid z0; have Z1 := Lib.hid z1
  clear hw hL hZ hZ0 hwz hbz heb z0 z1 hE hT lT
  go_enter Tryz.func38, Tryz.ntmps38
  go_upto_region 1 with fail
  rw [← WZ.out]
  rw [← EB.out]
  have z0 := Z0.out; have z1 := Z1.out
  go_cut [10, 11] (fun s10 s11 wx => ∃ v, s10 = v ∧ s11 = errV E ∧ TssR wz.heap.size wx v (if E = 0 then T else []) ∧ Below wz.heap.size wz wx)
  case first => as_aux_lemma =>
    go_wp2_with fail
    refine AA.out.mono ?_; rintro e w3 ⟨v, rfl, hv, hb⟩
    have HV := Lib.hid hv; have HB := Lib.hid hb
    clear hv hb z0 z1
    go_wp2
    go_meet
    exact ⟨_, rfl, rfl, HV.out, HB.out⟩
  case rest =>
  obtain ⟨v, rfl, rfl, hv, hb3⟩ := hcut
  obtain ⟨w1, rfl⟩ : ∃ x, x = wc := ⟨_, rfl⟩
  have B1 := Lib.hid hb3
  clear hb3 z0 z1 AA
  by_cases h0 : E ≠ 0
  · have EV := Lib.hid (show errV E = .iface 119 (.int .i64 E) by rw [errV, if_neg h0])
    have H0 := Lib.hid h0
    rw [EV.out]
    clear h0 hv
    go_wp2
    go_ret2
    exact ⟨_, by rw [EV.out]; rfl, by rw [if_neg H0.out]; exact World.ownsRow_nil _ _ _ _, BW.out.trans (B1.out.mono BW.out.size)⟩
  obtain rfl : E = 0 := by omega
  rw [errV_0]
  rw [if_pos rfl] at hv
  have l20 := E20.out rfl
  obtain ⟨S, hS⟩ := hv
  obtain ⟨ta, tc, rfl, -, -, hcs⟩ := tss_at hS
  have HD := Lib.hid hcs
  obtain ⟨n, hn⟩ : ∃ n, n = T.length := ⟨_, rfl⟩
  have NE := Lib.hid hn
  rw [← hn] at l20 ⊢
  clear hS hcs E20 h0 hn
  obtain ⟨it, hit, ht0, ht1, ht2⟩ := info_parts twoInfo
  go_wp2_with fail
  go_loopg [12, 28] n (fun g ov iv wr => ∃ k : Nat, k ≤ n ∧ iv = .int .i64 k ∧ g = n - k ∧ wr.ownsRow w1.heap.size 84 2 ov (clU T k).length (pairsV (clU T k)) ∧ Below w1.heap.size w1 wr)
  case atStart => exact ⟨0, Nat.zero_le _, rfl, rfl, World.ownsRow_nil _ _ _ _, Below.refl _ _⟩
  case round =>
    obtain ⟨k, hk, rfl, hg, ho, hb⟩ := hrel
    obtain ⟨w2, rfl⟩ : ∃ x, x = wr := ⟨_, rfl⟩
    have G := Lib.hid hg; have OW := Lib.hid ho; have B2 := Lib.hid hb
    clear hg ho hb
    by_cases hlt : k < n
    · have UN := Lib.hid (show clU T (k + 1) = clU T k ++ rowC T k n by rw [clU_next, ← NE.out])
      obtain ⟨O, hO⟩ : ∃ O, O = clU T k := ⟨_, rfl⟩
      have ol : O.length ≤ 400 := by
        have h1 := clU_len T k
        rw [← NE.out] at h1
        have h2 : k * n ≤ 20 * 20 := Nat.mul_le_mul (by omega) (by omega)
        rw [hO]; omega
      rw [← hO] at OW UN
      have s1 : IntKind.i64.wrap ((k : Int) + 1) = (k : Int) + 1 := IntWalk.i64_in _ (by omega)
      clear hO
      go_wp2_with fail
      go_loopg [12, 14] (n - (k + 1)) (fun g pv iv wx => ∃ j : Nat, k < j ∧ j ≤ n ∧ iv = .int .i64 j ∧ g = n - j ∧ wx.ownsRow w1.heap.size 84 2 pv (O ++ rowC T k j).length (pairsV (O ++ rowC T k j)) ∧ Below w1.heap.size w1 wx)
      case atStart => exact ⟨k + 1, by omega, by omega, by go_num, rfl, by rw [rowC_0, List.append_nil]; exact OW.out, B2.out⟩
      case round =>
        obtain ⟨j, hkj, hj, rfl, hg2, ho2, hb2⟩ := hrel
        obtain ⟨w3, rfl⟩ : ∃ x, x = wr := ⟨_, rfl⟩
        have G2 := Lib.hid hg2; have OW2 := Lib.hid ho2; have B3 := Lib.hid hb2
        clear hg2 ho2 hb2
        by_cases hlt2 : j < n
        · obtain ⟨gb, rfl, hcs⟩ := HD.out (by rw [← NE.out]; omega)
          obtain ⟨p1, c1, q1, r1⟩ := hcs k (by rw [← NE.out]; exact hlt)
          obtain ⟨p2, c2, q2, r2⟩ := hcs j (by rw [← NE.out]; exact hlt2)
          have q1 := cell_below B3.out q1; have q2 := cell_below B3.out q2
          have RN := Lib.hid (rowC_next T k j hkj)
          have MA := Lib.hid (show metAt T k j = meetB (T[k]'(by rw [← NE.out]; exact hlt)) (T[j]'(by rw [← NE.out]; exact hlt2)) by rw [metAt, dif_pos ⟨by rw [← NE.out]; exact hlt, by rw [← NE.out]; exact hlt2⟩])
          have R1 := Lib.hid (r1.below B3.out); have R2 := Lib.hid (r2.below B3.out)
          obtain ⟨x, hx⟩ : ∃ x, x = T[k]'(by rw [← NE.out]; exact hlt) := ⟨_, rfl⟩
          obtain ⟨y, hy⟩ : ∃ y, y = T[j]'(by rw [← NE.out]; exact hlt2) := ⟨_, rfl⟩
          rw [← hx] at R1 q1 MA; rw [← hy] at R2 q2 MA
          obtain ⟨x1, X⟩ := x
          obtain ⟨y1, Y⟩ := y
          simp only at R1 R2 q1 q2 MA
          obtain ⟨Q, hQ⟩ : ∃ Q, Q = O ++ rowC T k j := ⟨_, rfl⟩
          have ql : Q.length ≤ 500 := by have := rowC_len T k j; rw [hQ, List.length_append]; omega
          rw [← hQ] at OW2
          have QE := Lib.hid (show O ++ rowC T k (j + 1) = Q ++ (if metAt T k j then [((k : Int), (j : Int))] else []) by rw [RN.out, hQ, List.append_assoc])
          obtain ⟨m, hm⟩ : ∃ m, m = meetB (x1, X) (y1, Y) := ⟨_, rfl⟩
          rw [← hm] at MA
          rw [MA.out] at QE
          have MC := Lib.hid (show ∀ wx, Below w3.heap.size w3 wx → Calls Tryz.prog 92 #[.slice p1 X.length c1, .slice p2 Y.length c2] wx fun e w' => e = .returned (.bool m) ∧ Below wx.heap.size wx w' from fun wx hbx => by rw [hm]; exact meet_any x1 y1 _ _ X Y wx (R1.out.below hbx) (R2.out.below hbx))
          have i0 : (0 : Int) ≤ (k : Int) := Int.natCast_nonneg _
          have i1 : (k : Int) < (n : Int) := by omega
          have i2 : (0 : Int) ≤ (j : Int) := Int.natCast_nonneg _
          have i3 : (j : Int) < (n : Int) := by omega
          have s2 : IntKind.i64.wrap ((j : Int) + 1) = (j : Int) + 1 := IntWalk.i64_in _ (by omega)
          obtain ⟨oa, oc, rfl, -, -, -⟩ := owns_cells OW2.out
          clear hcs r1 r2 hx hy hQ hm
          go_upto_region 11 with fail
          go_cut [47] (fun s47 wx => s47 = .bool m ∧ Below w3.heap.size w3 wx)
          case first => as_aux_lemma =>
            go_still_tail 8, (by kernel_rfl)
            change wpList _ _ _ _ _ w3.drew
            go_wp2_with fail
            refine (MC.out _ (Below.refl _ _).drew).mono ?_; rintro e w4 ⟨rfl, hb4⟩
            have HB := Lib.hid hb4
            clear hb4 q1 q2
            go_wp2
            go_meet
            exact ⟨rfl, below_next (Below.refl _ _).drew HB.out⟩
          case rest =>
          obtain ⟨rfl, hb4⟩ := hcut
          obtain ⟨w4, rfl⟩ : ∃ x, x = wc := ⟨_, rfl⟩
          have B4 := Lib.hid (B3.out.trans (hb4.mono B3.out.size))
          have OW4 := Lib.hid (own_kept OW2.out hb4)
          have hs4 := B4.out.size
          clear hb4 q1 q2 MC
          cases m
          · have Q2 := Lib.hid (show O ++ rowC T k (j + 1) = Q by rw [QE.out]; simp)
            go_wp2
            go_roundg (n - (j + 1))
            case measure => rw [G2.out]; omega
            case rel => exact ⟨j + 1, by omega, by omega, by go_num, rfl, by rw [Q2.out]; exact OW4.out, B4.out⟩
          · have Q2 := Lib.hid (show O ++ rowC T k (j + 1) = Q ++ [((k : Int), (j : Int))] by rw [QE.out]; simp)
            go_wp2_with (at_builtin; refine wpList_append_lies _ rfl _ _ 80 rfl w1.heap.size 84 it _ 2 16 Tryz.underlying80 hit ht0 ht1 ht2 rfl (by decide) _ _ _ rfl (OW4.out.alloc _) ⟨w4.heap.size, 0, none⟩ 1 1 [.int .i64 k, .int .i64 j] rfl rfl ?c1x1 ?c1x2 (by decide) (by unfold maxLen; omega) (by omega) (by simp; omega) _ rfl ?_)
            try (case c1x1 => exact World.news_of_block (cs := #[.int .i64 k, .int .i64 j]) (heap_alloc_new w4 _))
            case c1x2 => first | exact ⟨rfl, rfl⟩ | (intro u hu; simp at hu; rcases hu with rfl | rfl <;> rfl)
            intro g cap1 w9 hown1 hgrow1 hat1 hlt1
            have hB1 := Lib.hid ((B4.out.alloc hs4 (.cells #[.int .i64 k, .int .i64 j] 84)).grown hgrow1 (by simp; omega) (ownBlock_ge OW4.out))
            have R := Lib.hid (show w9.ownsRow w1.heap.size 84 2 (.slice (some ⟨g, 0, none⟩) (Q.length + 1) cap1) (O ++ rowC T k (j + 1)).length (pairsV (O ++ rowC T k (j + 1))) by
              rw [Q2.out, List.length_append, show pairsV (Q ++ [((k : Int), (j : Int))]) = pairsV Q ++ [.int .i64 k, .int .i64 j] by simp [pairsV]]; exact hown1)
            clear hgrow1 hown1 hat1 hlt1
            go_wp2
            go_roundg (n - (j + 1))
            case measure => rw [G2.out]; omega
            case rel => exact ⟨j + 1, by omega, by omega, by go_num, rfl, R.out, hB1.out⟩
        · obtain rfl : j = n := by omega
          have i3 : ¬ (j : Int) < (j : Int) := by omega
          go_wp2
          go_roundg (j - (k + 1))
          case measure => rw [G.out]; omega
          case rel => exact ⟨k + 1, by omega, by go_num, rfl, by rw [UN.out]; exact OW2.out, B3.out⟩
    · obtain rfl : k = n := by omega
      have i2 : ¬ (k : Int) < (k : Int) := by omega
      go_wp2
      go_ret2
      exact ⟨_, rfl, by rw [if_pos rfl, ← NE.out]; exact World.ownsRow.mono OW.out (Nat.le_trans BW.out.size B1.out.size), BW.out.trans ((B1.out.trans (B2.out.mono B1.out.size)).mono BW.out.size)⟩

end Go.Proofs.YtkpmddlinlcobaaGreatDoor
