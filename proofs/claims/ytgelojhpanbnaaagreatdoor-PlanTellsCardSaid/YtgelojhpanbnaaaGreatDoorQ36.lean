/- Texts joined into one (a claim has at most 60 files): plan.Clashes: its contract; What the reach says of all arguments it says of all but the first; A slice of events as an argument, opened: how it lies, and the bounds that the reach gives; A slice of events as an argument, with the bounds of their rules' lists. -/
import Derived.Test.YtgelojhpanbnaaaGreatDoorQ35
import Derived.Test.YtgelojhpanbnaaaGreatDoorQ20
import Derived.Test.YtgelojhpanbnaaaGreatDoorQ10
import Derived.Test.YtgelojhpanbnaaaGreatDoorQ21
import Derived.Test.YtgelojhpanbnaaaGreatDoorQ40
namespace Go.Proofs.YtgelojhpanbnaaaGreatDoor
open Go.RowKit Go.Shelf
set_option linter.unusedSimpArgs false
set_option linter.unusedVariables false

def ClaP (E : Int) (K : List (Int × Int)) (w : World) (e : Ending) (w' : World) : Prop := ∃ v, e = .returned (.tuple #[v, errV E]) ∧ w'.ownsRow w.heap.size 100 2 v (if E = 0 then K else []).length (pairsV (if E = 0 then K else [])) ∧ Below w.heap.size w w'

theorem twoInfo : (Tryz.prog.info? 100).map (fun i => (i.zero, i.size, i.bytes)) = some (some (.agg #[.int .i64 0, .int .i64 0]), 2, 16) := by kernel_rfl

theorem sumN_len {k : Nat} {es : List Int} {n : Nat} (h : allE k es n = 0) : k ≤ 20 := by
  unfold allE at h
  by_cases h1 : 20 < k
  · rw [if_pos h1] at h; cases h
  · omega

set_option maxRecDepth 100000 in
set_option maxHeartbeats 16000000 in
theorem clashes_any (ah : Int) (vZ : Value) (Z : List (Int × Int)) (v : Value) (L : List Ev) (a b : Int) (w : World) (hw : Months w) (hL : EvsR w v L) (hZ : PairsR w vZ Z) :
    Calls Tryz.prog 43 #[.agg #[.int .i64 ah, vZ], v, .int .i64 a, .int .i64 b] w
      (ClaP (allE L.length (L.map (Ev.err ah Z a b)) (sumN (L.map fun e => (e.ln, e.times ah Z a b)))) (clU (L.map fun e => (e.ln, e.times ah Z a b)) L.length) w) := by
  obtain ⟨p, cap, rfl, -, -, -⟩ := evsR_open hL
  have hZ0 := hZ
  obtain ⟨aZ, kZ, rfl, -, -, -⟩ := pairsR_open hZ
  obtain ⟨eb, heb⟩ : ∃ x, x = w.heap.size := ⟨_, rfl⟩
  obtain ⟨wz, hwz⟩ : ∃ x, x = w.alloc (.cells #[.int .i64 ah, .slice aZ Z.length kZ] 33) := ⟨_, rfl⟩
  have hbz : Below w.heap.size w wz := by rw [hwz]; exact (Below.refl _ _).alloc (Nat.le_refl _) _
  have z0 : wz.cell? ⟨eb, 0, none⟩ = some (.int .i64 ah) := by rw [hwz, heb]; simp
  have z1 : wz.cell? ⟨eb, 1, none⟩ = some (.slice aZ Z.length kZ) := by rw [hwz, heb]; simp
  obtain ⟨E, hE⟩ : ∃ E, E = allE L.length (L.map (Ev.err ah Z a b)) (sumN (L.map fun e => (e.ln, e.times ah Z a b))) := ⟨_, rfl⟩
  obtain ⟨T, hT⟩ : ∃ T, T = L.map fun e => (e.ln, e.times ah Z a b) := ⟨_, rfl⟩
  have lT : T.length = L.length := by rw [hT, List.length_map]
  have AA := Lib.hid (show Calls Tryz.prog 106 #[.agg #[.int .i64 ah, .slice aZ Z.length kZ], .slice p L.length cap, .int .i64 a, .int .i64 b] wz (AllP E T wz) by
    have h := all_any ah _ Z _ L a b wz (hw.below hbz) (hL.below hbz) (hZ0.below hbz)
    rw [← hE, ← hT] at h; exact h)
  have E20 := Lib.hid (show E = 0 → T.length ≤ 20 from fun h => by rw [lT]; rw [hE] at h; exact sumN_len h)
  rw [← hE, ← hT, ← lT]
  rw [← lT] at AA
  have BW := Lib.hid hbz; have WZ := Lib.hid hwz; have EB := Lib.hid heb
  have Z0 := Lib.hid z0; have Z1 := Lib.hid z1
  clear hw hL hZ hZ0 hwz hbz heb z0 z1 hE hT lT
  go_enter Tryz.func43, Tryz.ntmps43
  go_upto_region 1 with fail
  rw [← WZ.out]
  rw [← EB.out]
  have z0 := Z0.out; have z1 := Z1.out
  go_cut [10, 11] (fun s10 s11 wx => ∃ v, s10 = v ∧ s11 = errV E ∧ TssR wz.heap.size wx v (if E = 0 then T else []) ∧ Below wz.heap.size wz wx)
  case first => as_aux_lemma =>
    go_wp2_with fail
    refine AA.out.mono ?_; rintro e w3 ⟨v, rfl, hv, hb⟩
    have HV := Lib.hid hv; have HB := Lib.hid hb
    clear hv hb z0 z1
    go_wp2
    go_meet
    exact ⟨_, rfl, rfl, HV.out, HB.out⟩
  case rest =>
  obtain ⟨v, rfl, rfl, hv, hb3⟩ := hcut
  obtain ⟨w1, rfl⟩ : ∃ x, x = wc := ⟨_, rfl⟩
  have B1 := Lib.hid hb3
  clear hb3 z0 z1 AA
  by_cases h0 : E ≠ 0
  · have EV := Lib.hid (show errV E = .iface 124 (.int .i64 E) by rw [errV, if_neg h0])
    have H0 := Lib.hid h0
    rw [EV.out]
    clear h0 hv
    go_wp2
    go_ret2
    exact ⟨_, by rw [EV.out]; rfl, by rw [if_neg H0.out]; exact World.ownsRow_nil _ _ _ _, BW.out.trans (B1.out.mono BW.out.size)⟩
  obtain rfl : E = 0 := by omega
  rw [errV_0]
  rw [if_pos rfl] at hv
  have l20 := E20.out rfl
  obtain ⟨S, hS⟩ := hv
  obtain ⟨ta, tc, rfl, -, -, hcs⟩ := tss_at hS
  have HD := Lib.hid hcs
  obtain ⟨n, hn⟩ : ∃ n, n = T.length := ⟨_, rfl⟩
  have NE := Lib.hid hn
  rw [← hn] at l20 ⊢
  clear hS hcs E20 h0 hn
  obtain ⟨it, hit, ht0, ht1, ht2⟩ := info_parts twoInfo
  go_wp2_with fail
  go_loopg [12, 28] n (fun g ov iv wr => ∃ k : Nat, k ≤ n ∧ iv = .int .i64 k ∧ g = n - k ∧ wr.ownsRow w1.heap.size 100 2 ov (clU T k).length (pairsV (clU T k)) ∧ Below w1.heap.size w1 wr)
  case atStart => exact ⟨0, Nat.zero_le _, rfl, rfl, World.ownsRow_nil _ _ _ _, Below.refl _ _⟩
  case round =>
    obtain ⟨k, hk, rfl, hg, ho, hb⟩ := hrel
    obtain ⟨w2, rfl⟩ : ∃ x, x = wr := ⟨_, rfl⟩
    have G := Lib.hid hg; have OW := Lib.hid ho; have B2 := Lib.hid hb
    clear hg ho hb
    by_cases hlt : k < n
    · have UN := Lib.hid (show clU T (k + 1) = clU T k ++ rowC T k n by rw [clU_next, ← NE.out])
      obtain ⟨O, hO⟩ : ∃ O, O = clU T k := ⟨_, rfl⟩
      have ol : O.length ≤ 400 := by
        have h1 := clU_len T k
        rw [← NE.out] at h1
        have h2 : k * n ≤ 20 * 20 := Nat.mul_le_mul (by omega) (by omega)
        rw [hO]; omega
      rw [← hO] at OW UN
      have s1 : IntKind.i64.wrap ((k : Int) + 1) = (k : Int) + 1 := IntWalk.i64_in _ (by omega)
      clear hO
      go_wp2_with fail
      go_loopg [12, 14] (n - (k + 1)) (fun g pv iv wx => ∃ j : Nat, k < j ∧ j ≤ n ∧ iv = .int .i64 j ∧ g = n - j ∧ wx.ownsRow w1.heap.size 100 2 pv (O ++ rowC T k j).length (pairsV (O ++ rowC T k j)) ∧ Below w1.heap.size w1 wx)
      case atStart => exact ⟨k + 1, by omega, by omega, by go_num, rfl, by rw [rowC_0, List.append_nil]; exact OW.out, B2.out⟩
      case round =>
        obtain ⟨j, hkj, hj, rfl, hg2, ho2, hb2⟩ := hrel
        obtain ⟨w3, rfl⟩ : ∃ x, x = wr := ⟨_, rfl⟩
        have G2 := Lib.hid hg2; have OW2 := Lib.hid ho2; have B3 := Lib.hid hb2
        clear hg2 ho2 hb2
        by_cases hlt2 : j < n
        · obtain ⟨gb, rfl, hcs⟩ := HD.out (by rw [← NE.out]; omega)
          obtain ⟨p1, c1, q1, r1⟩ := hcs k (by rw [← NE.out]; exact hlt)
          obtain ⟨p2, c2, q2, r2⟩ := hcs j (by rw [← NE.out]; exact hlt2)
          have q1 := cell_below B3.out q1; have q2 := cell_below B3.out q2
          have RN := Lib.hid (rowC_next T k j hkj)
          have MA := Lib.hid (show metAt T k j = meetB (T[k]'(by rw [← NE.out]; exact hlt)) (T[j]'(by rw [← NE.out]; exact hlt2)) by rw [metAt, dif_pos ⟨by rw [← NE.out]; exact hlt, by rw [← NE.out]; exact hlt2⟩])
          have R1 := Lib.hid (r1.below B3.out); have R2 := Lib.hid (r2.below B3.out)
          obtain ⟨x, hx⟩ : ∃ x, x = T[k]'(by rw [← NE.out]; exact hlt) := ⟨_, rfl⟩
          obtain ⟨y, hy⟩ : ∃ y, y = T[j]'(by rw [← NE.out]; exact hlt2) := ⟨_, rfl⟩
          rw [← hx] at R1 q1 MA; rw [← hy] at R2 q2 MA
          obtain ⟨x1, X⟩ := x
          obtain ⟨y1, Y⟩ := y
          simp only at R1 R2 q1 q2 MA
          obtain ⟨Q, hQ⟩ : ∃ Q, Q = O ++ rowC T k j := ⟨_, rfl⟩
          have ql : Q.length ≤ 500 := by have := rowC_len T k j; rw [hQ, List.length_append]; omega
          rw [← hQ] at OW2
          have QE := Lib.hid (show O ++ rowC T k (j + 1) = Q ++ (if metAt T k j then [((k : Int), (j : Int))] else []) by rw [RN.out, hQ, List.append_assoc])
          obtain ⟨m, hm⟩ : ∃ m, m = meetB (x1, X) (y1, Y) := ⟨_, rfl⟩
          rw [← hm] at MA
          rw [MA.out] at QE
          have MC := Lib.hid (show ∀ wx, Below w3.heap.size w3 wx → Calls Tryz.prog 109 #[.slice p1 X.length c1, .slice p2 Y.length c2] wx fun e w' => e = .returned (.bool m) ∧ Below wx.heap.size wx w' from fun wx hbx => by rw [hm]; exact meet_any x1 y1 _ _ X Y wx (R1.out.below hbx) (R2.out.below hbx))
          have i0 : (0 : Int) ≤ (k : Int) := Int.natCast_nonneg _
          have i1 : (k : Int) < (n : Int) := by omega
          have i2 : (0 : Int) ≤ (j : Int) := Int.natCast_nonneg _
          have i3 : (j : Int) < (n : Int) := by omega
          have s2 : IntKind.i64.wrap ((j : Int) + 1) = (j : Int) + 1 := IntWalk.i64_in _ (by omega)
          obtain ⟨oa, oc, rfl, -, -, -⟩ := owns_cells OW2.out
          clear hcs r1 r2 hx hy hQ hm
          go_upto_region 11 with fail
          go_cut [47] (fun s47 wx => s47 = .bool m ∧ Below w3.heap.size w3 wx)
          case first => as_aux_lemma =>
            go_still_tail 8, (by kernel_rfl)
            change wpList _ _ _ _ _ w3.drew
            go_wp2_with fail
            refine (MC.out _ (Below.refl _ _).drew).mono ?_; rintro e w4 ⟨rfl, hb4⟩
            have HB := Lib.hid hb4
            clear hb4 q1 q2
            go_wp2
            go_meet
            exact ⟨rfl, below_next (Below.refl _ _).drew HB.out⟩
          case rest =>
          obtain ⟨rfl, hb4⟩ := hcut
          obtain ⟨w4, rfl⟩ : ∃ x, x = wc := ⟨_, rfl⟩
          have B4 := Lib.hid (B3.out.trans (hb4.mono B3.out.size))
          have OW4 := Lib.hid (own_kept OW2.out hb4)
          have hs4 := B4.out.size
          clear hb4 q1 q2 MC
          cases m
          · have Q2 := Lib.hid (show O ++ rowC T k (j + 1) = Q by rw [QE.out]; simp)
            go_wp2
            go_roundg (n - (j + 1))
            case measure => rw [G2.out]; omega
            case rel => exact ⟨j + 1, by omega, by omega, by go_num, rfl, by rw [Q2.out]; exact OW4.out, B4.out⟩
          · have Q2 := Lib.hid (show O ++ rowC T k (j + 1) = Q ++ [((k : Int), (j : Int))] by rw [QE.out]; simp)
            go_wp2_with (at_builtin; refine wpList_append_lies _ rfl _ _ 98 rfl w1.heap.size 100 it _ 2 16 Tryz.underlying98 hit ht0 ht1 ht2 rfl (by decide) _ _ _ rfl (OW4.out.alloc _) ⟨w4.heap.size, 0, none⟩ 1 1 [.int .i64 k, .int .i64 j] rfl rfl ?c1x1 ?c1x2 (by decide) (by unfold maxLen; omega) (by omega) (by simp; omega) _ rfl ?_)
            try (case c1x1 => exact World.news_of_block (cs := #[.int .i64 k, .int .i64 j]) (heap_alloc_new w4 _))
            case c1x2 => first | exact ⟨rfl, rfl⟩ | (intro u hu; simp at hu; rcases hu with rfl | rfl <;> rfl)
            intro g cap1 w9 hown1 hgrow1 hat1 hlt1
            have hB1 := Lib.hid ((B4.out.alloc hs4 (.cells #[.int .i64 k, .int .i64 j] 100)).grown hgrow1 (by simp; omega) (ownBlock_ge OW4.out))
            have R := Lib.hid (show w9.ownsRow w1.heap.size 100 2 (.slice (some ⟨g, 0, none⟩) (Q.length + 1) cap1) (O ++ rowC T k (j + 1)).length (pairsV (O ++ rowC T k (j + 1))) by
              rw [Q2.out, List.length_append, show pairsV (Q ++ [((k : Int), (j : Int))]) = pairsV Q ++ [.int .i64 k, .int .i64 j] by simp [pairsV]]; exact hown1)
            clear hgrow1 hown1 hat1 hlt1
            go_wp2
            go_roundg (n - (j + 1))
            case measure => rw [G2.out]; omega
            case rel => exact ⟨j + 1, by omega, by omega, by go_num, rfl, R.out, hB1.out⟩
        · obtain rfl : j = n := by omega
          have i3 : ¬ (j : Int) < (j : Int) := by omega
          go_wp2
          go_roundg (j - (k + 1))
          case measure => rw [G.out]; omega
          case rel => exact ⟨k + 1, by omega, by go_num, rfl, by rw [UN.out]; exact OW2.out, B3.out⟩
    · obtain rfl : k = n := by omega
      have i2 : ¬ (k : Int) < (k : Int) := by omega
      go_wp2
      go_ret2
      exact ⟨_, rfl, by rw [if_pos rfl, ← NE.out]; exact World.ownsRow.mono OW.out (Nat.le_trans BW.out.size B1.out.size), BW.out.trans ((B1.out.trans (B2.out.mono B1.out.size)).mono BW.out.size)⟩

end Go.Proofs.YtgelojhpanbnaaaGreatDoor

namespace Go.Proofs.YtgelojhpanbnaaaGreatDoor
open Go.RowKit

theorem each_tail {H : Type} {P : Program} {t : TypeId} {ts : List TypeId} {d : DataW H} {ds : List (DataW H)} (h : (DataW.weightsEach P (t :: ts) (d :: ds)).all (· ≤ reachBytes) = true) : (DataW.weightsEach P ts ds).all (· ≤ reachBytes) = true := by
  rw [List.all_eq_true] at h ⊢
  intro n hn
  exact h n (by rw [DataW.weightsEach]; exact List.mem_append_right _ hn)

end Go.Proofs.YtgelojhpanbnaaaGreatDoor

namespace Go.Proofs.YtgelojhpanbnaaaGreatDoor
open Go.Joins Go.ChangeShapes Go.WideShapes Go.RowKit Go.Deep
set_option linter.unusedVariables false

section
variable {H : Type} {enc : TypeId × Value → H} {P : Program} {w : World} {base : Nat} {spare : Nat → Bool} {held : Bool}

theorem open_cells10 {t : TypeId} {f0 f1 f2 f3 f4 f5 f6 f7 f8 f9 : Field} {fuel : Nat} {c0 c1 c2 c3 c4 c5 c6 c7 c8 c9 c10 c11 c12 c13 c14 c15 c16 : Value} {x : DataW H × List MemPlace} (hs : P.underlying t = some (.struct #[f0, f1, f2, f3, f4, f5, f6, f7, f8, f9])) (o0 : f0.offset = 0) (o1 : f1.offset = 1) (o2 : f2.offset = 2) (o3 : f3.offset = 3) (o4 : f4.offset = 4) (o5 : f5.offset = 5) (o6 : f6.offset = 13) (o7 : f7.offset = 14) (o8 : f8.offset = 15) (o9 : f9.offset = 16) (k0 : P.cellsOf f0.type = 1) (k1 : P.cellsOf f1.type = 1) (k2 : P.cellsOf f2.type = 1) (k3 : P.cellsOf f3.type = 1) (k4 : P.cellsOf f4.type = 1) (k5 : P.cellsOf f5.type = 8) (k6 : P.cellsOf f6.type = 1) (k7 : P.cellsOf f7.type = 1) (k8 : P.cellsOf f8.type = 1) (k9 : P.cellsOf f9.type = 1)
    (h : DataW.trod enc P w base spare held fuel t [c0, c1, c2, c3, c4, c5, c6, c7, c8, c9, c10, c11, c12, c13, c14, c15, c16] = some x) :
    ∃ (y0 y1 y2 y3 y4 y5 y6 y7 y8 y9 : DataW H × List MemPlace) (n : Nat), x.1 = .agg [y0.1, y1.1, y2.1, y3.1, y4.1, y5.1, y6.1, y7.1, y8.1, y9.1] ∧ DataW.trod enc P w base spare held n f0.type [c0] = some y0 ∧ DataW.trod enc P w base spare held n f1.type [c1] = some y1 ∧ DataW.trod enc P w base spare held n f2.type [c2] = some y2 ∧ DataW.trod enc P w base spare held n f3.type [c3] = some y3 ∧ DataW.trod enc P w base spare held n f4.type [c4] = some y4 ∧ DataW.trod enc P w base spare held n f5.type [c5, c6, c7, c8, c9, c10, c11, c12] = some y5 ∧ DataW.trod enc P w base spare held n f6.type [c13] = some y6 ∧ DataW.trod enc P w base spare held n f7.type [c14] = some y7 ∧ DataW.trod enc P w base spare held n f8.type [c15] = some y8 ∧ DataW.trod enc P w base spare held n f9.type [c16] = some y9 := by
  obtain ⟨xs, n, _, hx, _, hlen, hg⟩ := DataW.trod_struct hs h
  match xs, hlen with
  | [y0, y1, y2, y3, y4, y5, y6, y7, y8, y9], _ =>
    exact ⟨y0, y1, y2, y3, y4, y5, y6, y7, y8, y9, n, by rw [hx]; simp, by simpa [o0, k0] using hg 0 f0 rfl, by simpa [o1, k1] using hg 1 f1 rfl, by simpa [o2, k2] using hg 2 f2 rfl, by simpa [o3, k3] using hg 3 f3 rfl, by simpa [o4, k4] using hg 4 f4 rfl, by simpa [o5, k5] using hg 5 f5 rfl, by simpa [o6, k6] using hg 6 f6 rfl, by simpa [o7, k7] using hg 7 f7 rfl, by simpa [o8, k8] using hg 8 f8 rfl, by simpa [o9, k9] using hg 9 f9 rfl⟩

theorem weights_all {e : TypeId} {ds : List (DataW H)} {d : DataW H} (hd : d ∈ ds) : ∀ n ∈ d.weights P e, n ∈ DataW.weightsAll P e ds := by
  induction ds with
  | nil => cases hd
  | cons a r ih =>
    intro n hn
    rw [DataW.weightsAll]
    rcases List.mem_cons.1 hd with rfl | h
    · exact List.mem_append_left _ hn
    · exact List.mem_append_right _ (ih h n hn)

theorem each_head {t : TypeId} {ts : List TypeId} {d : DataW H} {ds : List (DataW H)} (h : (DataW.weightsEach P (t :: ts) (d :: ds)).all (· ≤ reachBytes) = true) : (d.weights P t).all (· ≤ reachBytes) = true := by
  rw [List.all_eq_true] at h ⊢
  intro n hn
  exact h n (by rw [DataW.weightsEach]; exact List.mem_append_left _ hn)

theorem evs_mk {a : Addr} {len cap : Nat} (L : List Ev) (hlen : L.length = len) (h1 : len ≤ cap) (h2 : cap ≤ maxLen)
    (hc : ∀ i (hi : i < L.length), ∀ j u, (L[i].cells)[j]? = some u → w.cell? ((a.add (i * 17)).add j) = some u) : Reads w (.slice (some a) len cap) 17 L.length (L.flatMap Ev.cells) := by
  subst hlen
  have hl17 : ∀ e : Ev, e.cells.length = 17 := fun _ => rfl
  have hll : (L.flatMap Ev.cells).length = L.length * 17 := by
    clear hc h1
    induction L with
    | nil => rfl
    | cons e L ih => rw [List.flatMap_cons, List.length_append, ih, hl17, List.length_cons]; omega
  refine ⟨some a, cap, rfl, hll, h1, h2, fun hn => ?_⟩
  have h0 := hc 0 hn 0 _ rfl
  rw [Go.Addr.add_add] at h0
  have ha := cell_spot (a := a) h0
  refine ⟨a.block, a.off, by rw [← ha], fun j u hj => ?_⟩
  have hjl : j < L.length * 17 := by rw [← hll]; exact (List.getElem?_eq_some_iff.1 hj).1
  have hi : j / 17 < L.length := by omega
  have hp := flatMap_at (enc := Ev.cells) (k := 17) hl17 L (j / 17) (j % 17) hi (by omega)
  rw [show j / 17 * 17 + j % 17 = j by omega, hj] at hp
  have hcc := hc (j / 17) hi (j % 17) u hp.symm
  rw [Go.Addr.add_add, ha, add_spot, show j / 17 * 17 + j % 17 = j by omega] at hcc
  exact hcc
end

end Go.Proofs.YtgelojhpanbnaaaGreatDoor

namespace Go.Proofs.YtgelojhpanbnaaaGreatDoor
open Go.Joins Go.ChangeShapes Go.WideShapes Go.RowKit Go.Deep
set_option linter.unusedVariables false

set_option maxRecDepth 100000 in
theorem open_event_cells2 {H : Type} {enc : TypeId × Value → H} {w : World} {base : Nat} {spare : Nat → Bool} {held : Bool} {fuel : Nat} {c0 c1 c2 c3 c4 c5 c6 c7 c8 c9 c10 c11 c12 c13 c14 c15 c16 : Value} {x : DataW H × List MemPlace}
    (h : DataW.trod enc Tryz.prog w base spare held fuel 29 [c0, c1, c2, c3, c4, c5, c6, c7, c8, c9, c10, c11, c12, c13, c14, c15, c16] = some x) :
    ∃ e : Ev, [c0, c1, c2, c3, c4, c5, c6, c7, c8, c9, c10, c11, c12, c13, c14, c15, c16] = e.cells ∧ EvR w e.vm e.vd e.vw e.vp e.vM e.vN e.vC e.vA e.mo e.da e.we e.pk e.M e.N e.C e.A ∧
      ((x.1.weights Tryz.prog 29).all (· ≤ reachBytes) = true → e.nm.length ≤ 140737488351232 ∧ e.tx.length ≤ 140737488351232 ∧ e.C.length ≤ 8796093022208 ∧ (e.mo.length ≤ 70368744177664 ∧ e.da.length ≤ 70368744177664 ∧ e.we.length ≤ 70368744177664 ∧ e.pk.length ≤ 70368744177664)) := by
  obtain ⟨y0, y1, y2, y3, y4, y5, y6, y7, y8, y9, n, hd, g0, g1, g2, g3, g4, g5, g6, g7, g8, g9⟩ := open_cells10 Tryz.underlying29 rfl rfl rfl rfl rfl rfl rfl rfl rfl rfl (by kernel_rfl) (by kernel_rfl) (by kernel_rfl) (by kernel_rfl) (by kernel_rfl) (by kernel_rfl) (by kernel_rfl) (by kernel_rfl) (by kernel_rfl) (by kernel_rfl) h
  obtain ⟨z0, z1, z2, z3, z4, z5, z6, z7, m, hy5, r0, r1, r2, r3, r4, r5, r6, r7⟩ := open_cells8d Tryz.underlying25 (by kernel_rfl) g5
  obtain ⟨s0, e0, x0, _⟩ := DataW.trod_string Tryz.underlying9 g0
  obtain ⟨s1, e1, x1, _⟩ := DataW.trod_string Tryz.underlying9 g1
  obtain ⟨st, e2, _, w2⟩ := DataW.trod_int Tryz.underlying3 g2
  obtain ⟨ln, e3, _, w3⟩ := DataW.trod_int Tryz.underlying3 g3
  obtain ⟨rp, e4, _⟩ := DataW.trod_bool Tryz.underlying4 g4
  obtain ⟨fr, e5, _, w5⟩ := DataW.trod_int Tryz.underlying3 r0
  obtain ⟨ev, e6, _, w6⟩ := DataW.trod_int Tryz.underlying3 r1
  obtain ⟨ct, e7, _, w7⟩ := DataW.trod_int Tryz.underlying3 r2
  obtain ⟨ti, e8, _, w8⟩ := DataW.trod_int Tryz.underlying3 r3
  simp only [List.cons.injEq, and_true] at e0 e1 e2 e3 e4 e5 e6 e7 e8
  subst e0; subst e1; subst e2; subst e3; subst e4; subst e5; subst e6; subst e7; subst e8
  obtain ⟨mo, hmo⟩ := open_intsR Tryz.underlying22 (by kernel_rfl) Tryz.underlying3 r4
  obtain ⟨da, hda⟩ := open_intsR Tryz.underlying22 (by kernel_rfl) Tryz.underlying3 r5
  obtain ⟨we, hwe⟩ := open_pairsR Tryz.underlying23 Tryz.underlying198 (by kernel_rfl) rfl rfl (by kernel_rfl) (by kernel_rfl) Tryz.underlying3 Tryz.underlying3 r6
  obtain ⟨pk, hpk⟩ := open_intsR Tryz.underlying22 (by kernel_rfl) Tryz.underlying3 r7
  obtain ⟨M, hM⟩ := open_intsR Tryz.underlying22 (by kernel_rfl) Tryz.underlying3 g6
  obtain ⟨N, hN⟩ := open_intsR Tryz.underlying22 (by kernel_rfl) Tryz.underlying3 g7
  obtain ⟨C, hC⟩ := open_pairsR Tryz.underlying26 Tryz.underlying134 (by kernel_rfl) rfl rfl (by kernel_rfl) (by kernel_rfl) Tryz.underlying3 Tryz.underlying3 g8
  obtain ⟨A, hA⟩ := open_almsR Tryz.underlying27 Tryz.underlying84 (by kernel_rfl) (by kernel_rfl) Tryz.underlying3 Tryz.underlying4 Tryz.underlying3 Tryz.underlying3 g9
  refine ⟨⟨s0.data.toList, s1.data.toList, st, ln, rp, fr, ev, ct, ti, c9, c10, c11, c12, c13, c14, c15, c16, mo, da, we, pk, M, N, C, A⟩, by simp only [Ev.cells]; rw [bs_data, bs_data], ⟨hmo, hda, hwe, hpk, hM, hN, hC, hA⟩, fun hw => ?_⟩
  rw [hd] at hw
  simp only [DataW.weights, Tryz.underlying29] at hw
  have hi := hw
  have l0 := sized_string (j := 0) hi rfl (congrArg some (show y0.1 = DataW.lit (.string s0.data.toList) by rw [x0]))
  have l1 := sized_string (j := 1) hi rfl (congrArg some (show y1.1 = DataW.lit (.string s1.data.toList) by rw [x1]))
  have hr := each_inner (j := 5) hi rfl (congrArg some hy5) Tryz.underlying25
  refine ⟨l0, l1, ?_, ?_, ?_, ?_, ?_⟩
  · obtain ⟨ac, kc, rfl, -, -, -⟩ := pairsR_open hC
    rcases slice_elems Tryz.underlying26 g8 with h0 | ⟨el, sp, he, hl⟩
    · simp only; omega
    · have l8 := sized_slice (j := 8) hi rfl (congrArg some he) Tryz.underlying26
      rw [show Tryz.prog.bytesOf 134 = 16 by kernel_rfl] at l8
      unfold reachBytes at l8
      simp only
      omega
  · obtain ⟨ac, kc, rfl, -, -, -⟩ := intsR_open hmo
    rcases slice_elems Tryz.underlying22 r4 with h0 | ⟨el, sp, he, hl⟩
    · simp only; omega
    · have l8 := sized_slice (j := 4) hr rfl (congrArg some he) Tryz.underlying22
      rw [show Tryz.prog.bytesOf 3 = 8 by kernel_rfl] at l8
      unfold reachBytes at l8
      simp only
      omega
  · obtain ⟨ac, kc, rfl, -, -, -⟩ := intsR_open hda
    rcases slice_elems Tryz.underlying22 r5 with h0 | ⟨el, sp, he, hl⟩
    · simp only; omega
    · have l8 := sized_slice (j := 5) hr rfl (congrArg some he) Tryz.underlying22
      rw [show Tryz.prog.bytesOf 3 = 8 by kernel_rfl] at l8
      unfold reachBytes at l8
      simp only
      omega
  · obtain ⟨ac, kc, rfl, -, -, -⟩ := pairsR_open hwe
    rcases slice_elems Tryz.underlying23 r6 with h0 | ⟨el, sp, he, hl⟩
    · simp only; omega
    · have l8 := sized_slice (j := 6) hr rfl (congrArg some he) Tryz.underlying23
      rw [show Tryz.prog.bytesOf 198 = 16 by kernel_rfl] at l8
      unfold reachBytes at l8
      simp only
      omega
  · obtain ⟨ac, kc, rfl, -, -, -⟩ := intsR_open hpk
    rcases slice_elems Tryz.underlying22 r7 with h0 | ⟨el, sp, he, hl⟩
    · simp only; omega
    · have l8 := sized_slice (j := 7) hr rfl (congrArg some he) Tryz.underlying22
      rw [show Tryz.prog.bytesOf 3 = 8 by kernel_rfl] at l8
      unfold reachBytes at l8
      simp only
      omega

theorem open_evsR2 {H : Type} {enc : TypeId × Value → H} {w : World} {base : Nat} {spare : Nat → Bool} {held : Bool} {fuel : Nat} {v : Value} {x : DataW H × List MemPlace}
    (h : DataW.trod enc Tryz.prog w base spare held fuel 51 [v] = some x) :
    ∃ L : List Ev, ((x.1.weights Tryz.prog 51).all (· ≤ reachBytes) = true → EvsR w v L ∧ ∀ e ∈ L, e.Sm) := by
  rcases open_slice Tryz.underlying51 h with ⟨h1, _⟩ | ⟨a, len, cap, m, n, D, Pl, h1, hb, hl, hm, hmm, hx, hi⟩
  · obtain rfl : v = .slice none 0 0 := by simpa using h1
    exact ⟨[], fun _ => ⟨⟨reads_nil w 17, by simp⟩, by simp⟩⟩
  · obtain rfl : v = .slice (some a) len cap := by simpa using h1
    have hlm : len ≤ m := by rw [hmm]; split <;> omega
    have hq : ∀ i, ∃ e : Ev, i < len → (∀ j u, (e.cells)[j]? = some u → w.cell? ((a.add (i * 17)).add j) = some u) ∧ EvR w e.vm e.vd e.vw e.vp e.vM e.vN e.vC e.vA e.mo e.da e.we e.pk e.M e.N e.C e.A ∧
        (((D i).weights Tryz.prog 29).all (· ≤ reachBytes) = true → e.nm.length ≤ 140737488351232 ∧ e.tx.length ≤ 140737488351232 ∧ e.C.length ≤ 8796093022208 ∧ (e.mo.length ≤ 70368744177664 ∧ e.da.length ≤ 70368744177664 ∧ e.we.length ≤ 70368744177664 ∧ e.pk.length ≤ 70368744177664)) := by
      intro i
      by_cases hil : i < len
      · obtain ⟨cs', h3, h4⟩ := hi i (by omega)
        rw [show Tryz.prog.cellsOf 29 = 17 by kernel_rfl] at h3
        obtain ⟨_, h5, h6⟩ := World.cells?_some h3
        match cs', h5 with
        | [c0, c1, c2, c3, c4, c5, c6, c7, c8, c9, c10, c11, c12, c13, c14, c15, c16], _ =>
          obtain ⟨e, he, hr, hb⟩ := open_event_cells2 h4
          refine ⟨e, fun _ => ⟨fun j u hj => ?_, hr, hb⟩⟩
          rw [← he] at hj
          have hj17 : j < 17 := (List.getElem?_eq_some_iff.1 hj).1
          have := h6 j (by omega)
          rw [this]
          exact hj
      · exact ⟨⟨[], [], 0, 0, false, 0, 0, 0, 0, .nilIface, .nilIface, .nilIface, .nilIface, .nilIface, .nilIface, .nilIface, .nilIface, [], [], [], [], [], [], [], []⟩, fun h => absurd h hil⟩
    obtain ⟨g, hg⟩ := Classical.axiomOfChoice hq
    have hb2 : ((x.1.weights Tryz.prog 51).all (· ≤ reachBytes) = true) → ∀ i, i < len → ((D i).weights Tryz.prog 29).all (· ≤ reachBytes) = true := fun hw i hil => by
      rw [List.all_eq_true] at hw ⊢
      intro n hn
      refine hw n ?_
      rw [hx]
      simp only [DataW.weights, Tryz.underlying51]
      exact List.mem_cons_of_mem _ (List.mem_append_left _ (weights_all (List.mem_map_of_mem (List.mem_range.2 hil)) n hn))
    refine ⟨(List.range len).map g, fun hw => ⟨⟨evs_mk _ (by simp) hl hm fun i hi' => ?_, fun e he => ?_⟩, fun e he => ?_⟩⟩
    · have hil : i < len := by simpa using hi'
      simpa using (hg i hil).1
    · obtain ⟨i, hil, rfl⟩ := List.mem_map.1 he
      have hil : i < len := by simpa using hil
      obtain ⟨-, hr, hb⟩ := hg i hil
      obtain ⟨b1, b2, b3, -⟩ := hb (hb2 hw i hil)
      exact ⟨hr, b1, b2, b3⟩
    · obtain ⟨i, hil, rfl⟩ := List.mem_map.1 he
      have hil : i < len := by simpa using hil
      obtain ⟨-, hr, hb⟩ := hg i hil
      exact (hb (hb2 hw i hil)).2.2.2

end Go.Proofs.YtgelojhpanbnaaaGreatDoor
