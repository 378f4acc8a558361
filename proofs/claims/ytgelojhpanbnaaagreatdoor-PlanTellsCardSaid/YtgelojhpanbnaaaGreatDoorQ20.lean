/- Texts joined into one (a claim has at most 60 files): Lists of times, one by one, as they lie; slices.Concat of lists of times: its contract; plan.Busy: its contract; busy.Seek, plan.Meet: their contracts. -/
import Derived.Test.YtgelojhpanbnaaaGreatDoorQ35
import Derived.Test.YtgelojhpanbnaaaGreatDoorQ18
import Derived.Test.YtgelojhpanbnaaaGreatDoorShGrowT
namespace Go.Proofs.YtgelojhpanbnaaaGreatDoor
open Go.RowKit Go.Shelf

theorem tss_at {B : Nat} {w : World} {v : Value} {T : List TL} {S : List Value} (h : TssS B w v T S) : ∃ a cap, v = .slice a T.length cap ∧ T.length ≤ cap ∧ cap ≤ maxLen ∧ (0 < T.length → ∃ g, a = some ⟨g, 0, none⟩ ∧ ∀ (i : Nat) (hi : i < T.length), ∃ p c, w.cell? ⟨g, i, none⟩ = some (.slice p T[i].2.length c) ∧ TmsR T[i].1 w (.slice p T[i].2.length c) T[i].2) := by
  obtain ⟨a, cap, rfl, h1, h2, h3⟩ := owns_cells h.own
  refine ⟨a, cap, rfl, h2, h1, fun hp => ?_⟩
  obtain ⟨g, rfl, -, hc⟩ := h3 hp
  refine ⟨g, rfl, fun i hi => ?_⟩
  have hi2 : i < S.length := by rw [h.len]; exact hi
  have ht := h.tms i hi hi2
  obtain ⟨p, c, hs, -, -, -⟩ := tmsR_open ht
  exact ⟨p, c, by rw [← hs]; exact hc i _ (List.getElem?_eq_getElem hi2), by rw [← hs]; exact ht⟩

end Go.Proofs.YtgelojhpanbnaaaGreatDoor

namespace Go.Proofs.YtgelojhpanbnaaaGreatDoor
open Go.RowKit Go.Shelf
set_option linter.unusedSimpArgs false
set_option linter.unusedVariables false

theorem growT_any (n : Nat) (hn : n ≤ 100000) (w : World) :
    Calls Tryz.prog 177 #[.slice none 0 0, .int .i64 n] w fun e w' => ∃ v, e = .returned v ∧ w'.ownsRow w.heap.size 54 3 v 0 [] ∧ Below w.heap.size w w' := by
  by_cases h0 : n = 0
  · subst h0
    refine (Any8.slices_Grow_room Tryz.growTime none 0 0 0 w (Nat.le_refl _) (by decide) (by decide) (Nat.le_refl _)).mono ?_
    rintro e w' ⟨rfl, rfl⟩
    exact ⟨_, rfl, World.ownsRow_nil _ _ _ _, Below.refl _ _⟩
  · obtain ⟨i0, hi, hz0, hz1, hz2⟩ := info_parts timeInfo
    refine (Any8.slices_Grow_grow Tryz.growTime i0 _ hi hz0 (by rw [hz1]; decide) none 0 0 n [] w (Nat.le_refl _) (by omega) (by rw [hz2]; omega) (by omega) (by simp) (fun _ => rfl) (fun a h => by cases h)).mono ?_
    rintro e w' ⟨rfl, rfl⟩
    refine ⟨_, rfl, ?_, ?_⟩
    · have h1 := grownCap_ge w (0 + n) 0 54
      have h2 := grownCap_le_maxLen w (0 + n) 0 54 (by unfold maxLen; omega)
      have hr : Tryz.growTime_ren.t 25 = 54 := rfl
      rw [hr]
      obtain ⟨G, hG⟩ : ∃ G, G = grownCap w (0 + n) 0 54 := ⟨_, rfl⟩
      rw [← hG] at h1 h2 ⊢
      refine ⟨rfl, .inr ⟨w.heap.size, G, _, rfl, Nat.le_refl _, heap_alloc_new w.drew _, Nat.zero_le _, h2, ?_, by simp⟩⟩
      rw [Array.size_append, Array.size_append, size_zeroCells, size_zeroCells]
      simp [Value.cells]
      omega
    · exact ((Below.refl _ _).drew).alloc (Nat.le_refl _) _

set_option maxRecDepth 100000 in
set_option maxHeartbeats 4000000 in
theorem concatT_any (B : Nat) (v : Value) (T : List TL) (w : World) (hT : TssR B w v T) (hn : sumN T ≤ 10000) (hl : T.length ≤ 10000) :
    Calls Tryz.prog 107 #[v] w fun e w' => ∃ u, e = .returned u ∧ w'.ownsRow w.heap.size 54 3 u (catT T).length ((catT T).flatMap enc3) ∧ Below w.heap.size w w' := by
  obtain ⟨S, hS⟩ := hT
  obtain ⟨p, cap, rfl, -, -, hcs⟩ := tss_at hS
  have HD := Lib.hid hcs
  obtain ⟨n, hnn⟩ : ∃ n, n = T.length := ⟨_, rfl⟩
  have NE := Lib.hid hnn
  have HN := Lib.hid hn
  rw [← hnn] at hl ⊢
  have TK := Lib.hid (show ∀ k, sumN (T.take k) ≤ 10000 from fun k => Nat.le_trans sumN_le hn)
  clear hS hcs hnn hn
  go_enter Tryz.func107, Tryz.ntmps107
  go_wp2_with fail
  go_loopg [3, 11] n (fun g sv i wr => ∃ k m : Nat, k ≤ n ∧ i = .int .i64 k ∧ g = n - k ∧ sv = .int .i64 m ∧ m = sumN (T.take k) ∧ w = wr)
  case atStart => exact ⟨0, 0, Nat.zero_le _, rfl, rfl, rfl, rfl, rfl⟩
  case round =>
    obtain ⟨k, m, hk, rfl, hg, rfl, hm, rfl⟩ := hrel
    have G := Lib.hid hg
    have HM := Lib.hid hm
    have mb : m ≤ 10000 := by rw [hm]; exact TK.out k
    clear hg hm
    by_cases hlt : k < n
    · have hk1 : k < T.length := by rw [← NE.out]; exact hlt
      obtain ⟨g, rfl, hcs⟩ := HD.out (by omega)
      obtain ⟨q, c, c0, -⟩ := hcs k hk1
      have SN := Lib.hid (sumN_next hk1)
      have TB := TK.out (k + 1)
      rw [SN.out, ← HM.out] at TB
      obtain ⟨r, hr⟩ : ∃ r, r = T[k].2.length := ⟨_, rfl⟩
      rw [← hr] at c0 SN TB
      have i0 : (0 : Int) ≤ (k : Int) := Int.natCast_nonneg _
      have i2 : (k : Int) < (n : Int) := by omega
      have s1 : IntKind.i64.wrap ((m : Int) + (r : Int)) = ((m + r : Nat) : Int) := by rw [Int.natCast_add]; exact IntWalk.i64_in _ (by omega)
      have d1 : decide (((m + r : Nat) : Int) < 0) = false := decide_eq_false (by omega)
      clear hcs hr
      go_wp2
      go_roundg (n - (k + 1))
      case measure => rw [G.out]; omega
      case rel => exact ⟨k + 1, m + r, by omega, by go_num, rfl, rfl, by rw [SN.out, HM.out], rfl⟩
    · obtain rfl : k = n := by omega
      have i2 : ¬ (k : Int) < (k : Int) := by omega
      have e1 : T.take k = T := List.take_of_length_le (by rw [NE.out]; exact Nat.le_refl _)
      rw [e1] at HM
      clear e1
      go_wp2_with fail
      refine (growT_any m (by omega) _).mono ?_; rintro e w1 ⟨v, rfl, hown, hb⟩
      have OW := Lib.hid hown
      have BW := Lib.hid hb
      clear hown hb
      obtain ⟨it, hit, ht0, ht1, ht2⟩ := info_parts timeInfo
      go_wp2_with fail
      go_loopg [6, 27] k (fun g sv i wr => ∃ j : Nat, j ≤ k ∧ i = .int .i64 j ∧ g = k - j ∧ wr.ownsRow w.heap.size 54 3 sv (catT (T.take j)).length ((catT (T.take j)).flatMap enc3) ∧ Below w.heap.size w wr)
      case atStart => exact ⟨0, Nat.zero_le _, rfl, rfl, OW.out, BW.out⟩
      case round =>
        obtain ⟨j, hj, rfl, hg2, ho, hb⟩ := hrel
        obtain ⟨w2, rfl⟩ : ∃ x, x = wr := ⟨_, rfl⟩
        have G2 := Lib.hid hg2; have O2 := Lib.hid ho; have B2 := Lib.hid hb
        clear hg2 ho hb
        by_cases hlt2 : j < k
        · have hj1 : j < T.length := by rw [← NE.out]; exact hlt2
          obtain ⟨g, rfl, hcs⟩ := HD.out (by omega)
          obtain ⟨q, c, c0, r0⟩ := hcs j hj1
          have c0 := cell_below B2.out c0
          have R0 := Lib.hid (r0.below B2.out)
          have TN := Lib.hid (show catT (T.take (j + 1)) = catT (T.take j) ++ catT [T[j]] by rw [List.take_succ_eq_append_getElem hj1, catT_app])
          have EN := Lib.hid (catT_one T[j])
          have l1 : (catT [T[j]]).length = T[j].2.length := by rw [catT_len]; simp [sumN]
          have l2 : (catT (T.take j)).length + T[j].2.length ≤ 10000 := by
            have h1 := TK.out (j + 1)
            rw [sumN_next hj1] at h1
            rw [catT_len]; exact h1
          obtain ⟨x, hx⟩ : ∃ x, x = T[j] := ⟨_, rfl⟩
          rw [← hx] at c0 R0 TN EN l1 l2
          obtain ⟨O, hO⟩ : ∃ O, O = catT (T.take j) := ⟨_, rfl⟩
          rw [← hO] at O2 TN l2
          obtain ⟨X, hX⟩ : ∃ X, X = catT [x] := ⟨_, rfl⟩
          rw [← hX] at TN EN l1
          have LX := Lib.hid l1
          have i0 : (0 : Int) ≤ (j : Int) := Int.natCast_nonneg _
          have i2 : (j : Int) < (k : Int) := by omega
          have hs2 := B2.out.size
          clear hcs r0 hx hO hX l1
          go_wp2_with (at_builtin; refine wpList_append_row rfl _ _ 47 rfl 54 it _ 3 24 Tryz.underlying47 hit ht0 ht1 ht2 rfl (by decide) w.heap.size _ _ O.length x.2.length (O.flatMap enc3) (x.2.flatMap (encT x.1)) rfl rfl O2.out R0.out (fun u hu => by obtain ⟨y, -, hy⟩ := List.mem_flatMap.1 hu; simp [encT] at hy; rcases hy with rfl | rfl | rfl <;> rfl) hs2 (by omega) (by unfold maxLen; omega) ?_)
          intro v8 w8 hown8 hb8
          have O8 := Lib.hid (show w8.ownsRow w.heap.size 54 3 v8 (catT (T.take (j + 1))).length ((catT (T.take (j + 1))).flatMap enc3) by rw [TN.out, List.length_append, List.flatMap_append, LX.out, EN.out]; exact hown8)
          have B8 := Lib.hid (B2.out.trans hb8)
          clear hown8 hb8 c0
          go_wp2
          go_roundg (k - (j + 1))
          case measure => rw [G2.out]; omega
          case rel => exact ⟨j + 1, by omega, by go_num, rfl, O8.out, B8.out⟩
        · obtain rfl : j = k := by omega
          have i2 : ¬ (j : Int) < (j : Int) := by omega
          have e1 : T.take j = T := List.take_of_length_le (by rw [NE.out]; exact Nat.le_refl _)
          rw [e1] at O2
          clear e1
          go_wp2
          go_ret
          exact ⟨_, rfl, O2.out, B2.out⟩

end Go.Proofs.YtgelojhpanbnaaaGreatDoor

namespace Go.Proofs.YtgelojhpanbnaaaGreatDoor
open Go.RowKit Go.Shelf
set_option linter.unusedSimpArgs false
set_option linter.unusedVariables false

def BusyP (E : Int) (K : List (Int × Int)) (w : World) (e : Ending) (w' : World) : Prop := ∃ v, e = .returned (.tuple #[v, errV E]) ∧ w'.ownsRow w.heap.size 177 2 v (if E = 0 then ofL K else []).length (pairsV (if E = 0 then ofL K else [])) ∧ Below w.heap.size w w'

theorem allE_0 {k : Nat} {es : List Int} {n : Nat} (h : allE k es n = 0) : k ≤ 20 ∧ fstE es = 0 ∧ n ≤ 200 := by
  unfold allE at h
  by_cases h1 : 20 < k
  · rw [if_pos h1] at h; cases h
  · rw [if_neg h1] at h
    by_cases h2 : fstE es ≠ 0
    · rw [if_pos h2] at h; exact absurd h h2
    · rw [if_neg h2] at h
      by_cases h3 : 200 < n
      · rw [if_pos h3] at h; cases h
      · exact ⟨by omega, by omega, by omega⟩

theorem enc3_at {w : World} {base : Nat} {e : TypeId} {v : Value} {X : List (Int × Int × Int)} (h : w.ownsRow base e 3 v X.length (X.flatMap enc3)) : ∃ a cap, v = .slice a X.length cap ∧ (0 < X.length → ∃ g, a = some ⟨g, 0, none⟩ ∧ ∀ (k : Nat) (hk : k < X.length), w.cell? ⟨g, k * 3, none⟩ = some (.int .i64 X[k].1) ∧ w.cell? ⟨g, k * 3 + 1, none⟩ = some (.int .i64 X[k].2.1) ∧ w.cell? ⟨g, k * 3 + 2, none⟩ = some (.int .i64 X[k].2.2)) := by
  obtain ⟨a, cap, rfl, -, -, h3⟩ := owns_cells h
  refine ⟨a, cap, rfl, fun hp => ?_⟩
  obtain ⟨g, rfl, -, q⟩ := h3 hp
  refine ⟨g, rfl, fun k hk => ⟨q (k * 3) _ ?_, q (k * 3 + 1) _ ?_, q (k * 3 + 2) _ ?_⟩⟩
  · have := flatMap_at (enc := enc3) (k := 3) (fun _ => rfl) X k 0 hk (by omega); simpa [enc3] using this
  · have := flatMap_at (enc := enc3) (k := 3) (fun _ => rfl) X k 1 hk (by omega); simpa [enc3] using this
  · have := flatMap_at (enc := enc3) (k := 3) (fun _ => rfl) X k 2 hk (by omega); simpa [enc3] using this

set_option maxRecDepth 100000 in
set_option maxHeartbeats 16000000 in
theorem busyAll_any (ah : Int) (vZ : Value) (Z : List (Int × Int)) (v : Value) (L : List Ev) (a b : Int) (w : World) (hw : Months w) (hL : EvsR w v L) (hZ : PairsR w vZ Z) :
    Calls Tryz.prog 39 #[.agg #[.int .i64 ah, vZ], v, .int .i64 a, .int .i64 b] w
      (BusyP (allE L.length (L.map (Ev.err ah Z a b)) (sumN (L.map fun e => (e.ln, e.times ah Z a b)))) (takenL (L.map fun e => (e.ln, e.times ah Z a b))) w) := by
  obtain ⟨p, cap, rfl, -, -, -⟩ := evsR_open hL
  have hZ0 := hZ
  obtain ⟨aZ, kZ, rfl, -, -, -⟩ := pairsR_open hZ
  obtain ⟨eb, heb⟩ : ∃ x, x = w.heap.size := ⟨_, rfl⟩
  obtain ⟨wz, hwz⟩ : ∃ x, x = w.alloc (.cells #[.int .i64 ah, .slice aZ Z.length kZ] 33) := ⟨_, rfl⟩
  have hbz : Below w.heap.size w wz := by rw [hwz]; exact (Below.refl _ _).alloc (Nat.le_refl _) _
  have z0 : wz.cell? ⟨eb, 0, none⟩ = some (.int .i64 ah) := by rw [hwz, heb]; simp
  have z1 : wz.cell? ⟨eb, 1, none⟩ = some (.slice aZ Z.length kZ) := by rw [hwz, heb]; simp
  obtain ⟨E, hE⟩ : ∃ E, E = allE L.length (L.map (Ev.err ah Z a b)) (sumN (L.map fun e => (e.ln, e.times ah Z a b))) := ⟨_, rfl⟩
  obtain ⟨T, hT⟩ : ∃ T, T = L.map fun e => (e.ln, e.times ah Z a b) := ⟨_, rfl⟩
  have lT : T.length = L.length := by rw [hT, List.length_map]
  have AA := Lib.hid (show Calls Tryz.prog 106 #[.agg #[.int .i64 ah, .slice aZ Z.length kZ], .slice p L.length cap, .int .i64 a, .int .i64 b] wz (AllP E T wz) by
    have h := all_any ah _ Z _ L a b wz (hw.below hbz) (hL.below hbz) (hZ0.below hbz)
    rw [← hE, ← hT] at h; exact h)
  have E20 := Lib.hid (show E = 0 → T.length ≤ 20 ∧ sumN T ≤ 200 from fun h => by
    rw [hE, ← hT] at h
    have := allE_0 h
    rw [lT]; exact ⟨this.1, this.2.2⟩)
  rw [← hE, ← hT]
  have BW := Lib.hid hbz; have WZ := Lib.hid hwz; have EB := Lib.hid heb
  have Z0 := Lib.hid z0; have Z1 := Lib.hid z1
  clear hw hL hZ hZ0 hwz hbz heb z0 z1 hE hT lT
  go_enter Tryz.func39, Tryz.ntmps39
  go_upto_region 1 with fail
  rw [← WZ.out]
  rw [← EB.out]
  have z0 := Z0.out; have z1 := Z1.out
  go_cut [10, 11] (fun s10 s11 wx => ∃ v, s10 = v ∧ s11 = errV E ∧ TssR wz.heap.size wx v (if E = 0 then T else []) ∧ Below wz.heap.size wz wx)
  case first => as_aux_lemma =>
    go_wp2_with fail
    refine AA.out.mono ?_; rintro e w3 ⟨v, rfl, hv, hb⟩
    have HV := Lib.hid hv; have HB := Lib.hid hb
    clear hv hb z0 z1
    go_wp2
    go_meet
    exact ⟨_, rfl, rfl, HV.out, HB.out⟩
  case rest =>
  obtain ⟨v, rfl, rfl, hv, hb3⟩ := hcut
  obtain ⟨w1, rfl⟩ : ∃ x, x = wc := ⟨_, rfl⟩
  have B1 := Lib.hid hb3
  clear hb3 z0 z1 AA
  by_cases h0 : E ≠ 0
  · have EV := Lib.hid (show errV E = .iface 124 (.int .i64 E) by rw [errV, if_neg h0])
    have H0 := Lib.hid h0
    rw [EV.out]
    clear h0 hv
    go_wp2
    go_ret2
    exact ⟨_, by rw [EV.out]; rfl, by rw [if_neg H0.out]; exact World.ownsRow_nil _ _ _ _, BW.out.trans (B1.out.mono BW.out.size)⟩
  obtain rfl : E = 0 := by omega
  rw [errV_0]
  rw [if_pos rfl] at hv
  obtain ⟨l20, l200⟩ := E20.out rfl
  have CT := Lib.hid (concatT_any _ _ T w1 hv (by omega) (by omega))
  clear hv h0 E20
  go_wp2_with fail
  refine CT.out.mono ?_; rintro e w2 ⟨u, rfl, hu, hb2⟩
  obtain ⟨X, hX⟩ : ∃ X, X = catT T := ⟨_, rfl⟩
  rw [← hX] at hu
  have XL : X.length ≤ 200 := by rw [hX, catT_len]; exact l200
  have TK := Lib.hid (show takenL T = X.map fun x => x.2 by rw [takenL, hX])
  obtain ⟨ua, uc, rfl, hcs⟩ := enc3_at hu
  have HD := Lib.hid hcs
  have B2 := Lib.hid (B1.out.trans (hb2.mono B1.out.size))
  obtain ⟨n, hn⟩ : ∃ n, n = X.length := ⟨_, rfl⟩
  have NE := Lib.hid hn
  rw [← hn] at XL ⊢
  clear hu hb2 hcs hX CT hn l20 l200
  obtain ⟨i0, hi, hz0, hz1, hz2⟩ := info_parts busyInfo
  go_wp2_with fail
  go_loopg [12, 29] n (fun g ov iv wr => ∃ (k : Nat) (O : List (Int × Int)), k ≤ n ∧ iv = .int .i64 k ∧ g = n - k ∧ O = (X.take k).map (fun x => x.2) ∧ wr.ownsRow w2.heap.size 177 2 ov O.length (pairsV O) ∧ Below w2.heap.size w2 wr)
  case atStart => exact ⟨0, [], Nat.zero_le _, rfl, rfl, rfl, World.ownsRow_nil _ _ _ _, Below.refl _ _⟩
  case round =>
    obtain ⟨k, O, hk, rfl, hg, hO, hown, hb⟩ := hrel
    have G := Lib.hid hg; clear hg
    have OW := Lib.hid hown
    have BWr := Lib.hid hb
    have hbs := hb.size
    have OL : O.length ≤ k := by rw [hO, List.length_map]; exact List.length_take_le _ _
    have OE := Lib.hid hO
    obtain ⟨oa, oc, rfl, ko, hocell⟩ := ownsRow_open hown
    clear hocell hO hown
    by_cases hlt : k < n
    · have hk1 : k < X.length := by rw [← NE.out]; exact hlt
      obtain ⟨g0, rfl, hcs⟩ := HD.out (by rw [← NE.out]; omega)
      have c0 := cell_below hb (hcs k hk1).1
      have c1 := cell_below hb (hcs k hk1).2.1
      have c2 := cell_below hb (hcs k hk1).2.2
      have TN := Lib.hid (show (X.take (k + 1)).map (fun x => x.2) = O ++ [X[k].2] by rw [List.take_succ_eq_append_getElem hk1, List.map_append, ← OE.out]; rfl)
      obtain ⟨x, hx⟩ : ∃ x, x = X[k] := ⟨_, rfl⟩
      rw [← hx] at c0 c1 c2 TN
      obtain ⟨x0, x1, x2⟩ := x
      simp only at c0 c1 c2 TN
      have j0 : (0 : Int) ≤ (k : Int) := Int.natCast_nonneg _
      have j2 : (k : Int) < (n : Int) := by omega
      obtain ⟨wb, hwb⟩ : ∃ wb, wb = wr.alloc (.cells #[.int .i64 x0, .int .i64 x1, .int .i64 x2] 54) := ⟨_, rfl⟩
      have y1 : wb.cell? ⟨wr.heap.size, 1, none⟩ = some (.int .i64 x1) := by rw [hwb]; simp
      have y2 : wb.cell? ⟨wr.heap.size, 2, none⟩ = some (.int .i64 x2) := by rw [hwb]; simp
      have BB := Lib.hid (show Below wr.heap.size wr wb by rw [hwb]; exact (Below.refl _ _).alloc (Nat.le_refl _) _)
      obtain ⟨xb, hxb⟩ : ∃ xb, xb = wr.heap.size := ⟨_, rfl⟩
      rw [← hxb] at y1 y2
      have XB := Lib.hid hxb
      have WB := Lib.hid hwb
      have OWB := Lib.hid (ownsRow_kept OW.out BB.out)
      clear hwb hxb hcs hx hb
      go_upto_region 8 with fail
      rw [← WB.out]
      rw [← XB.out]
      clear c0 c1 c2
      have BT := Lib.hid (BWr.out.trans (BB.out.mono hbs))
      have hdz := BT.out.size
      have hown := OWB.out
      go_wp2_with (at_builtin; refine wpList_append_lies _ rfl _ _ 89 rfl w2.heap.size 177 i0 _ 2 16 Tryz.underlying89 hi hz0 hz1 hz2 rfl (by decide) _ _ _ rfl (hown.alloc _) ⟨wb.heap.size, 0, none⟩ 1 1 [.int .i64 x1, .int .i64 x2] rfl rfl ?c1x1 ?c1x2 (by decide) (by unfold maxLen; omega) (by omega) (by simp; omega) _ rfl ?_)
      try (case c1x1 => exact World.news_of_block (cs := #[.int .i64 x1, .int .i64 x2]) (heap_alloc_new wb _))
      case c1x2 => first | exact ⟨rfl, rfl⟩ | (intro u hu; simp at hu; rcases hu with rfl | rfl <;> rfl)
      intro g cap1 w9 hown1 hgrow1 hat1 hlt1
      have hB1 := Lib.hid ((BT.out.alloc hdz (.cells #[.int .i64 x1, .int .i64 x2] 177)).grown hgrow1 (by simp; omega) (ownBlock_ge hown))
      have R := Lib.hid (show w9.ownsRow w2.heap.size 177 2 (.slice (some ⟨g, 0, none⟩) (O.length + 1) cap1) (O ++ [(x1, x2)]).length (pairsV (O ++ [(x1, x2)])) by
        rw [List.length_append, show pairsV (O ++ [(x1, x2)]) = pairsV O ++ [.int .i64 x1, .int .i64 x2] by simp [pairsV]]; exact hown1)
      clear hgrow1 hown1 hown hat1 hlt1 y1 y2
      go_wp2
      go_roundg (n - (k + 1))
      case measure => rw [G.out]; omega
      case rel => exact ⟨k + 1, O ++ [(x1, x2)], by omega, by go_num, rfl, TN.out.symm, R.out, hB1.out⟩
    · obtain rfl : k = n := by omega
      have i2 : ¬ (k : Int) < (k : Int) := by omega
      have OT := Lib.hid (show O = takenL T by rw [TK.out, OE.out, List.take_of_length_le (by rw [NE.out]; exact Nat.le_refl _)])
      have PR := Lib.hid (show PairsR wr (.slice oa O.length oc) O from ownsRow_reads OW.out)
      clear hb
      go_wp2_with fail
      refine (bof_any _ O _ PR.out (by omega)).mono ?_; rintro e w5 ⟨v, rfl, hv, hb5⟩
      have HV := Lib.hid hv; have HB := Lib.hid hb5
      clear hv hb5
      go_wp2
      go_ret2
      exact ⟨_, rfl, by rw [if_pos rfl, ← OT.out]; exact World.ownsRow.mono HV.out (Nat.le_trans BW.out.size (Nat.le_trans B2.out.size BWr.out.size)), BW.out.trans ((B2.out.trans ((BWr.out.trans (HB.out.mono hbs)).mono B2.out.size)).mono BW.out.size)⟩

end Go.Proofs.YtgelojhpanbnaaaGreatDoor

namespace Go.Proofs.YtgelojhpanbnaaaGreatDoor
open Go.RowKit Go.Shelf
set_option linter.unusedSimpArgs false
set_option linter.unusedVariables false

theorem seek_any (v : Value) (L : List (Int × Int)) (a b n : Int) (w : World) (hL : PairsR w v L) (hlen : L.length ≤ 10000) (hok : ∀ x ∈ L, x.1 ≤ x.2) :
    Calls Tryz.prog 110 #[v, .int .i64 a, .int .i64 b, .int .i64 n] w fun e w' => e = .returned (.tuple #[.int .i64 (seekV L a b n), errV (seekE L a b n)]) ∧ Below w.heap.size w w' := by
  have HL := Lib.hid hL
  have LL := Lib.hid hlen
  obtain ⟨S, hS⟩ : ∃ S, S = strE a b := ⟨_, rfl⟩
  have SK := Lib.hid (show Calls Tryz.prog 184 #[.int .i64 a, .int .i64 b] w (fun e w' => e = .returned (errV S) ∧ w = w') by rw [hS]; exact bstretch_any a b w)
  have SG := Lib.hid (show S = 0 → Good (freeL b (ofL L) a) from fun h => by rw [ofL_norm hok]; exact seek_good hok (by rw [← hS]; exact h))
  have SE := Lib.hid (show seekE L a b n = if S ≠ 0 then S else bfirstE n (freeL b (ofL L) a) by rw [seekE, hS, ofL_norm hok])
  have SV := Lib.hid (show seekV L a b n = if S ≠ 0 then 0 else firstV n (freeL b (ofL L) a) by rw [seekV, hS, ofL_norm hok])
  obtain ⟨p, cap, rfl, -, -, -⟩ := pairsR_open hL
  clear hL hlen hS hok
  go_enter Tryz.func110, Tryz.ntmps110
  go_wp2_with fail
  refine SK.out.mono ?_; rintro e w1 ⟨rfl, rfl⟩
  by_cases h0 : S ≠ 0
  · have EV := Lib.hid (show errV S = .iface 124 (.int .i64 S) by rw [errV, if_neg h0])
    have E1 := Lib.hid (show seekE L a b n = S by rw [SE.out, if_pos h0])
    have V1 := Lib.hid (show seekV L a b n = 0 by rw [SV.out, if_pos h0])
    rw [EV.out]
    clear h0
    go_wp2
    go_ret2
    exact ⟨by rw [E1.out, V1.out, EV.out]; rfl, Below.refl _ _⟩
  obtain rfl : S = 0 := by omega
  rw [errV_0]
  have HG := Lib.hid (SG.out rfl)
  have E1 := Lib.hid (show seekE L a b n = bfirstE n (freeL b (ofL L) a) by rw [SE.out, if_neg (by simp)])
  have V1 := Lib.hid (show seekV L a b n = firstV n (freeL b (ofL L) a) by rw [SV.out, if_neg (by simp)])
  obtain ⟨F, hF⟩ : ∃ F, F = freeL b (ofL L) a := ⟨_, rfl⟩
  have FB := Lib.hid (show Calls Tryz.prog 186 #[.slice p L.length cap, .int .i64 a, .int .i64 b] w (FreeP F w) by rw [hF]; exact freeB_any _ L a b w HL.out LL.out)
  rw [← hF] at HG E1 V1
  clear h0 hF SE SV SG
  go_wp2_with fail
  refine FB.out.mono ?_; rintro e w1 ⟨u, rfl, hown, hb1⟩
  have PF := Lib.hid (show PairsR w1 u F from ownsRow_reads hown)
  have B := Lib.hid hb1
  clear hown hb1
  go_wp2_with fail
  refine (first_any _ _ n _ PF.out HG.out).mono ?_; rintro e w2 ⟨rfl, hb2⟩
  have B2 := Lib.hid (B.out.trans (hb2.mono B.out.size))
  clear hb2
  go_wp2
  go_ret2
  exact ⟨by rw [E1.out, V1.out]; rfl, B2.out⟩

structure Grp where
  ah : Int
  vZ : Value
  Z : List (Int × Int)
  v : Value
  L : List Ev

instance : Inhabited Grp := ⟨⟨0, .nilIface, [], .nilIface, []⟩⟩

noncomputable def Grp.T (a b : Int) (g : Grp) : List TL := g.L.map fun e => (e.ln, e.times g.ah g.Z a b)
noncomputable def Grp.E (a b : Int) (g : Grp) : Int := allE g.L.length (g.L.map (Ev.err g.ah g.Z a b)) (sumN (g.T a b))
noncomputable def Grp.K (a b : Int) (g : Grp) : List (Int × Int) := takenL (g.T a b)
def Grp.zc (g : Grp) : List Value := [.int .i64 g.ah, g.vZ]

structure GrpsR (w : World) (u v : Value) (D : List Grp) : Prop where
  z : Reads w u 2 D.length (D.flatMap Grp.zc)
  l : Reads w v 1 D.length (D.map (·.v))
  zs : ∀ g ∈ D, PairsR w g.vZ g.Z
  es : ∀ g ∈ D, EvsR w g.v g.L

theorem ev_up {e : Ev} {ah : Int} {Z : List (Int × Int)} {a b : Int} (h : e.err ah Z a b = 0) : 0 ≤ e.ln := by
  obtain ⟨e1, -⟩ := fullN_0 h.symm
  obtain ⟨f0, -⟩ := betE_0 e1
  exact (evF_facts f0).ln.1

theorem fstE_all {l : List Int} (h : fstE l = 0) : ∀ x ∈ l, x = 0 := by
  induction l with
  | nil => simp
  | cons a r ih =>
    unfold fstE at h
    by_cases h0 : a ≠ 0
    · rw [if_pos h0] at h; exact absurd h h0
    · rw [if_neg h0] at h
      intro x hx
      rcases List.mem_cons.1 hx with rfl | h1
      · omega
      · exact ih h x h1

theorem grp_up {g : Grp} {a b : Int} (h : g.E a b = 0) : ∀ x ∈ g.K a b, x.1 ≤ x.2 := by
  obtain ⟨-, h2, -⟩ := allE_0 h
  intro x hx
  obtain ⟨t, ht, y, hy, rfl⟩ := takenL_mem.1 hx
  obtain ⟨e, he, rfl⟩ := List.mem_map.1 ht
  have h3 := ev_up (fstE_all h2 _ (List.mem_map_of_mem he))
  simp only; omega

theorem grp_len {g : Grp} {a b : Int} (h : g.E a b = 0) : (g.K a b).length ≤ 200 := by
  have h1 := (allE_0 h).2.2
  rw [Grp.K, takenL_len]; exact h1

noncomputable def meetF (D : List Grp) (a b n : Int) : Int := if fstE (D.map (Grp.E a b)) ≠ 0 then fstE (D.map (Grp.E a b)) else seekE (tkL (D.map (Grp.K a b))) a b n
noncomputable def meetV (D : List Grp) (a b n : Int) : Int := if fstE (D.map (Grp.E a b)) ≠ 0 then 0 else seekV (tkL (D.map (Grp.K a b))) a b n

theorem pairsV_cell1 {L : List (Int × Int)} : ∀ u ∈ pairsV L, u.oneCell' = true := fun u hu => by
  obtain ⟨q, _, hq⟩ := List.mem_flatMap.1 hu
  simp at hq
  rcases hq with rfl | rfl <;> rfl

theorem one_at {w : World} {v : Value} {xs : List Value} {n : Nat} (h : Reads w v 1 n xs) : ∃ a cap, v = .slice a n cap ∧ (0 < n → ∃ b off, a = some ⟨b, off, none⟩ ∧ ∀ (k : Nat) (hk : k < xs.length), w.cell? ⟨b, off + k, none⟩ = some xs[k]) := by
  obtain ⟨p, cap, rfl, -, -, -, k4⟩ := h
  refine ⟨p, cap, rfl, fun hp => ?_⟩
  obtain ⟨b, off, rfl, hc⟩ := k4 hp
  exact ⟨b, off, rfl, fun k hk => hc k _ (List.getElem?_eq_getElem hk)⟩

theorem zc_at {w : World} {v : Value} {D : List Grp} (h : Reads w v 2 D.length (D.flatMap Grp.zc)) : ∃ a cap, v = .slice a D.length cap ∧ (0 < D.length → ∃ b off, a = some ⟨b, off, none⟩ ∧ ∀ (k : Nat) (hk : k < D.length), w.cell? ⟨b, off + k * 2, none⟩ = some (.int .i64 D[k].ah) ∧ w.cell? ⟨b, off + k * 2 + 1, none⟩ = some D[k].vZ) := by
  obtain ⟨p, cap, rfl, -, -, -, k4⟩ := h
  refine ⟨p, cap, rfl, fun hp => ?_⟩
  obtain ⟨b, off, rfl, hc⟩ := k4 hp
  have q : ∀ (k : Nat) (hk : k < D.length) (o : Nat) (ho : o < 2) (u : Value), (D[k].zc)[o]? = some u → w.cell? ⟨b, off + k * 2 + o, none⟩ = some u := fun k hk o ho u hu => by
    rw [Nat.add_assoc]
    exact hc _ _ ((flatMap_at (enc := Grp.zc) (k := 2) (fun _ => rfl) D k o hk ho).trans hu)
  exact ⟨b, off, rfl, fun k hk => ⟨q k hk 0 (by omega) _ rfl, q k hk 1 (by omega) _ rfl⟩⟩

set_option maxRecDepth 100000 in
set_option maxHeartbeats 16000000 in
theorem meetAll_any (u v : Value) (D : List Grp) (a b n : Int) (w : World) (hw : Months w) (hD : GrpsR w u v D) (hl : D.length ≤ 20) :
    Calls Tryz.prog 47 #[u, v, .int .i64 a, .int .i64 b, .int .i64 n] w fun e w' => e = .returned (.tuple #[.int .i64 (meetV D a b n), errV (meetF D a b n)]) ∧ Below w.heap.size w w' := by
  obtain ⟨p, cp, rfl, hzc⟩ := zc_at hD.z
  obtain ⟨q, cq, rfl, hvc⟩ := one_at hD.l
  obtain ⟨KS, hKS⟩ : ∃ K, K = D.map (Grp.K a b) := ⟨_, rfl⟩
  obtain ⟨ES, hES⟩ : ∃ K, K = D.map (Grp.E a b) := ⟨_, rfl⟩
  have lK : KS.length = D.length := by rw [hKS, List.length_map]
  have lE : ES.length = D.length := by rw [hES, List.length_map]
  have HZ := Lib.hid hzc
  have HV := Lib.hid (show 0 < D.length → ∃ b off, q = some ⟨b, off, none⟩ ∧ ∀ (k : Nat) (hk : k < D.length), w.cell? ⟨b, off + k, none⟩ = some D[k].v from fun hp => by
    obtain ⟨b, off, e1, e2⟩ := hvc hp
    exact ⟨b, off, e1, fun k hk => by have := e2 k (by rw [List.length_map]; exact hk); rwa [List.getElem_map] at this⟩)
  have BF := Lib.hid (show ∀ (k : Nat) (hk : k < D.length) (h2 : k < ES.length) (h3 : k < KS.length) (wx : World), Below w.heap.size w wx → Calls Tryz.prog 39 #[.agg #[.int .i64 D[k].ah, D[k].vZ], D[k].v, .int .i64 a, .int .i64 b] wx (BusyP ES[k] KS[k] wx) from fun k hk h2 h3 wx hbx => by
    have h := busyAll_any D[k].ah D[k].vZ D[k].Z D[k].v D[k].L a b wx (hw.below hbx) ((hD.es _ (List.getElem_mem _)).below hbx) ((hD.zs _ (List.getElem_mem _)).below hbx)
    have e1 : ES[k] = D[k].E a b := by simp [hES]
    have e2 : KS[k] = D[k].K a b := by simp [hKS]
    rw [e1, e2]; exact h)
  have ZO := Lib.hid (show ∀ (k : Nat) (hk : k < D.length), ∃ p c, D[k].vZ = .slice p D[k].Z.length c from fun k hk => by
    obtain ⟨p, c, h, -⟩ := pairsR_open (hD.zs _ (List.getElem_mem hk)); exact ⟨p, c, h⟩)
  have VO := Lib.hid (show ∀ (k : Nat) (hk : k < D.length), ∃ p c, D[k].v = .slice p D[k].L.length c from fun k hk => by
    obtain ⟨p, c, h, -⟩ := evsR_open (hD.es _ (List.getElem_mem hk)); exact ⟨p, c, h⟩)
  have KU := Lib.hid (show ∀ (k : Nat) (h2 : k < ES.length) (h3 : k < KS.length), ES[k] = 0 → KS[k].length ≤ 200 ∧ ∀ x ∈ KS[k], x.1 ≤ x.2 from fun k h2 h3 h => by
    have e1 : ES[k] = (D[k]'(by omega)).E a b := by simp [hES]
    have e2 : KS[k] = (D[k]'(by omega)).K a b := by simp [hKS]
    rw [e1] at h; rw [e2]
    exact ⟨grp_len h, grp_up h⟩)
  have MF := Lib.hid (show meetF D a b n = if fstE ES ≠ 0 then fstE ES else seekE (tkL KS) a b n by rw [meetF, hES, hKS])
  have MV := Lib.hid (show meetV D a b n = if fstE ES ≠ 0 then 0 else seekV (tkL KS) a b n by rw [meetV, hES, hKS])
  obtain ⟨len, hlen⟩ : ∃ n, n = D.length := ⟨_, rfl⟩
  have NE := Lib.hid hlen
  rw [← hlen] at lK lE hl ⊢
  have LK := Lib.hid lK; have LE := Lib.hid lE
  clear hw hD hzc hvc hKS hES hlen lK lE
  have t1 : decide ((20 : Int) < (len : Int)) = false := decide_eq_false (by omega)
  have t1b : decide (20 < len) = false := decide_eq_false (by omega)
  obtain ⟨it, hit, ht0, ht1, ht2⟩ := info_parts busyInfo
  go_enter Tryz.func47, Tryz.ntmps47
  go_wp2_with fail
  clear t1 t1b
  go_loopg [12, 31] len (fun g ov iv wr => ∃ (k : Nat) (O : List (Int × Int)), k ≤ len ∧ iv = .int .i64 k ∧ g = len - k ∧ O = tkL (KS.take k) ∧ O.length ≤ 200 * k ∧ (∀ x ∈ O, x.1 ≤ x.2) ∧ fstE (ES.take k) = 0 ∧ wr.ownsRow w.heap.size 177 2 ov O.length (pairsV O) ∧ Below w.heap.size w wr)
  case atStart => exact ⟨0, [], Nat.zero_le _, rfl, rfl, rfl, by simp, by simp, rfl, World.ownsRow_nil _ _ _ _, Below.refl _ _⟩
  case round =>
    obtain ⟨k, O, hk, rfl, hg, hO, hOl, hOu, hf, hown, hb⟩ := hrel
    obtain ⟨w1, rfl⟩ : ∃ x, x = wr := ⟨_, rfl⟩
    have G := Lib.hid hg; have OE := Lib.hid hO; have OU := Lib.hid hOu; have HF := Lib.hid hf; have OW := Lib.hid hown; have B1 := Lib.hid hb
    obtain ⟨oa, oc, rfl, -, -⟩ := ownsRow_open hown
    clear hg hO hOu hf hown hb
    by_cases hlt : k < len
    · have k1 : k < D.length := by rw [← NE.out]; exact hlt
      have k2 : k < ES.length := by rw [LE.out]; exact hlt
      have k3 : k < KS.length := by rw [LK.out]; exact hlt
      obtain ⟨zb, zo, rfl, hz⟩ := HZ.out (by omega)
      obtain ⟨vb, vo, rfl, hv⟩ := HV.out (by omega)
      have c0 := cell_below B1.out (hz k k1).1
      have c1 := cell_below B1.out (hz k k1).2
      have d0 := cell_below B1.out (hv k k1)
      have BT := Lib.hid (BF.out k k1 k2 k3 _ B1.out)
      have KO := Lib.hid (KU.out k k2 k3)
      have TK := Lib.hid (show tkL (KS.take (k + 1)) = tkF O KS[k] by rw [tkL_snoc KS k k3, OE.out])
      have EN := Lib.hid (show fstE (ES.take (k + 1)) = ES[k] by rw [List.take_succ_eq_append_getElem k2, fstE_app, if_neg (by rw [HF.out]; simp), fstE_one])
      have ED := Lib.hid (show ES[k] ≠ 0 → fstE ES = ES[k] from fun h => by
        have h2 : fstE ES = fstE (ES.take (k + 1) ++ ES.drop (k + 1)) := by rw [List.take_append_drop]
        rw [h2, fstE_app, EN.out, if_pos h])
      obtain ⟨pz, cz, hz1⟩ := ZO.out k k1
      obtain ⟨pv, cv, hv1⟩ := VO.out k k1
      rw [hz1] at c1 BT
      rw [hv1] at d0 BT
      obtain ⟨E, hE⟩ : ∃ E, E = ES[k] := ⟨_, rfl⟩
      rw [← hE] at BT KO EN ED
      obtain ⟨K, hK⟩ : ∃ K, K = KS[k] := ⟨_, rfl⟩
      rw [← hK] at BT KO TK
      obtain ⟨ah, hah⟩ : ∃ x, x = D[k].ah := ⟨_, rfl⟩
      rw [← hah] at c0 BT
      obtain ⟨zl, hzl⟩ : ∃ x, x = D[k].Z.length := ⟨_, rfl⟩
      rw [← hzl] at c1 BT
      obtain ⟨vl, hvl⟩ : ∃ x, x = D[k].L.length := ⟨_, rfl⟩
      rw [← hvl] at d0 BT
      have j0 : (0 : Int) ≤ (k : Int) := Int.natCast_nonneg _
      have j2 : (k : Int) < (len : Int) := by omega
      clear hz hv hz1 hv1 hE hK hah hzl hvl
      go_upto_region 9 with fail
      go_cut [15, 16] (fun s15 s16 wx => ∃ v, s15 = v ∧ s16 = errV E ∧ wx.ownsRow w1.heap.size 177 2 v (if E = 0 then ofL K else []).length (pairsV (if E = 0 then ofL K else [])) ∧ Below w1.heap.size w1 wx)
      case first => as_aux_lemma =>
        go_wp2_with fail
        refine BT.out.mono ?_; rintro e w3 ⟨v, rfl, hv, hb⟩
        have HV := Lib.hid hv; have HB := Lib.hid hb
        clear hv hb c0 c1 d0
        go_wp2
        go_meet
        exact ⟨_, rfl, rfl, HV.out, HB.out⟩
      case rest =>
      obtain ⟨v, rfl, rfl, hv, hb3⟩ := hcut
      obtain ⟨w3, rfl⟩ : ∃ x, x = wc := ⟨_, rfl⟩
      have B3 := Lib.hid (B1.out.trans (hb3.mono B1.out.size))
      have O3 := Lib.hid (ownsRow_kept OW.out hb3)
      clear hb3 c0 c1 d0 BT
      by_cases h0 : E ≠ 0
      · have EV := Lib.hid (show errV E = .iface 124 (.int .i64 E) by rw [errV, if_neg h0])
        have F1 := Lib.hid (show meetF D a b n = E by rw [MF.out, ED.out h0, if_pos h0])
        have V1 := Lib.hid (show meetV D a b n = 0 by rw [MV.out, ED.out h0, if_pos h0])
        rw [EV.out]
        clear h0 hv
        go_wp2
        go_ret2
        exact ⟨by rw [F1.out, V1.out, EV.out]; rfl, B3.out⟩
      obtain rfl : E = 0 := by omega
      rw [errV_0]
      rw [if_pos rfl] at hv
      obtain ⟨kl, ku⟩ := KO.out rfl
      have kl2 : (ofL K).length ≤ 200 := Nat.le_trans (ofL_len K) kl
      have PV := Lib.hid (show PairsR w3 _ (ofL K) from ownsRow_reads hv)
      obtain ⟨va, vc, rfl, -, -, -⟩ := pairsR_open PV.out
      have KUu := Lib.hid ku
      have TL2 := Lib.hid (tkF_len O K)
      clear hv ku KO ED h0
      go_wp2_with (at_builtin; refine wpList_append_row rfl _ _ 89 rfl 177 it _ 2 16 Tryz.underlying89 hit ht0 ht1 ht2 rfl (by decide) w.heap.size _ _ O.length (ofL K).length (pairsV O) (pairsV (ofL K)) rfl rfl O3.out PV.out pairsV_cell1 B3.out.size (by omega) (by unfold maxLen; omega) ?_)
      intro v4 w4 hown4 hb4
      have P4 := Lib.hid (show PairsR w4 v4 (O ++ ofL K) by have h := ownsRow_reads hown4; unfold PairsR; rw [List.length_append, show pairsV (O ++ ofL K) = pairsV O ++ pairsV (ofL K) by simp [pairsV]]; exact h)
      have B4 := Lib.hid (B3.out.trans hb4)
      have l4 : (O ++ ofL K).length ≤ 10000 := by rw [List.length_append]; omega
      clear hown4 hb4
      go_wp2_with fail
      refine (bof_any _ _ _ P4.out l4).mono ?_; rintro e w5 ⟨u, rfl, hu, hb5⟩
      have O5 := Lib.hid (show w5.ownsRow w.heap.size 177 2 u (tkF O K).length (pairsV (tkF O K)) from World.ownsRow.mono hu B4.out.size)
      have B5 := Lib.hid (B4.out.trans (hb5.mono B4.out.size))
      clear hu hb5
      go_wp2
      go_roundg (len - (k + 1))
      case measure => rw [G.out]; omega
      case rel => exact ⟨k + 1, tkF O K, by omega, by go_num, rfl, TK.out.symm, by have := TL2.out; omega, tkF_up OU.out KUu.out, EN.out, O5.out, B5.out⟩
    · obtain rfl : k = len := by omega
      have j2 : ¬ (k : Int) < (k : Int) := by omega
      have e1 : KS.take k = KS := List.take_of_length_le (by rw [LK.out]; exact Nat.le_refl _)
      have e2 : ES.take k = ES := List.take_of_length_le (by rw [LE.out]; exact Nat.le_refl _)
      rw [e1] at OE; rw [e2] at HF
      have F1 := Lib.hid (show meetF D a b n = seekE O a b n by rw [MF.out, if_neg (by rw [HF.out]; simp), OE.out])
      have V1 := Lib.hid (show meetV D a b n = seekV O a b n by rw [MV.out, if_neg (by rw [HF.out]; simp), OE.out])
      have PO := Lib.hid (show PairsR w1 (.slice oa O.length oc) O from ownsRow_reads OW.out)
      clear e1 e2
      go_wp2_with fail
      refine (seek_any _ O a b n _ PO.out (by omega) OU.out).mono ?_; rintro e w5 ⟨rfl, hb5⟩
      have B5 := Lib.hid (B1.out.trans (hb5.mono B1.out.size))
      clear hb5
      go_wp2
      go_ret2
      exact ⟨by rw [F1.out, V1.out]; rfl, B5.out⟩

end Go.Proofs.YtgelojhpanbnaaaGreatDoor
