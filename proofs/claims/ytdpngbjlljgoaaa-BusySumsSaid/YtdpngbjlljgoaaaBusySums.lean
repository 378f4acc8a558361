/- The law BusySums: the walk. No condition. -/
import Derived.Test.YtdpngbjlljgoaaaBusyN
namespace Go.Proofs.Ytdpngbjlljgoaaa
open Go.RowKit
set_option linter.unusedSimpArgs false
set_option linter.unusedVariables false

theorem sums_fact : busyE [(10, 20), (15, 30)] = 0 ∧ totL (normL [(10, 20), (15, 30)]) = 20 := by decide

set_option maxRecDepth 100000 in
set_option maxHeartbeats 4000000 in
theorem busySums_any (v : Value) (L : List (Int × Int)) (a b : Int) (w : World) (hL : PairsR w v L) :
    Calls Try.prog 4 #[v, .int .i64 a, .int .i64 b] w fun e w' => e = .returned (.bool true) ∧ Below w.heap.size w w' := by
  obtain ⟨i0, hi, hz0, hz1, hz2⟩ := info_parts busyInfo
  have HL := Lib.hid hL
  obtain ⟨va, vc, rfl, _, kc, _⟩ := pairsR_open hL
  unfold maxLen at kc
  clear hL
  have PL := Lib.hid (pairs_laid w 38 [(10, 20), (15, 30)] #[.int .i64 10, .int .i64 20, .int .i64 15, .int .i64 30] rfl (by decide))
  have F1 := Lib.hid sums_fact
  go_enter Try.func4, Try.ntmps4
  go_wp2_with fail
  refine (total_yes _ [(10, 20), (15, 30)] _ PL.out F1.out.1).mono ?_; rintro e w1 ⟨rfl, hb1⟩
  rw [F1.out.2]
  have B := Lib.hid (show Below w.heap.size w w1 from ((Below.refl _ _).alloc (Nat.le_refl _) _).trans (hb1.mono (by simp)))
  clear hb1
  by_cases hE : freeE L a b = 0
  · have hE1 : busyE L = 0 := by
      unfold freeE at hE; split at hE
      · assumption
      · exact hE
    have hE2 : strE a b = 0 := by rw [freeE, if_pos hE1] at hE; exact hE
    have SUM := Lib.hid (sums hE1 hE2)
    have CF := Lib.hid (cut_fault hE1 hE2)
    have GF := Lib.hid (free_good (a := a) (b := b) hE1 hE2)
    obtain ⟨hlen, _⟩ := busyE_ok hE1
    obtain ⟨s1, s2, s3⟩ := strE_ok hE2
    have FL := free_len2 (a := a) (b := b) hE1
    have E1 := Lib.hid hE1; have E2 := Lib.hid hE2
    clear hE hE1 hE2
    go_wp2_with fail
    refine (free_yes _ L a b _ (HL.out.below B.out) E1.out E2.out).mono ?_; rintro e w2 ⟨u, rfl, hown, hb2⟩
    obtain ⟨F, hF⟩ : ∃ F, F = freeL b (normL L) a := ⟨_, rfl⟩
    rw [← hF] at hown SUM GF FL
    have PF := Lib.hid (show PairsR w2 u F from ownsRow_reads hown)
    have B2 := Lib.hid (B.out.trans (hb2.mono B.out.size))
    clear hF hown hb2
    obtain ⟨ua, uc, rfl, _, uk, _⟩ := pairsR_open PF.out
    unfold maxLen at uk
    obtain ⟨_, _, hv0, _, _, hcell⟩ := pairsR_open (HL.out.below B2.out)
    cases hv0
    have CS := Lib.hid hcell
    clear hcell
    go_wp2
    go_loopg [11, 12] L.length (fun g ov i wr => ∃ (k : Nat) (O : List (Int × Int)), k ≤ L.length ∧ i = .int .i64 k ∧ g = L.length - k ∧ O.length ≤ k ∧ Hid (O = cutL a b (L.take k)) ∧ wr.ownsRow w2.heap.size 38 2 ov O.length (pairsV O) ∧ Below w2.heap.size w2 wr)
    case atStart => exact ⟨0, [], Nat.zero_le _, rfl, rfl, Nat.le_refl _, Lib.hid rfl, World.ownsRow_nil _ _ _ _, Below.refl _ _⟩
    case round =>
      obtain ⟨k, O, hk, rfl, hg, hOk, OE, hown, hb⟩ := hrel
      have G := Lib.hid hg; clear hg
      have OW := Lib.hid hown
      have BW := Lib.hid hb
      have hbs := hb.size
      obtain ⟨oa, oc, rfl, ko, hocell⟩ := ownsRow_open hown
      clear hocell
      by_cases hlt : k < L.length
      · obtain ⟨bb, off, rfl, hcs⟩ := CS.out (by omega)
        have c0 := cell_below hb (hcs k hlt).1
        have c1 := cell_below hb (hcs k hlt).2
        have Z := Lib.hid (cut_snoc a b L k hlt)
        obtain ⟨x, hx⟩ : ∃ x, x = L[k].1 := ⟨_, rfl⟩
        obtain ⟨y, hy⟩ : ∃ y, y = L[k].2 := ⟨_, rfl⟩
        rw [← hx] at c0; rw [← hy] at c1
        have XY := Lib.hid (show L[k] = (x, y) by rw [hx, hy])
        clear hx hy hcs hb hown
        have i1 : (0 : Int) ≤ (k : Int) := Int.natCast_nonneg _
        have i2 : (k : Int) < (L.length : Int) := by omega
        by_cases hxa : x < a
        · by_cases hyb : b < y
          · skip
            have CE := Lib.hid (show cut1 a b L[k] = (a, b) by rw [XY.out]; simp only [cut1]; repeat (first | rw [if_pos (by assumption)] | rw [if_neg (by assumption)]))
            obtain ⟨wb, hwb⟩ : ∃ wb, wb = wr.alloc (.cells #[.int .i64 a, .int .i64 b] 38) := ⟨_, rfl⟩
            have x0 : wb.cell? ⟨wr.heap.size, 0, none⟩ = some (.int .i64 a) := by rw [hwb]; simp
            have x1 : wb.cell? ⟨wr.heap.size, 1, none⟩ = some (.int .i64 b) := by rw [hwb]; simp
            have BB := Lib.hid (show Below wr.heap.size wr wb by rw [hwb]; exact (Below.refl _ _).alloc (Nat.le_refl _) _)
            obtain ⟨xb, hxb⟩ : ∃ xb, xb = wr.heap.size := ⟨_, rfl⟩
            rw [← hxb] at x0 x1
            have XB := Lib.hid hxb
            have WB := Lib.hid hwb
            have OWB := Lib.hid (ownsRow_kept OW.out BB.out)
            have hxl : xb < wb.heap.size := by rw [hwb, hxb]; simp
            clear hwb hxb
            go_upto_region 16 with fail
            rw [← WB.out, ← XB.out]
            clear c0 c1
            have BT := Lib.hid (BW.out.trans (BB.out.mono hbs))
            have hdz := BT.out.size
            by_cases hXY : a < b
            · have E := Lib.hid (show O ++ [(a, b)] = cutL a b (L.take (k + 1)) by rw [Z.out, OE.out, cutS, CE.out, if_pos hXY])
              have hown := OWB.out
              go_wp2_with (at_builtin; refine wpList_append_lies _ rfl _ _ 34 rfl w2.heap.size 38 i0 _ 2 16 Try.underlying34 hi hz0 hz1 hz2 rfl (by decide) _ _ _ rfl (hown.alloc _) ⟨wb.heap.size, 0, none⟩ 1 1 [.int .i64 a, .int .i64 b] rfl rfl ?c1abx1 ?c1abx2 (by decide) (by unfold maxLen; omega) (by omega) (by simp; omega) _ rfl ?_)
              try (case c1abx1 => exact World.news_of_block (cs := #[.int .i64 a, .int .i64 b]) (heap_alloc_new wb _))
              case c1abx2 => first | exact ⟨rfl, rfl⟩ | (intro u hu; simp at hu; rcases hu with rfl | rfl <;> rfl)
              intro g cap1 w9 hown1 hgrow1 hat1 hlt1
              have hB1 := Lib.hid ((BT.out.alloc hdz (.cells #[.int .i64 a, .int .i64 b] 38)).grown hgrow1 (by simp; omega) (ownBlock_ge hown))
              have R := Lib.hid (show w9.ownsRow w2.heap.size 38 2 (.slice (some ⟨g, 0, none⟩) (O.length + 1) cap1) (O ++ [(a, b)]).length (pairsV (O ++ [(a, b)])) by
                rw [List.length_append, show pairsV (O ++ [(a, b)]) = pairsV O ++ [.int .i64 a, .int .i64 b] by simp [pairsV]]; exact hown1)
              clear hgrow1 hown1 hown hat1 hlt1 x0 x1
              go_wp2
              go_roundg (L.length - (k + 1))
              case measure => rw [G.out]; omega
              case rel => exact ⟨k + 1, O ++ [(a, b)], by omega, by go_num, rfl, by simp; omega, E, R.out, hB1.out⟩
            · have E := Lib.hid (show O = cutL a b (L.take (k + 1)) by rw [Z.out, OE.out, cutS, CE.out, if_neg hXY]; simp)
              go_wp2
              go_roundg (L.length - (k + 1))
              case measure => rw [G.out]; omega
              case rel => exact ⟨k + 1, O, by omega, by go_num, rfl, by omega, E, OWB.out, BT.out⟩
          · skip
            have CE := Lib.hid (show cut1 a b L[k] = (a, y) by rw [XY.out]; simp only [cut1]; repeat (first | rw [if_pos (by assumption)] | rw [if_neg (by assumption)]))
            obtain ⟨wb, hwb⟩ : ∃ wb, wb = wr.alloc (.cells #[.int .i64 a, .int .i64 y] 38) := ⟨_, rfl⟩
            have x0 : wb.cell? ⟨wr.heap.size, 0, none⟩ = some (.int .i64 a) := by rw [hwb]; simp
            have x1 : wb.cell? ⟨wr.heap.size, 1, none⟩ = some (.int .i64 y) := by rw [hwb]; simp
            have BB := Lib.hid (show Below wr.heap.size wr wb by rw [hwb]; exact (Below.refl _ _).alloc (Nat.le_refl _) _)
            obtain ⟨xb, hxb⟩ : ∃ xb, xb = wr.heap.size := ⟨_, rfl⟩
            rw [← hxb] at x0 x1
            have XB := Lib.hid hxb
            have WB := Lib.hid hwb
            have OWB := Lib.hid (ownsRow_kept OW.out BB.out)
            have hxl : xb < wb.heap.size := by rw [hwb, hxb]; simp
            clear hwb hxb
            go_upto_region 16 with fail
            rw [← WB.out, ← XB.out]
            clear c0 c1
            have BT := Lib.hid (BW.out.trans (BB.out.mono hbs))
            have hdz := BT.out.size
            by_cases hXY : a < y
            · have E := Lib.hid (show O ++ [(a, y)] = cutL a b (L.take (k + 1)) by rw [Z.out, OE.out, cutS, CE.out, if_pos hXY])
              have hown := OWB.out
              go_wp2_with (at_builtin; refine wpList_append_lies _ rfl _ _ 34 rfl w2.heap.size 38 i0 _ 2 16 Try.underlying34 hi hz0 hz1 hz2 rfl (by decide) _ _ _ rfl (hown.alloc _) ⟨wb.heap.size, 0, none⟩ 1 1 [.int .i64 a, .int .i64 y] rfl rfl ?c1ayx1 ?c1ayx2 (by decide) (by unfold maxLen; omega) (by omega) (by simp; omega) _ rfl ?_)
              try (case c1ayx1 => exact World.news_of_block (cs := #[.int .i64 a, .int .i64 y]) (heap_alloc_new wb _))
              case c1ayx2 => first | exact ⟨rfl, rfl⟩ | (intro u hu; simp at hu; rcases hu with rfl | rfl <;> rfl)
              intro g cap1 w9 hown1 hgrow1 hat1 hlt1
              have hB1 := Lib.hid ((BT.out.alloc hdz (.cells #[.int .i64 a, .int .i64 y] 38)).grown hgrow1 (by simp; omega) (ownBlock_ge hown))
              have R := Lib.hid (show w9.ownsRow w2.heap.size 38 2 (.slice (some ⟨g, 0, none⟩) (O.length + 1) cap1) (O ++ [(a, y)]).length (pairsV (O ++ [(a, y)])) by
                rw [List.length_append, show pairsV (O ++ [(a, y)]) = pairsV O ++ [.int .i64 a, .int .i64 y] by simp [pairsV]]; exact hown1)
              clear hgrow1 hown1 hown hat1 hlt1 x0 x1
              go_wp2
              go_roundg (L.length - (k + 1))
              case measure => rw [G.out]; omega
              case rel => exact ⟨k + 1, O ++ [(a, y)], by omega, by go_num, rfl, by simp; omega, E, R.out, hB1.out⟩
            · have E := Lib.hid (show O = cutL a b (L.take (k + 1)) by rw [Z.out, OE.out, cutS, CE.out, if_neg hXY]; simp)
              go_wp2
              go_roundg (L.length - (k + 1))
              case measure => rw [G.out]; omega
              case rel => exact ⟨k + 1, O, by omega, by go_num, rfl, by omega, E, OWB.out, BT.out⟩
        · by_cases hyb : b < y
          · skip
            have CE := Lib.hid (show cut1 a b L[k] = (x, b) by rw [XY.out]; simp only [cut1]; repeat (first | rw [if_pos (by assumption)] | rw [if_neg (by assumption)]))
            obtain ⟨wb, hwb⟩ : ∃ wb, wb = wr.alloc (.cells #[.int .i64 x, .int .i64 b] 38) := ⟨_, rfl⟩
            have x0 : wb.cell? ⟨wr.heap.size, 0, none⟩ = some (.int .i64 x) := by rw [hwb]; simp
            have x1 : wb.cell? ⟨wr.heap.size, 1, none⟩ = some (.int .i64 b) := by rw [hwb]; simp
            have BB := Lib.hid (show Below wr.heap.size wr wb by rw [hwb]; exact (Below.refl _ _).alloc (Nat.le_refl _) _)
            obtain ⟨xb, hxb⟩ : ∃ xb, xb = wr.heap.size := ⟨_, rfl⟩
            rw [← hxb] at x0 x1
            have XB := Lib.hid hxb
            have WB := Lib.hid hwb
            have OWB := Lib.hid (ownsRow_kept OW.out BB.out)
            have hxl : xb < wb.heap.size := by rw [hwb, hxb]; simp
            clear hwb hxb
            go_upto_region 16 with fail
            rw [← WB.out, ← XB.out]
            clear c0 c1
            have BT := Lib.hid (BW.out.trans (BB.out.mono hbs))
            have hdz := BT.out.size
            by_cases hXY : x < b
            · have E := Lib.hid (show O ++ [(x, b)] = cutL a b (L.take (k + 1)) by rw [Z.out, OE.out, cutS, CE.out, if_pos hXY])
              have hown := OWB.out
              go_wp2_with (at_builtin; refine wpList_append_lies _ rfl _ _ 34 rfl w2.heap.size 38 i0 _ 2 16 Try.underlying34 hi hz0 hz1 hz2 rfl (by decide) _ _ _ rfl (hown.alloc _) ⟨wb.heap.size, 0, none⟩ 1 1 [.int .i64 x, .int .i64 b] rfl rfl ?c1xbx1 ?c1xbx2 (by decide) (by unfold maxLen; omega) (by omega) (by simp; omega) _ rfl ?_)
              try (case c1xbx1 => exact World.news_of_block (cs := #[.int .i64 x, .int .i64 b]) (heap_alloc_new wb _))
              case c1xbx2 => first | exact ⟨rfl, rfl⟩ | (intro u hu; simp at hu; rcases hu with rfl | rfl <;> rfl)
              intro g cap1 w9 hown1 hgrow1 hat1 hlt1
              have hB1 := Lib.hid ((BT.out.alloc hdz (.cells #[.int .i64 x, .int .i64 b] 38)).grown hgrow1 (by simp; omega) (ownBlock_ge hown))
              have R := Lib.hid (show w9.ownsRow w2.heap.size 38 2 (.slice (some ⟨g, 0, none⟩) (O.length + 1) cap1) (O ++ [(x, b)]).length (pairsV (O ++ [(x, b)])) by
                rw [List.length_append, show pairsV (O ++ [(x, b)]) = pairsV O ++ [.int .i64 x, .int .i64 b] by simp [pairsV]]; exact hown1)
              clear hgrow1 hown1 hown hat1 hlt1 x0 x1
              go_wp2
              go_roundg (L.length - (k + 1))
              case measure => rw [G.out]; omega
              case rel => exact ⟨k + 1, O ++ [(x, b)], by omega, by go_num, rfl, by simp; omega, E, R.out, hB1.out⟩
            · have E := Lib.hid (show O = cutL a b (L.take (k + 1)) by rw [Z.out, OE.out, cutS, CE.out, if_neg hXY]; simp)
              go_wp2
              go_roundg (L.length - (k + 1))
              case measure => rw [G.out]; omega
              case rel => exact ⟨k + 1, O, by omega, by go_num, rfl, by omega, E, OWB.out, BT.out⟩
          · skip
            have CE := Lib.hid (show cut1 a b L[k] = (x, y) by rw [XY.out]; simp only [cut1]; repeat (first | rw [if_pos (by assumption)] | rw [if_neg (by assumption)]))
            obtain ⟨wb, hwb⟩ : ∃ wb, wb = wr.alloc (.cells #[.int .i64 x, .int .i64 y] 38) := ⟨_, rfl⟩
            have x0 : wb.cell? ⟨wr.heap.size, 0, none⟩ = some (.int .i64 x) := by rw [hwb]; simp
            have x1 : wb.cell? ⟨wr.heap.size, 1, none⟩ = some (.int .i64 y) := by rw [hwb]; simp
            have BB := Lib.hid (show Below wr.heap.size wr wb by rw [hwb]; exact (Below.refl _ _).alloc (Nat.le_refl _) _)
            obtain ⟨xb, hxb⟩ : ∃ xb, xb = wr.heap.size := ⟨_, rfl⟩
            rw [← hxb] at x0 x1
            have XB := Lib.hid hxb
            have WB := Lib.hid hwb
            have OWB := Lib.hid (ownsRow_kept OW.out BB.out)
            have hxl : xb < wb.heap.size := by rw [hwb, hxb]; simp
            clear hwb hxb
            go_upto_region 16 with fail
            rw [← WB.out, ← XB.out]
            clear c0 c1
            have BT := Lib.hid (BW.out.trans (BB.out.mono hbs))
            have hdz := BT.out.size
            by_cases hXY : x < y
            · have E := Lib.hid (show O ++ [(x, y)] = cutL a b (L.take (k + 1)) by rw [Z.out, OE.out, cutS, CE.out, if_pos hXY])
              have hown := OWB.out
              go_wp2_with (at_builtin; refine wpList_append_lies _ rfl _ _ 34 rfl w2.heap.size 38 i0 _ 2 16 Try.underlying34 hi hz0 hz1 hz2 rfl (by decide) _ _ _ rfl (hown.alloc _) ⟨wb.heap.size, 0, none⟩ 1 1 [.int .i64 x, .int .i64 y] rfl rfl ?c1xyx1 ?c1xyx2 (by decide) (by unfold maxLen; omega) (by omega) (by simp; omega) _ rfl ?_)
              try (case c1xyx1 => exact World.news_of_block (cs := #[.int .i64 x, .int .i64 y]) (heap_alloc_new wb _))
              case c1xyx2 => first | exact ⟨rfl, rfl⟩ | (intro u hu; simp at hu; rcases hu with rfl | rfl <;> rfl)
              intro g cap1 w9 hown1 hgrow1 hat1 hlt1
              have hB1 := Lib.hid ((BT.out.alloc hdz (.cells #[.int .i64 x, .int .i64 y] 38)).grown hgrow1 (by simp; omega) (ownBlock_ge hown))
              have R := Lib.hid (show w9.ownsRow w2.heap.size 38 2 (.slice (some ⟨g, 0, none⟩) (O.length + 1) cap1) (O ++ [(x, y)]).length (pairsV (O ++ [(x, y)])) by
                rw [List.length_append, show pairsV (O ++ [(x, y)]) = pairsV O ++ [.int .i64 x, .int .i64 y] by simp [pairsV]]; exact hown1)
              clear hgrow1 hown1 hown hat1 hlt1 x0 x1
              go_wp2
              go_roundg (L.length - (k + 1))
              case measure => rw [G.out]; omega
              case rel => exact ⟨k + 1, O ++ [(x, y)], by omega, by go_num, rfl, by simp; omega, E, R.out, hB1.out⟩
            · have E := Lib.hid (show O = cutL a b (L.take (k + 1)) by rw [Z.out, OE.out, cutS, CE.out, if_neg hXY]; simp)
              go_wp2
              go_roundg (L.length - (k + 1))
              case measure => rw [G.out]; omega
              case rel => exact ⟨k + 1, O, by omega, by go_num, rfl, by omega, E, OWB.out, BT.out⟩
      · obtain rfl : k = L.length := by omega
        have OE2 := Lib.hid (show O = cutL a b L by have := OE.out; rw [List.take_length] at this; exact this)
        have PO := Lib.hid (show PairsR wr _ O from ownsRow_reads OW.out)
        have CF := Lib.hid (show busyE O = 0 by rw [OE2.out]; exact CF.out)
        have SUM := Lib.hid (show totL (normL O) + totL F = b - a by rw [OE2.out]; exact SUM.out)
        have B3 := Lib.hid (B2.out.trans (BW.out.mono B2.out.size))
        have PF3 := Lib.hid (PF.out.below BW.out)
        clear hown hb
        go_wp2_with fail
        refine (total_yes _ O _ PO.out CF.out).mono ?_; rintro e w4 ⟨rfl, hb4⟩
        obtain ⟨T, hT⟩ : ∃ T, T = totL (normL O) := ⟨_, rfl⟩
        rw [← hT]
        have SUM := Lib.hid (show T + totL F = b - a by rw [hT]; exact SUM.out)
        obtain ⟨_, _, hv0, _, _, hcell⟩ := pairsR_open (PF3.out.below hb4)
        cases hv0
        have CF4 := Lib.hid hcell
        have B4 := Lib.hid (B3.out.trans (hb4.mono B3.out.size))
        clear hcell hb4 hT
        have tb := good_tot GF.out (by omega)
        have hTb : T = b - a - totL F := by have := SUM.out; omega
        have TB := Lib.hid hTb
        have T1 : T ≤ 157785120 := by omega
        have T2 : -1577851200000 ≤ T := by omega
        clear hTb tb
        go_wp2
        go_loopg [16, 17] F.length (fun g nv i wr => ∃ k : Nat, k ≤ F.length ∧ i = .int .i64 k ∧ nv = .int .i64 (totL (F.take k)) ∧ g = F.length - k ∧ Below w4.heap.size w4 wr)
        case atStart => exact ⟨0, Nat.zero_le _, rfl, rfl, rfl, Below.refl _ _⟩
        case round =>
          obtain ⟨k, hk, rfl, rfl, hg, hb⟩ := hrel
          have G := Lib.hid hg; clear hg
          by_cases hlt : k < F.length
          · obtain ⟨fb, off, rfl, hcs⟩ := CF4.out (by omega)
            have c0 := cell_below hb (hcs k hlt).1
            have c1 := cell_below hb (hcs k hlt).2
            have hbs := hb.size
            have BB := Lib.hid hb
            have Z := Lib.hid (tot_snoc F k hlt)
            have g1 := GF.out F[k] (by simp)
            have g2 := good_tot (l := F.take k) (fun b hb => GF.out b (List.mem_of_mem_take hb)) (by rw [List.length_take]; omega)
            obtain ⟨T', hT⟩ : ∃ T', T' = totL (F.take k) := ⟨_, rfl⟩
            rw [← hT] at g2 ⊢
            have TE := Lib.hid hT
            obtain ⟨x, hx⟩ : ∃ x, x = F[k].1 := ⟨_, rfl⟩
            obtain ⟨y, hy⟩ : ∃ y, y = F[k].2 := ⟨_, rfl⟩
            rw [← hx, ← hy] at g1
            rw [← hx] at c0; rw [← hy] at c1
            have X := Lib.hid hx; have Y := Lib.hid hy; clear hx hy hT hcs hb
            have i1 : (0 : Int) ≤ (k : Int) := Int.natCast_nonneg _
            have i2 : (k : Int) < (F.length : Int) := by omega
            go_wp2
            go_region
            all_goals
              go_wp2
              go_roundg (F.length - (k + 1))
              case measure => rw [G.out]; omega
              case rel => exact ⟨k + 1, by omega, by go_num, by rw [Z.out, ← TE.out, ← X.out, ← Y.out]; congr 1; omega, rfl, BB.out.drew⟩
          · obtain rfl : k = F.length := by omega
            obtain ⟨Y, hY⟩ : ∃ Y, Y = totL (F.take F.length) := ⟨_, rfl⟩
            rw [← hY]
            have Y0 : Y = totL F := by rw [hY, List.take_length]
            have Y1 : T + Y = b - a := by rw [Y0]; exact SUM.out
            have B9 := Lib.hid (B4.out.trans (hb.mono B4.out.size))
            have d : (T + Y == b - a) = true := by simpa using Y1
            have YH := Lib.hid Y1
            have Y2 : Y ≤ 2000000000000 := by omega
            have Y3 : -2000000000000 ≤ Y := by omega
            clear hY Y0 Y1 hb
            go_wp2
            go_ret
            exact ⟨rfl, B9.out⟩
  · have E := Lib.hid (show errV (freeE L a b) = .iface 65 (.int .i64 (freeE L a b)) by rw [errV, if_neg hE])
    have HE := Lib.hid hE
    clear hE
    go_wp2_with fail
    refine (free_no _ L a b _ (HL.out.below B.out) HE.out).mono ?_; rintro e w2 ⟨rfl, hb2⟩
    rw [E.out]
    have B2 := Lib.hid (B.out.trans (hb2.mono B.out.size))
    clear hb2
    go_wp2
    go_ret
    exact ⟨rfl, B2.out⟩

theorem busySums_walk (v : Value) (L : List (Int × Int)) (a b : Int) (w : World) (hL : PairsR w v L) (_ : (Lit.int IntKind.i64 a).wf = true) (_ : (Lit.int IntKind.i64 b).wf = true) :
    Calls Try.prog 4 #[v, .int .i64 a, .int .i64 b] w fun e w' => e = .returned (.bool true) ∧ Below w.heap.size w w' := busySums_any v L a b w hL

end Go.Proofs.Ytdpngbjlljgoaaa
