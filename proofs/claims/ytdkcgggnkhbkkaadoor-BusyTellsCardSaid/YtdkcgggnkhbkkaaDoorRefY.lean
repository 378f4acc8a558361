/- The reference's Free, and chimesame.Busies. -/
import Derived.Test.YtdkcgggnkhbkkaaDoorRefV
namespace Go.Proofs.YtdkcgggnkhbkkaaDoor
open Go.RowKit
set_option linter.unusedSimpArgs false
set_option linter.unusedVariables false

set_option maxRecDepth 100000 in
set_option maxHeartbeats 8000000 in
theorem rfree_any (v : Value) (L : List (Int × Int)) (fr to_ : Int) (w : World) (hL : PairsR w v L) (hlen : L.length ≤ 1000) (hg : ∀ b ∈ L, b.1 ≤ b.2) :
    Calls Tryd.prog 25 #[v, .int .i64 fr, .int .i64 to_] w fun e w' => ∃ u, e = .returned u ∧ PairsR w' u (freeL to_ (normL L) fr) ∧ Below w.heap.size w w' := by
  have HL := Lib.hid hL
  have GD := Lib.hid hg
  have LL := Lib.hid hlen
  clear hL hg
  go_enter Tryd.func25, Tryd.ntmps25
  go_wp2_with fail
  refine (rnorm_any _ L _ HL.out LL.out GD.out).mono ?_; rintro e w2 ⟨u, rfl, hpr, hb1⟩
  obtain ⟨S, hS⟩ : ∃ S, S = normL L := ⟨_, rfl⟩
  rw [← hS] at hpr
  have hsz : S.length ≤ 1000 := by have := norm_len L; rw [hS]; omega
  have SE := Lib.hid hS
  have PR := Lib.hid hpr
  have B := Lib.hid hb1
  clear hb1 hpr hS hlen
  obtain ⟨ua, uc, rfl, _, kc, hcell⟩ := pairsR_open PR.out
  unfold maxLen at kc
  have CS := Lib.hid hcell
  clear hcell
  go_wp2
  go_loopg [7, 9, 10] S.length (fun g ov av i wr => ∃ (k : Nat) (O : List (Int × Int)) (at_ : Int), k ≤ S.length ∧ i = .int .i64 k ∧ av = .int .i64 at_ ∧ g = S.length - k ∧ O.length ≤ k ∧ Hid (O ++ freeL to_ (S.drop k) at_ = freeL to_ S fr) ∧ wr.ownsRow w2.heap.size 41 2 ov O.length (pairsV O) ∧ Below w2.heap.size w2 wr)
  case atStart => exact ⟨0, [], fr, Nat.zero_le _, rfl, rfl, rfl, Nat.le_refl _, Lib.hid (by simp), World.ownsRow_nil _ _ _ _, Below.refl _ _⟩
  case round =>
    obtain ⟨k, O, at_, hk, rfl, rfl, hg, hOk, FE, hown, hb⟩ := hrel
    have G := Lib.hid hg; clear hg
    have OW := Lib.hid hown
    have BW := Lib.hid hb
    have hbs := hb.size
    clear hown
    by_cases hlt : k < S.length
    · obtain ⟨b, off, rfl, hcs⟩ := CS.out (by omega)
      have c0 := cell_below hb (hcs k hlt).1
      have c1 := cell_below hb (hcs k hlt).2
      have Z := Lib.hid (freeL_drop to_ hlt at_)
      obtain ⟨x, hx⟩ : ∃ x, x = S[k].1 := ⟨_, rfl⟩
      obtain ⟨y, hy⟩ : ∃ y, y = S[k].2 := ⟨_, rfl⟩
      rw [← hx] at c0; rw [← hy] at c1
      have X := Lib.hid hx; have Y := Lib.hid hy
      clear hx hy hcs hb
      have i1 : (0 : Int) ≤ (k : Int) := Int.natCast_nonneg _
      have i2 : (k : Int) < (S.length : Int) := by omega
      have hbl : b < w2.heap.size := by
        obtain ⟨b', off', e', hcs'⟩ := CS.out (by omega)
        cases e'
        exact World.block_lt_of_cell? w2 _ (hcs' k hlt).1
      by_cases h1 : at_ < x
      · by_cases h2 : at_ < to_
        · obtain ⟨m, hm⟩ : ∃ m, m = min x to_ := ⟨_, rfl⟩
          have E0 := Lib.hid (show (O ++ [(at_, m)]) ++ freeL to_ (S.drop (k + 1)) (max at_ y) = freeL to_ S fr by
            rw [← FE.out, Z.out, ← X.out, ← Y.out, if_pos ⟨h1, h2⟩, List.append_assoc, hm])
          by_cases h3 : to_ < x
          · obtain rfl : m = to_ := by omega
            clear hm
            go_wp2_with (at_builtin; refine wpList_append_pairs rfl _ _ rfl w2.heap.size _ (.slice (some ⟨wr.heap.size, 0, none⟩) 1 1) O [(at_, m)] rfl rfl (OW.out.alloc _) (pairs_laid wr 41 [(at_, m)] #[.int .i64 at_, .int .i64 m] rfl (by simp)) (by first | omega | (simp; omega)) (by omega) (by simp) ?_)
            intro v' wa hown' hb'
            have B9 := Lib.hid (BW.out.trans (((Below.refl _ _).alloc hbs _).trans hb'))
            have R := Lib.hid (show wa.ownsRow w2.heap.size 41 2 v' (O ++ [(at_, m)]).length (pairsV (O ++ [(at_, m)])) by first | exact hown' | (rw [List.length_append]; exact hown'))
            have c1 : wa.cell? ⟨b, off + k * 2 + 1, none⟩ = some (.int .i64 y) := by rw [hb'.cell (p := ⟨b, off + k * 2 + 1, none⟩) hbl]; exact cell_below ((Below.refl _ _).alloc (Nat.le_refl _) _) c1
            clear hown' hb' c0
            by_cases h4 : at_ < y
            · have E := Lib.hid (show (O ++ [(at_, m)]) ++ freeL m (S.drop (k + 1)) y = freeL m S fr by rw [← E0.out, show max at_ y = y by omega])
              go_wp2
              go_roundg (S.length - (k + 1))
              case measure => rw [G.out]; omega
              case rel => exact ⟨k + 1, O ++ [(at_, m)], y, by omega, by go_num, rfl, rfl, by simp; omega, E, R.out, B9.out⟩
            · have E := Lib.hid (show (O ++ [(at_, m)]) ++ freeL m (S.drop (k + 1)) at_ = freeL m S fr by rw [← E0.out, show max at_ y = at_ by omega])
              go_wp2
              go_roundg (S.length - (k + 1))
              case measure => rw [G.out]; omega
              case rel => exact ⟨k + 1, O ++ [(at_, m)], at_, by omega, by go_num, rfl, rfl, by simp; omega, E, R.out, B9.out⟩
          · obtain rfl : m = x := by omega
            clear hm
            go_wp2_with (at_builtin; refine wpList_append_pairs rfl _ _ rfl w2.heap.size _ (.slice (some ⟨wr.heap.size, 0, none⟩) 1 1) O [(at_, m)] rfl rfl (OW.out.alloc _) (pairs_laid wr 41 [(at_, m)] #[.int .i64 at_, .int .i64 m] rfl (by simp)) (by first | omega | (simp; omega)) (by omega) (by simp) ?_)
            intro v' wa hown' hb'
            have B9 := Lib.hid (BW.out.trans (((Below.refl _ _).alloc hbs _).trans hb'))
            have R := Lib.hid (show wa.ownsRow w2.heap.size 41 2 v' (O ++ [(at_, m)]).length (pairsV (O ++ [(at_, m)])) by first | exact hown' | (rw [List.length_append]; exact hown'))
            have c1 : wa.cell? ⟨b, off + k * 2 + 1, none⟩ = some (.int .i64 y) := by rw [hb'.cell (p := ⟨b, off + k * 2 + 1, none⟩) hbl]; exact cell_below ((Below.refl _ _).alloc (Nat.le_refl _) _) c1
            clear hown' hb' c0
            by_cases h4 : at_ < y
            · have E := Lib.hid (show (O ++ [(at_, m)]) ++ freeL to_ (S.drop (k + 1)) y = freeL to_ S fr by rw [← E0.out, show max at_ y = y by omega])
              go_wp2
              go_roundg (S.length - (k + 1))
              case measure => rw [G.out]; omega
              case rel => exact ⟨k + 1, O ++ [(at_, m)], y, by omega, by go_num, rfl, rfl, by simp; omega, E, R.out, B9.out⟩
            · have E := Lib.hid (show (O ++ [(at_, m)]) ++ freeL to_ (S.drop (k + 1)) at_ = freeL to_ S fr by rw [← E0.out, show max at_ y = at_ by omega])
              go_wp2
              go_roundg (S.length - (k + 1))
              case measure => rw [G.out]; omega
              case rel => exact ⟨k + 1, O ++ [(at_, m)], at_, by omega, by go_num, rfl, rfl, by simp; omega, E, R.out, B9.out⟩
        · have E0 := Lib.hid (show O ++ freeL to_ (S.drop (k + 1)) (max at_ y) = freeL to_ S fr by
            rw [← FE.out, Z.out, ← Y.out, if_neg (fun h => h2 h.2)]; rfl)
          by_cases h4 : at_ < y
          · have E := Lib.hid (show O ++ freeL to_ (S.drop (k + 1)) y = freeL to_ S fr by rw [← E0.out, show max at_ y = y by omega])
            go_wp2
            go_roundg (S.length - (k + 1))
            case measure => rw [G.out]; omega
            case rel => exact ⟨k + 1, O, y, by omega, by go_num, rfl, rfl, by omega, E, OW.out, BW.out⟩
          · have E := Lib.hid (show O ++ freeL to_ (S.drop (k + 1)) at_ = freeL to_ S fr by rw [← E0.out, show max at_ y = at_ by omega])
            go_wp2
            go_roundg (S.length - (k + 1))
            case measure => rw [G.out]; omega
            case rel => exact ⟨k + 1, O, at_, by omega, by go_num, rfl, rfl, by omega, E, OW.out, BW.out⟩
      · have E0 := Lib.hid (show O ++ freeL to_ (S.drop (k + 1)) (max at_ y) = freeL to_ S fr by
            rw [← FE.out, Z.out, ← X.out, ← Y.out, if_neg (fun h => h1 h.1)]; rfl)
        by_cases h4 : at_ < y
        · have E := Lib.hid (show O ++ freeL to_ (S.drop (k + 1)) y = freeL to_ S fr by rw [← E0.out, show max at_ y = y by omega])
          go_wp2
          go_roundg (S.length - (k + 1))
          case measure => rw [G.out]; omega
          case rel => exact ⟨k + 1, O, y, by omega, by go_num, rfl, rfl, by omega, E, OW.out, BW.out⟩
        · have E := Lib.hid (show O ++ freeL to_ (S.drop (k + 1)) at_ = freeL to_ S fr by rw [← E0.out, show max at_ y = at_ by omega])
          go_wp2
          go_roundg (S.length - (k + 1))
          case measure => rw [G.out]; omega
          case rel => exact ⟨k + 1, O, at_, by omega, by go_num, rfl, rfl, by omega, E, OW.out, BW.out⟩
    · obtain rfl : k = S.length := by omega
      by_cases h2 : at_ < to_
      · have E := Lib.hid (show O ++ [(at_, to_)] = freeL to_ (normL L) fr by
          rw [← SE.out, ← FE.out, List.drop_length, freeL, if_pos h2])
        go_wp2_with (at_builtin; refine wpList_append_pairs rfl _ _ rfl w2.heap.size _ (.slice (some ⟨wr.heap.size, 0, none⟩) 1 1) O [(at_, to_)] rfl rfl (OW.out.alloc _) (pairs_laid wr 41 [(at_, to_)] #[.int .i64 at_, .int .i64 to_] rfl (by simp)) (by first | omega | (simp; omega)) (by omega) (by simp) ?_)
        intro v' wa hown' hb'
        have B9 := Lib.hid (B.out.trans ((BW.out.trans (((Below.refl _ _).alloc hbs _).trans hb')).mono B.out.size))
        have R := Lib.hid (show PairsR wa v' (O ++ [(at_, to_)]) from ownsRow_reads (show wa.ownsRow w2.heap.size 41 2 v' (O ++ [(at_, to_)]).length (pairsV (O ++ [(at_, to_)])) by first | exact hown' | (rw [List.length_append]; exact hown')))
        clear hown' hb' hb
        go_wp2
        go_ret
        exact ⟨_, rfl, by rw [← E.out]; exact R.out, B9.out⟩
      · have E := Lib.hid (show O = freeL to_ (normL L) fr by
          rw [← SE.out, ← FE.out, List.drop_length, freeL, if_neg h2]; simp)
        have B9 := Lib.hid (B.out.trans (BW.out.mono B.out.size))
        clear hb
        go_wp2
        go_ret
        exact ⟨_, rfl, by rw [← E.out]; exact ownsRow_reads OW.out, B9.out⟩

end Go.Proofs.YtdkcgggnkhbkkaaDoor
