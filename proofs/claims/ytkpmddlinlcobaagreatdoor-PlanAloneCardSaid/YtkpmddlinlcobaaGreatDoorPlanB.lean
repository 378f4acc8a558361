/- plan.meet of two lists of times: its contract. -/
import Derived.Test.YtkpmddlinlcobaaGreatDoorPlanA
namespace Go.Proofs.YtkpmddlinlcobaaGreatDoor
open Go.RowKit Go.Shelf
set_option linter.unusedSimpArgs false
set_option linter.unusedVariables false

theorem meetT_any (la lb : Int) (x1 x2 y1 y2 x3 y3 : Int) (xb : Nat) (w : World) (hx3 : x3 = x2 + la) (hy3 : y3 = y2 + lb) (hc1 : w.cell? ⟨xb, 1, none⟩ = some (.int .i64 x2)) (hc2 : w.cell? ⟨xb, 2, none⟩ = some (.int .i64 x3)) :
    Calls Tryz.prog 144 #[.agg #[.int .i64 y1, .int .i64 y2, .int .i64 y3], .pointer (some ⟨xb, 0, none⟩)] w fun e w' => e = .returned (.bool (meetT la lb (x1, x2) (y1, y2))) ∧ Below w.heap.size w w' := by
  have HB := Lib.hid (show Below w.heap.size w (w.alloc (.cells #[.int .i64 y1, .int .i64 y2, .int .i64 y3] 51)) from (Below.refl _ _).alloc (Nat.le_refl _) _)
  have hlt : xb < w.heap.size := World.block_lt_of_cell? w _ hc1
  have E := Lib.hid (show meetT la lb (x1, x2) (y1, y2) = decide (max x2 y2 < min x3 y3) by rw [meetT, hx3, hy3])
  clear hx3 hy3
  go_enter Tryz.func144, Tryz.ntmps144
  go_wp2
  all_goals
    go_ret
    exact ⟨by rw [E.out]; rfl, HB.out⟩

theorem idxMeetI_any (la lb : Int) (x1 x2 x3 : Int) (hx3 : x3 = x2 + la) (v : Value) (L : List (Int × Int)) (xb : Nat) (w : World) (hL : TmsR lb w v L) (hc1 : w.cell? ⟨xb, 1, none⟩ = some (.int .i64 x2)) (hc2 : w.cell? ⟨xb, 2, none⟩ = some (.int .i64 x3)) :
    Calls Tryz.prog 176 #[v, .func (.func 144) #[] #[.pointer (some ⟨xb, 0, none⟩)]] w (IdxSays (L.any (meetT la lb (x1, x2))) w) := by
  obtain ⟨a, cap, rfl, hcc1, hcc2, hcell⟩ := tmsR_open hL
  unfold maxLen at hcc2
  have HC := Lib.hid hcell; clear hcell hL
  have H1 := Lib.hid hc1; have H2 := Lib.hid hc2; have HX := Lib.hid hx3; clear hc1 hc2 hx3
  go_enter Tryz.func176, Tryz.ntmps176
  go_wp2
  go_loopg [8] L.length (fun g i wr => ∃ k : Nat, k ≤ L.length ∧ i = .int .i64 k ∧ Hid ((L.take k).any (meetT la lb (x1, x2)) = false) ∧ g = L.length - k ∧ Below w.heap.size w wr)
  case atStart => exact ⟨0, Nat.zero_le _, rfl, Lib.hid (by simp), rfl, Below.refl _ _⟩
  case round =>
    obtain ⟨k, hk, rfl, hS, hg, hb⟩ := hrel
    have G := Lib.hid hg; clear hg
    have B := Lib.hid hb
    by_cases hlt : k < L.length
    · obtain ⟨b, off, rfl, hcs⟩ := HC.out (by omega)
      have c0 := cell_below hb (hcs k hlt).1
      have c1 := cell_below hb (hcs k hlt).2.1
      have c2 := cell_below hb (hcs k hlt).2.2
      have F1 := Lib.hid (cell_below hb H1.out); have F2 := Lib.hid (cell_below hb H2.out)
      obtain ⟨y, hy⟩ : ∃ y, y = L[k] := ⟨_, rfl⟩
      rw [← hy] at c0 c1 c2
      have XY := Lib.hid hy
      obtain ⟨y1, y2⟩ := y
      simp only at c0 c1 c2
      obtain ⟨y3, hy3⟩ : ∃ z, z = y2 + lb := ⟨_, rfl⟩
      rw [← hy3] at c2
      have Y3 := Lib.hid hy3
      clear hy hcs hb hy3
      by_cases he : meetT la lb (x1, x2) (y1, y2) = true
      · have E := Lib.hid (any_yes (p := meetT la lb (x1, x2)) hlt (by rw [← XY.out]; exact he))
        have V := Lib.hid he
        clear he
        go_wp2_with fail
        refine (meetT_any la lb x1 x2 y1 y2 x3 y3 xb _ HX.out Y3.out F1.out F2.out).mono ?_; rintro e w2 ⟨rfl, hb2⟩
        rw [V.out]
        have B2 := Lib.hid (B.out.trans (hb2.mono B.out.size)); clear hb2
        go_wp2
        go_ret
        exact ⟨k, rfl, by rw [E.out]; simp, B2.out⟩
      · have he' : meetT la lb (x1, x2) (y1, y2) = false := by simpa using he
        have E := Lib.hid (any_no (p := meetT la lb (x1, x2)) hlt hS.out (by rw [← XY.out]; exact he'))
        have V := Lib.hid he'
        clear he he'
        go_wp2_with fail
        refine (meetT_any la lb x1 x2 y1 y2 x3 y3 xb _ HX.out Y3.out F1.out F2.out).mono ?_; rintro e w2 ⟨rfl, hb2⟩
        rw [V.out]
        have B2 := Lib.hid (B.out.trans (hb2.mono B.out.size)); clear hb2
        go_wp2
        go_roundg (L.length - (k + 1))
        case measure => rw [G.out]; omega
        case rel => exact ⟨k + 1, by omega, by go_num, E, rfl, B2.out⟩
    · obtain rfl : k = L.length := by omega
      have E := Lib.hid (show L.any (meetT la lb (x1, x2)) = false by have := hS.out; rwa [List.take_length] at this)
      clear hS hb
      go_wp2
      go_ret
      exact ⟨-1, rfl, by rw [E.out]; simp, B.out⟩

theorem contMeetI_any (la lb : Int) (x1 x2 x3 : Int) (hx3 : x3 = x2 + la) (v : Value) (L : List (Int × Int)) (xb : Nat) (w : World) (hL : TmsR lb w v L) (hc1 : w.cell? ⟨xb, 1, none⟩ = some (.int .i64 x2)) (hc2 : w.cell? ⟨xb, 2, none⟩ = some (.int .i64 x3)) :
    Calls Tryz.prog 142 #[v, .func (.func 144) #[] #[.pointer (some ⟨xb, 0, none⟩)]] w fun e w' => e = .returned (.bool (L.any (meetT la lb (x1, x2)))) ∧ Below w.heap.size w w' := by
  go_enter Tryz.func142, Tryz.ntmps142
  go_wp2_with fail
  refine (idxMeetI_any la lb x1 x2 x3 hx3 v L xb _ hL hc1 hc2).mono ?_
  rintro e w1 ⟨r, rfl, hr, hb⟩
  have R := Lib.hid hr; clear hr hc1 hc2 hx3
  go_wp2
  go_ret
  exact ⟨ret_bool R.out, hb⟩

/-- the closure of plan.meet: b's list lies in the captured variable. -/
theorem meetO_any (la lb : Int) (x1 x2 x3 : Int) (hx3 : x3 = x2 + la) (v : Value) (L : List (Int × Int)) (bb : Nat) (w : World) (hL : TmsR lb w v L) (hc : w.cell? ⟨bb, 0, none⟩ = some v) :
    Calls Tryz.prog 143 #[.agg #[.int .i64 x1, .int .i64 x2, .int .i64 x3], .pointer (some ⟨bb, 0, none⟩)] w fun e w' => e = .returned (.bool (L.any (meetT la lb (x1, x2)))) ∧ Below w.heap.size w w' := by
  obtain ⟨w1, hw1⟩ : ∃ x, x = w.alloc (.cells #[.int .i64 x1, .int .i64 x2, .int .i64 x3] 51) := ⟨_, rfl⟩
  obtain ⟨xb, hxb⟩ : ∃ x, x = w.heap.size := ⟨_, rfl⟩
  have hb1 : Below w.heap.size w w1 := by rw [hw1]; exact (Below.refl _ _).alloc (Nat.le_refl _) _
  have c1 : w1.cell? ⟨xb, 1, none⟩ = some (.int .i64 x2) := by rw [hw1, hxb]; simp
  have c2 : w1.cell? ⟨xb, 2, none⟩ = some (.int .i64 x3) := by rw [hw1, hxb]; simp
  have K := Lib.hid (contMeetI_any la lb x1 x2 x3 hx3 v L xb w1 (hL.below hb1) c1 c2)
  have hv := cell_below hb1 hc
  obtain ⟨a, cap, rfl, -, -, -⟩ := tmsR_open hL
  have B1 := Lib.hid hb1; have W1 := Lib.hid hw1; have XB := Lib.hid hxb
  clear hL hc hb1 c1 c2 hw1 hxb hx3
  go_enter Tryz.func143, Tryz.ntmps143
  go_upto_region 1 with fail
  rw [← W1.out]
  rw [← XB.out]
  go_wp2_with fail
  refine K.out.mono ?_; rintro e w2 ⟨rfl, hb2⟩
  have B2 := Lib.hid (B1.out.trans (hb2.mono B1.out.size)); clear hb2 hv
  go_wp2
  go_ret
  exact ⟨rfl, B2.out⟩

theorem idxMeetO_any (la lb : Int) (v u : Value) (K L : List (Int × Int)) (bb : Nat) (w : World) (hK : TmsR la w u K) (hL : TmsR lb w v L) (hc : w.cell? ⟨bb, 0, none⟩ = some v) :
    Calls Tryz.prog 176 #[u, .func (.func 143) #[] #[.pointer (some ⟨bb, 0, none⟩)]] w (IdxSays (K.any fun x => L.any (meetT la lb x)) w) := by
  obtain ⟨a, cap, rfl, hcc1, hcc2, hcell⟩ := tmsR_open hK
  unfold maxLen at hcc2
  have HC := Lib.hid hcell; clear hcell hK
  have H1 := Lib.hid hc; have HL := Lib.hid hL; clear hc hL
  obtain ⟨p, hp⟩ : ∃ p : Int × Int → Bool, p = fun x => L.any (meetT la lb x) := ⟨_, rfl⟩
  have PX := Lib.hid (show ∀ x, L.any (meetT la lb x) = p x by rw [hp]; exact fun _ => rfl)
  rw [← hp]
  clear hp
  go_enter Tryz.func176, Tryz.ntmps176
  go_wp2
  go_loopg [8] K.length (fun g i wr => ∃ k : Nat, k ≤ K.length ∧ i = .int .i64 k ∧ Hid ((K.take k).any p = false) ∧ g = K.length - k ∧ Below w.heap.size w wr)
  case atStart => exact ⟨0, Nat.zero_le _, rfl, Lib.hid (by simp), rfl, Below.refl _ _⟩
  case round =>
    obtain ⟨k, hk, rfl, hS, hg, hb⟩ := hrel
    have G := Lib.hid hg; clear hg
    have B := Lib.hid hb
    by_cases hlt : k < K.length
    · obtain ⟨b, off, rfl, hcs⟩ := HC.out (by omega)
      have c0 := cell_below hb (hcs k hlt).1
      have c1 := cell_below hb (hcs k hlt).2.1
      have c2 := cell_below hb (hcs k hlt).2.2
      have F1 := Lib.hid (cell_below hb H1.out); have FL := Lib.hid (HL.out.below hb)
      obtain ⟨y, hy⟩ : ∃ y, y = K[k] := ⟨_, rfl⟩
      rw [← hy] at c0 c1 c2
      have XY := Lib.hid hy
      obtain ⟨y1, y2⟩ := y
      simp only at c0 c1 c2
      obtain ⟨y3, hy3⟩ : ∃ z, z = y2 + la := ⟨_, rfl⟩
      rw [← hy3] at c2
      have Y3 := Lib.hid hy3
      clear hy hcs hb hy3
      by_cases he : p (y1, y2) = true
      · have E := Lib.hid (any_yes (p := p) hlt (by rw [← XY.out]; exact he))
        have V := Lib.hid he
        clear he
        go_wp2_with fail
        refine (meetO_any la lb y1 y2 y3 Y3.out v L bb _ FL.out F1.out).mono ?_; rintro e w2 ⟨rfl, hb2⟩
        rw [PX.out, V.out]
        have B2 := Lib.hid (B.out.trans (hb2.mono B.out.size)); clear hb2
        go_wp2
        go_ret
        exact ⟨k, rfl, by rw [E.out]; simp, B2.out⟩
      · have he' : p (y1, y2) = false := by simpa using he
        have E := Lib.hid (any_no (p := p) hlt hS.out (by rw [← XY.out]; exact he'))
        have V := Lib.hid he'
        clear he he'
        go_wp2_with fail
        refine (meetO_any la lb y1 y2 y3 Y3.out v L bb _ FL.out F1.out).mono ?_; rintro e w2 ⟨rfl, hb2⟩
        rw [PX.out, V.out]
        have B2 := Lib.hid (B.out.trans (hb2.mono B.out.size)); clear hb2
        go_wp2
        go_roundg (K.length - (k + 1))
        case measure => rw [G.out]; omega
        case rel => exact ⟨k + 1, by omega, by go_num, E, rfl, B2.out⟩
    · obtain rfl : k = K.length := by omega
      have E := Lib.hid (show K.any p = false by have := hS.out; rwa [List.take_length] at this)
      clear hS hb
      go_wp2
      go_ret
      exact ⟨-1, rfl, by rw [E.out]; simp, B.out⟩

theorem contMeetO_any (la lb : Int) (v u : Value) (K L : List (Int × Int)) (bb : Nat) (w : World) (hK : TmsR la w u K) (hL : TmsR lb w v L) (hc : w.cell? ⟨bb, 0, none⟩ = some v) :
    Calls Tryz.prog 142 #[u, .func (.func 143) #[] #[.pointer (some ⟨bb, 0, none⟩)]] w fun e w' => e = .returned (.bool (K.any fun x => L.any (meetT la lb x))) ∧ Below w.heap.size w w' := by
  go_enter Tryz.func142, Tryz.ntmps142
  go_wp2_with fail
  refine (idxMeetO_any la lb v u K L bb _ hK hL hc).mono ?_
  rintro e w1 ⟨r, rfl, hr, hb⟩
  have R := Lib.hid hr; clear hr hK hL hc
  go_wp2
  go_ret
  exact ⟨ret_bool R.out, hb⟩

theorem meet_any (la lb : Int) (u v : Value) (K L : List (Int × Int)) (w : World) (hK : TmsR la w u K) (hL : TmsR lb w v L) :
    Calls Tryz.prog 92 #[u, v] w fun e w' => e = .returned (.bool (meetB (la, K) (lb, L))) ∧ Below w.heap.size w w' := by
  obtain ⟨w1, hw1⟩ : ∃ x, x = w.alloc (.cells #[v] 57) := ⟨_, rfl⟩
  obtain ⟨bb, hbb⟩ : ∃ x, x = w.heap.size := ⟨_, rfl⟩
  have hb1 : Below w.heap.size w w1 := by rw [hw1]; exact (Below.refl _ _).alloc (Nat.le_refl _) _
  have c1 : w1.cell? ⟨bb, 0, none⟩ = some v := by rw [hw1, hbb]; simp
  have KK := Lib.hid (contMeetO_any la lb v u K L bb w1 (hK.below hb1) (hL.below hb1) c1)
  obtain ⟨a, cap, rfl, -, -, -⟩ := tmsR_open hL
  obtain ⟨a2, cap2, rfl, -, -, -⟩ := tmsR_open hK
  have E := Lib.hid (show meetB (la, K) (lb, L) = K.any fun x => L.any (meetT la lb x) from rfl)
  have B1 := Lib.hid hb1; have W1 := Lib.hid hw1; have XB := Lib.hid hbb
  clear hK hL hb1 c1 hw1 hbb
  go_enter Tryz.func92, Tryz.ntmps92
  go_upto_region 1 with fail
  rw [← W1.out]
  rw [← XB.out]
  go_wp2_with fail
  refine KK.out.mono ?_; rintro e w2 ⟨rfl, hb2⟩
  have B2 := Lib.hid (B1.out.trans (hb2.mono B1.out.size)); clear hb2
  rw [← E.out]
  go_wp2
  go_ret
  exact ⟨rfl, B2.out⟩

end Go.Proofs.YtkpmddlinlcobaaGreatDoor
