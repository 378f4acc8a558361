/- The law ZoneBack: a time of the world is one of those at which it is so there; each of those is so there; without shifts it is always just one: for every input. The walk, each way. -/
import Derived.Test.YtdamncbgobjpdaaDoorZoneTells
import Derived.Test.YtdamncbgobjpdaaDoorOpen
import Derived.Deep.RegionHeld3
namespace Go.Proofs.YtdamncbgobjpdaaDoor
open Go.RowKit

/-- What a new block's cells hold; an old cell behind a new block. -/
theorem new_cell (w : World) (cs : Array Value) (t : TypeId) (i b : Nat) (v : Value) (hb : b = w.heap.size) (h : cs[i]? = some v) : (w.alloc (.cells cs t)).cell? ⟨b, i, none⟩ = some v := by
  subst hb
  rw [cell_of_row _ _ i cs t (0, 0) (heap_alloc_new w _)]
  exact h

theorem old_cell {w : World} {p : Addr} {v : Value} (h : w.cell? p = some v) (o : Obj) : (w.alloc o).cell? p = some v := cell_below ((Below.refl _ _).alloc (Nat.le_refl _) _) h

/-- the zone of the law's facts. -/
def oneL : List (Int × Int) := [(10000, 120), (20000, 60)]

theorem one_right : zfault 60 oneL = 0 := by decide

theorem one_of (x : Int) : zoneOf 60 oneL x = if 20000 ≤ x then 60 else if 10000 ≤ x then 120 else 60 := by
  show (if (20000 : Int) ≤ x then (60 : Int) else if (10000 : Int) ≤ x then 120 else 60) = _
  rfl

theorem one_all : zoneAll 60 oneL 20100 = [19980, 20040] := by
  refine rise_ext _ _ (zoneAll_rises _ _ _) (by decide) fun x => ?_
  rw [zoneAll_mem, one_of]
  constructor
  · rintro ⟨_, h⟩
    have : x = 19980 ∨ x = 20040 := by
      split at h
      · omega
      · split at h <;> omega
    rcases this with rfl | rfl <;> simp
  · intro h
    have : x = 19980 ∨ x = 20040 := by simpa using h
    rcases this with rfl | rfl <;> decide

theorem one_none : zoneAll 60 oneL 10090 = [] := by
  refine rise_ext _ _ (zoneAll_rises _ _ _) (by simp) fun x => ?_
  rw [zoneAll_mem, one_of]
  constructor
  · rintro ⟨_, h⟩
    exfalso
    split at h
    · omega
    · split at h <;> omega
  · intro h; cases h

/-- Without shifts there is one at most. -/
theorem alone {ah t x : Int} {r : List Int} (h : zoneAll ah [] t = x :: r) : r = [] := by
  have hm : ∀ y ∈ zoneAll ah [] t, y = t - ah := fun y hy => by
    have := (zoneAll_mem.1 hy).2
    have e : zoneOf ah [] y = ah := rfl
    omega
  have hr := zoneAll_rises ah [] t
  rw [h] at hm hr
  cases r with
  | nil => rfl
  | cons y r =>
    have h1 := hm x (by simp)
    have h2 := hm y (by simp)
    have h3 := (List.pairwise_cons.1 hr).1 y (by simp)
    omega

theorem here {ah at_ : Int} {L : List (Int × Int)} (h : timeB at_ = true) : inB (zoneAll ah L (at_ + zoneOf ah L at_)) at_ = true := by
  rw [inB, decide_eq_true_eq, zoneAll_mem]
  exact ⟨h, by omega⟩

theorem there {ah t : Int} {L : List (Int × Int)} {k : Nat} (h : k < (zoneAll ah L t).length) : timeB (zoneAll ah L t)[k] = true ∧ (zoneAll ah L t)[k] + zoneOf ah L (zoneAll ah L t)[k] = t := by
  have := zoneAll_mem.1 (List.getElem_mem h)
  exact ⟨this.1, by omega⟩

set_option maxRecDepth 100000 in
set_option maxHeartbeats 8000000 in
theorem zoneBack_fault (v : Value) (L : List (Int × Int)) (ah at_ t : Int) (w : World) (he : ErrT w) (hL : PairsR w v L) (c : Int) (F0 : zfault ah L = c) (hc0 : c ≠ 0) :
    Calls Tryd.prog 12 #[.agg #[.int .i64 ah, v], .int .i64 at_, .int .i64 t] w fun e w' => e = .returned (.bool true) ∧ Below w.heap.size w w' := by
  have F := Lib.hid F0; clear F0
  have C := Lib.hid hc0; clear hc0
  have hL0 := hL
  obtain ⟨a, cap, rfl, _, _, _⟩ := hL0
  go_enter Tryd.func12, Tryd.ntmps12
  go_wp2_with fail
  obtain ⟨w1, hq1⟩ : ∃ x, x = ((w.alloc (.cells #[.int .i64 ah, .slice a L.length cap] 100)).alloc (.cells #[.int .i64 10000, .int .i64 120, .int .i64 20000, .int .i64 60] 110)).alloc (.cells #[.int .i64 60, .slice (some ⟨w.heap.size + 1, 0, none⟩) 2 2] 100) := ⟨_, rfl⟩
  rw [← hq1]
  have hb1 : Below w.heap.size w w1 := by rw [hq1]; exact (((Below.refl _ _).alloc (Nat.le_refl _) _).alloc (by simp) _).alloc (by simp; omega) _
  have r_0 : w1.cell? ⟨w.heap.size, 0, none⟩ = some (.int .i64 ah) := by rw [hq1]; exact old_cell (old_cell (new_cell _ _ _ 0 (w.heap.size) _ (by simp) rfl) _) _
  have r_1 : w1.cell? ⟨w.heap.size, 1, none⟩ = some (.slice a L.length cap) := by rw [hq1]; exact old_cell (old_cell (new_cell _ _ _ 1 (w.heap.size) _ (by simp) rfl) _) _
  have r_l : w.heap.size < w1.heap.size := by rw [hq1]; simp only [World.size_alloc]; omega
  have s_0 : w1.cell? ⟨w.heap.size + 1, 0, none⟩ = some (.int .i64 10000) := by rw [hq1]; exact old_cell (new_cell _ _ _ 0 (w.heap.size + 1) _ (by simp) rfl) _
  have s_1 : w1.cell? ⟨w.heap.size + 1, 1, none⟩ = some (.int .i64 120) := by rw [hq1]; exact old_cell (new_cell _ _ _ 1 (w.heap.size + 1) _ (by simp) rfl) _
  have s_2 : w1.cell? ⟨w.heap.size + 1, 2, none⟩ = some (.int .i64 20000) := by rw [hq1]; exact old_cell (new_cell _ _ _ 2 (w.heap.size + 1) _ (by simp) rfl) _
  have s_3 : w1.cell? ⟨w.heap.size + 1, 3, none⟩ = some (.int .i64 60) := by rw [hq1]; exact old_cell (new_cell _ _ _ 3 (w.heap.size + 1) _ (by simp) rfl) _
  have s_l : w.heap.size + 1 < w1.heap.size := by rw [hq1]; simp only [World.size_alloc]; omega
  have t_0 : w1.cell? ⟨w.heap.size + 1 + 1, 0, none⟩ = some (.int .i64 60) := by rw [hq1]; exact new_cell _ _ _ 0 (w.heap.size + 1 + 1) _ (by simp) rfl
  have t_1 : w1.cell? ⟨w.heap.size + 1 + 1, 1, none⟩ = some (.slice (some ⟨w.heap.size + 1, 0, none⟩) 2 2) := by rw [hq1]; exact new_cell _ _ _ 1 (w.heap.size + 1 + 1) _ (by simp) rfl
  have t_l : w.heap.size + 1 + 1 < w1.heap.size := by rw [hq1]; simp only [World.size_alloc]; omega
  clear hq1
  have he_2 := he.below hb1
  have hL_2 := hL.below hb1
  have z_2 : Below w.heap.size w w1 := hb1
  clear he hL hb1
  have hO_0 : PairsR w1 (.slice (some ⟨w.heap.size + 1, 0, none⟩) 2 2) oneL := pairsR_mk oneL rfl (by decide) (by decide) (fun i hi => by match i, hi with | 0, _ => exact ⟨s_0, s_1⟩ | 1, _ => exact ⟨s_2, s_3⟩ | i + 2, hi => exact absurd hi (by simp [oneL]))
  clear s_0 s_1 s_2 s_3 s_l
  refine (twice_yes _ oneL 60 20100 w1 hO_0 one_right (by decide)).mono ?_; rintro e w3 ⟨u3, rfl, hu3, hb3⟩
  rw [one_all] at hu3
  have he_4 := he_2.below hb3
  have hL_4 := hL_2.below hb3
  have hO_4 := hO_0.below hb3
  have c_4_0 := (hb3.cell (p := ⟨w.heap.size, 0, none⟩) r_l).trans r_0
  have c_4_1 := (hb3.cell (p := ⟨w.heap.size, 1, none⟩) r_l).trans r_1
  have c_4_2 := (hb3.cell (p := ⟨w.heap.size + 1 + 1, 0, none⟩) t_l).trans t_0
  have c_4_3 := (hb3.cell (p := ⟨w.heap.size + 1 + 1, 1, none⟩) t_l).trans t_1
  have l_4_0 : w.heap.size < w3.heap.size := Nat.lt_of_lt_of_le r_l hb3.size
  have l_4_1 : w.heap.size + 1 + 1 < w3.heap.size := Nat.lt_of_lt_of_le t_l hb3.size
  have z_4 : Below w.heap.size w w3 := z_2.trans (hb3.mono z_2.size)
  clear he_2 hL_2 hO_0 r_0 r_1 t_0 t_1 r_l t_l z_2 hb3
  go_wp2_with fail
  refine (world_gap _ oneL 60 10090 w3 hO_4 one_right (by decide) one_none).mono ?_; rintro e w5 ⟨rfl, hb5⟩
  have he_6 := he_4.below hb5
  have hL_6 := hL_4.below hb5
  have hO_6 := hO_4.below hb5
  have hU_6 := hu3.below hb5
  have c_6_0 := (hb5.cell (p := ⟨w.heap.size, 0, none⟩) l_4_0).trans c_4_0
  have c_6_1 := (hb5.cell (p := ⟨w.heap.size, 1, none⟩) l_4_0).trans c_4_1
  have c_6_2 := (hb5.cell (p := ⟨w.heap.size + 1 + 1, 0, none⟩) l_4_1).trans c_4_2
  have c_6_3 := (hb5.cell (p := ⟨w.heap.size + 1 + 1, 1, none⟩) l_4_1).trans c_4_3
  have l_6_0 : w.heap.size < w5.heap.size := Nat.lt_of_lt_of_le l_4_0 hb5.size
  have l_6_1 : w.heap.size + 1 + 1 < w5.heap.size := Nat.lt_of_lt_of_le l_4_1 hb5.size
  have z_6 : Below w.heap.size w w5 := z_4.trans (hb5.mono z_4.size)
  clear he_4 hL_4 hO_4 hu3 c_4_0 c_4_1 c_4_2 c_4_3 l_4_0 l_4_1 z_4 hb5
  go_wp2_with fail
  refine ((error_no 8 8 w5 true he_6 (by decide) (by omega) (by omega))).mono ?_; rintro e w7 ⟨rfl, hb7⟩
  have he_8 := he_6.below hb7
  have hL_8 := hL_6.below hb7
  have hO_8 := hO_6.below hb7
  have hU_8 := hU_6.below hb7
  have c_8_0 := (hb7.cell (p := ⟨w.heap.size, 0, none⟩) l_6_0).trans c_6_0
  have c_8_1 := (hb7.cell (p := ⟨w.heap.size, 1, none⟩) l_6_0).trans c_6_1
  have c_8_2 := (hb7.cell (p := ⟨w.heap.size + 1 + 1, 0, none⟩) l_6_1).trans c_6_2
  have c_8_3 := (hb7.cell (p := ⟨w.heap.size + 1 + 1, 1, none⟩) l_6_1).trans c_6_3
  have l_8_0 : w.heap.size < w7.heap.size := Nat.lt_of_lt_of_le l_6_0 hb7.size
  have l_8_1 : w.heap.size + 1 + 1 < w7.heap.size := Nat.lt_of_lt_of_le l_6_1 hb7.size
  have z_8 : Below w.heap.size w w7 := z_6.trans (hb7.mono z_6.size)
  clear he_6 hL_6 hO_6 hU_6 c_6_0 c_6_1 c_6_2 c_6_3 l_6_0 l_6_1 z_6 hb7
  clear hO_8
  clear c_8_2 c_8_3 l_8_1
  obtain ⟨af, capf, hvf, p1f, p2f, hcf⟩ := intsR_open hU_8
  subst hvf
  obtain ⟨bf, of, rfl, hcsf⟩ := hcf (by simp)
  have cf0 := hcsf 0 (by simp)
  have cf1 := hcsf 1 (by simp)
  simp at cf0 cf1
  unfold maxLen at p2f
  clear hcf hcsf hU_8
  go_wp2_with fail
  clear cf0 cf1
  refine (local_no _ L ah at_ c w7 hL_8 C.out (localE_c F.out C.out)).mono ?_; rintro e w9 ⟨rfl, hb9⟩
  have he_10 := he_8.below hb9
  have hL_10 := hL_8.below hb9
  have c_10_0 := (hb9.cell (p := ⟨w.heap.size, 0, none⟩) l_8_0).trans c_8_0
  have c_10_1 := (hb9.cell (p := ⟨w.heap.size, 1, none⟩) l_8_0).trans c_8_1
  have l_10_0 : w.heap.size < w9.heap.size := Nat.lt_of_lt_of_le l_8_0 hb9.size
  have z_10 : Below w.heap.size w w9 := z_8.trans (hb9.mono z_8.size)
  clear he_8 hL_8 c_8_0 c_8_1 l_8_0 z_8 hb9
  go_wp2_with fail
  refine (twice_no _ L ah t c w9 hL_10 C.out (.inl F.out)).mono ?_; rintro e w11 ⟨rfl, hb11⟩
  have he_12 := he_10.below hb11
  have hL_12 := hL_10.below hb11
  have c_12_0 := (hb11.cell (p := ⟨w.heap.size, 0, none⟩) l_10_0).trans c_10_0
  have c_12_1 := (hb11.cell (p := ⟨w.heap.size, 1, none⟩) l_10_0).trans c_10_1
  have l_12_0 : w.heap.size < w11.heap.size := Nat.lt_of_lt_of_le l_10_0 hb11.size
  have z_12 : Below w.heap.size w w11 := z_10.trans (hb11.mono z_10.size)
  clear he_10 hL_10 c_10_0 c_10_1 l_10_0 z_10 hb11
  go_wp2
  go_ret
  exact ⟨rfl, z_12⟩
set_option maxRecDepth 100000 in
set_option maxHeartbeats 8000000 in
theorem zoneBack_no_bad (v : Value) (L : List (Int × Int)) (ah at_ t : Int) (w : World) (he : ErrT w) (hL : PairsR w v L) (F0 : zfault ah L = 0) (A0 : timeB at_ = false ∨ timeB (at_ + zoneOf ah L at_) = false) (T0 : timeB t = false) :
    Calls Tryd.prog 12 #[.agg #[.int .i64 ah, v], .int .i64 at_, .int .i64 t] w fun e w' => e = .returned (.bool true) ∧ Below w.heap.size w w' := by
  have F := Lib.hid F0; clear F0
  have A := Lib.hid A0; clear A0
  have T := Lib.hid T0; clear T0
  have hL0 := hL
  obtain ⟨a, cap, rfl, _, _, _⟩ := hL0
  go_enter Tryd.func12, Tryd.ntmps12
  go_wp2_with fail
  obtain ⟨w1, hq1⟩ : ∃ x, x = ((w.alloc (.cells #[.int .i64 ah, .slice a L.length cap] 100)).alloc (.cells #[.int .i64 10000, .int .i64 120, .int .i64 20000, .int .i64 60] 110)).alloc (.cells #[.int .i64 60, .slice (some ⟨w.heap.size + 1, 0, none⟩) 2 2] 100) := ⟨_, rfl⟩
  rw [← hq1]
  have hb1 : Below w.heap.size w w1 := by rw [hq1]; exact (((Below.refl _ _).alloc (Nat.le_refl _) _).alloc (by simp) _).alloc (by simp; omega) _
  have r_0 : w1.cell? ⟨w.heap.size, 0, none⟩ = some (.int .i64 ah) := by rw [hq1]; exact old_cell (old_cell (new_cell _ _ _ 0 (w.heap.size) _ (by simp) rfl) _) _
  have r_1 : w1.cell? ⟨w.heap.size, 1, none⟩ = some (.slice a L.length cap) := by rw [hq1]; exact old_cell (old_cell (new_cell _ _ _ 1 (w.heap.size) _ (by simp) rfl) _) _
  have r_l : w.heap.size < w1.heap.size := by rw [hq1]; simp only [World.size_alloc]; omega
  have s_0 : w1.cell? ⟨w.heap.size + 1, 0, none⟩ = some (.int .i64 10000) := by rw [hq1]; exact old_cell (new_cell _ _ _ 0 (w.heap.size + 1) _ (by simp) rfl) _
  have s_1 : w1.cell? ⟨w.heap.size + 1, 1, none⟩ = some (.int .i64 120) := by rw [hq1]; exact old_cell (new_cell _ _ _ 1 (w.heap.size + 1) _ (by simp) rfl) _
  have s_2 : w1.cell? ⟨w.heap.size + 1, 2, none⟩ = some (.int .i64 20000) := by rw [hq1]; exact old_cell (new_cell _ _ _ 2 (w.heap.size + 1) _ (by simp) rfl) _
  have s_3 : w1.cell? ⟨w.heap.size + 1, 3, none⟩ = some (.int .i64 60) := by rw [hq1]; exact old_cell (new_cell _ _ _ 3 (w.heap.size + 1) _ (by simp) rfl) _
  have s_l : w.heap.size + 1 < w1.heap.size := by rw [hq1]; simp only [World.size_alloc]; omega
  have t_0 : w1.cell? ⟨w.heap.size + 1 + 1, 0, none⟩ = some (.int .i64 60) := by rw [hq1]; exact new_cell _ _ _ 0 (w.heap.size + 1 + 1) _ (by simp) rfl
  have t_1 : w1.cell? ⟨w.heap.size + 1 + 1, 1, none⟩ = some (.slice (some ⟨w.heap.size + 1, 0, none⟩) 2 2) := by rw [hq1]; exact new_cell _ _ _ 1 (w.heap.size + 1 + 1) _ (by simp) rfl
  have t_l : w.heap.size + 1 + 1 < w1.heap.size := by rw [hq1]; simp only [World.size_alloc]; omega
  clear hq1
  have he_2 := he.below hb1
  have hL_2 := hL.below hb1
  have z_2 : Below w.heap.size w w1 := hb1
  clear he hL hb1
  have hO_0 : PairsR w1 (.slice (some ⟨w.heap.size + 1, 0, none⟩) 2 2) oneL := pairsR_mk oneL rfl (by decide) (by decide) (fun i hi => by match i, hi with | 0, _ => exact ⟨s_0, s_1⟩ | 1, _ => exact ⟨s_2, s_3⟩ | i + 2, hi => exact absurd hi (by simp [oneL]))
  clear s_0 s_1 s_2 s_3 s_l
  refine (twice_yes _ oneL 60 20100 w1 hO_0 one_right (by decide)).mono ?_; rintro e w3 ⟨u3, rfl, hu3, hb3⟩
  rw [one_all] at hu3
  have he_4 := he_2.below hb3
  have hL_4 := hL_2.below hb3
  have hO_4 := hO_0.below hb3
  have c_4_0 := (hb3.cell (p := ⟨w.heap.size, 0, none⟩) r_l).trans r_0
  have c_4_1 := (hb3.cell (p := ⟨w.heap.size, 1, none⟩) r_l).trans r_1
  have c_4_2 := (hb3.cell (p := ⟨w.heap.size + 1 + 1, 0, none⟩) t_l).trans t_0
  have c_4_3 := (hb3.cell (p := ⟨w.heap.size + 1 + 1, 1, none⟩) t_l).trans t_1
  have l_4_0 : w.heap.size < w3.heap.size := Nat.lt_of_lt_of_le r_l hb3.size
  have l_4_1 : w.heap.size + 1 + 1 < w3.heap.size := Nat.lt_of_lt_of_le t_l hb3.size
  have z_4 : Below w.heap.size w w3 := z_2.trans (hb3.mono z_2.size)
  clear he_2 hL_2 hO_0 r_0 r_1 t_0 t_1 r_l t_l z_2 hb3
  go_wp2_with fail
  refine (world_gap _ oneL 60 10090 w3 hO_4 one_right (by decide) one_none).mono ?_; rintro e w5 ⟨rfl, hb5⟩
  have he_6 := he_4.below hb5
  have hL_6 := hL_4.below hb5
  have hO_6 := hO_4.below hb5
  have hU_6 := hu3.below hb5
  have c_6_0 := (hb5.cell (p := ⟨w.heap.size, 0, none⟩) l_4_0).trans c_4_0
  have c_6_1 := (hb5.cell (p := ⟨w.heap.size, 1, none⟩) l_4_0).trans c_4_1
  have c_6_2 := (hb5.cell (p := ⟨w.heap.size + 1 + 1, 0, none⟩) l_4_1).trans c_4_2
  have c_6_3 := (hb5.cell (p := ⟨w.heap.size + 1 + 1, 1, none⟩) l_4_1).trans c_4_3
  have l_6_0 : w.heap.size < w5.heap.size := Nat.lt_of_lt_of_le l_4_0 hb5.size
  have l_6_1 : w.heap.size + 1 + 1 < w5.heap.size := Nat.lt_of_lt_of_le l_4_1 hb5.size
  have z_6 : Below w.heap.size w w5 := z_4.trans (hb5.mono z_4.size)
  clear he_4 hL_4 hO_4 hu3 c_4_0 c_4_1 c_4_2 c_4_3 l_4_0 l_4_1 z_4 hb5
  go_wp2_with fail
  refine ((error_no 8 8 w5 true he_6 (by decide) (by omega) (by omega))).mono ?_; rintro e w7 ⟨rfl, hb7⟩
  have he_8 := he_6.below hb7
  have hL_8 := hL_6.below hb7
  have hO_8 := hO_6.below hb7
  have hU_8 := hU_6.below hb7
  have c_8_0 := (hb7.cell (p := ⟨w.heap.size, 0, none⟩) l_6_0).trans c_6_0
  have c_8_1 := (hb7.cell (p := ⟨w.heap.size, 1, none⟩) l_6_0).trans c_6_1
  have c_8_2 := (hb7.cell (p := ⟨w.heap.size + 1 + 1, 0, none⟩) l_6_1).trans c_6_2
  have c_8_3 := (hb7.cell (p := ⟨w.heap.size + 1 + 1, 1, none⟩) l_6_1).trans c_6_3
  have l_8_0 : w.heap.size < w7.heap.size := Nat.lt_of_lt_of_le l_6_0 hb7.size
  have l_8_1 : w.heap.size + 1 + 1 < w7.heap.size := Nat.lt_of_lt_of_le l_6_1 hb7.size
  have z_8 : Below w.heap.size w w7 := z_6.trans (hb7.mono z_6.size)
  clear he_6 hL_6 hO_6 hU_6 c_6_0 c_6_1 c_6_2 c_6_3 l_6_0 l_6_1 z_6 hb7
  clear hO_8
  clear c_8_2 c_8_3 l_8_1
  obtain ⟨af, capf, hvf, p1f, p2f, hcf⟩ := intsR_open hU_8
  subst hvf
  obtain ⟨bf, of, rfl, hcsf⟩ := hcf (by simp)
  have cf0 := hcsf 0 (by simp)
  have cf1 := hcsf 1 (by simp)
  simp at cf0 cf1
  unfold maxLen at p2f
  clear hcf hcsf hU_8
  go_wp2_with fail
  clear cf0 cf1
  refine (local_no _ L ah at_ 1 w7 hL_8 (by omega) (localE_1 F.out A.out)).mono ?_; rintro e w9 ⟨rfl, hb9⟩
  have he_10 := he_8.below hb9
  have hL_10 := hL_8.below hb9
  have c_10_0 := (hb9.cell (p := ⟨w.heap.size, 0, none⟩) l_8_0).trans c_8_0
  have c_10_1 := (hb9.cell (p := ⟨w.heap.size, 1, none⟩) l_8_0).trans c_8_1
  have l_10_0 : w.heap.size < w9.heap.size := Nat.lt_of_lt_of_le l_8_0 hb9.size
  have z_10 : Below w.heap.size w w9 := z_8.trans (hb9.mono z_8.size)
  clear he_8 hL_8 c_8_0 c_8_1 l_8_0 z_8 hb9
  go_wp2_with fail
  refine (twice_no _ L ah t 1 w9 hL_10 (by omega) (.inr ⟨F.out, T.out, rfl⟩)).mono ?_; rintro e w11 ⟨rfl, hb11⟩
  have he_12 := he_10.below hb11
  have hL_12 := hL_10.below hb11
  have c_12_0 := (hb11.cell (p := ⟨w.heap.size, 0, none⟩) l_10_0).trans c_10_0
  have c_12_1 := (hb11.cell (p := ⟨w.heap.size, 1, none⟩) l_10_0).trans c_10_1
  have l_12_0 : w.heap.size < w11.heap.size := Nat.lt_of_lt_of_le l_10_0 hb11.size
  have z_12 : Below w.heap.size w w11 := z_10.trans (hb11.mono z_10.size)
  clear he_10 hL_10 c_10_0 c_10_1 l_10_0 z_10 hb11
  go_wp2
  go_ret
  exact ⟨rfl, z_12⟩
set_option maxRecDepth 100000 in
set_option maxHeartbeats 8000000 in
theorem zoneBack_no_good (v : Value) (L : List (Int × Int)) (ah at_ t : Int) (w : World) (he : ErrT w) (hL : PairsR w v L) (F0 : zfault ah L = 0) (A0 : timeB at_ = false ∨ timeB (at_ + zoneOf ah L at_) = false) (T0 : timeB t = true) :
    Calls Tryd.prog 12 #[.agg #[.int .i64 ah, v], .int .i64 at_, .int .i64 t] w fun e w' => e = .returned (.bool true) ∧ Below w.heap.size w w' := by
  have F := Lib.hid F0; clear F0
  have A := Lib.hid A0; clear A0
  have T := Lib.hid T0; clear T0
  have hL0 := hL
  obtain ⟨a, cap, rfl, _, _, _⟩ := hL0
  go_enter Tryd.func12, Tryd.ntmps12
  go_wp2_with fail
  obtain ⟨w1, hq1⟩ : ∃ x, x = ((w.alloc (.cells #[.int .i64 ah, .slice a L.length cap] 100)).alloc (.cells #[.int .i64 10000, .int .i64 120, .int .i64 20000, .int .i64 60] 110)).alloc (.cells #[.int .i64 60, .slice (some ⟨w.heap.size + 1, 0, none⟩) 2 2] 100) := ⟨_, rfl⟩
  rw [← hq1]
  have hb1 : Below w.heap.size w w1 := by rw [hq1]; exact (((Below.refl _ _).alloc (Nat.le_refl _) _).alloc (by simp) _).alloc (by simp; omega) _
  have r_0 : w1.cell? ⟨w.heap.size, 0, none⟩ = some (.int .i64 ah) := by rw [hq1]; exact old_cell (old_cell (new_cell _ _ _ 0 (w.heap.size) _ (by simp) rfl) _) _
  have r_1 : w1.cell? ⟨w.heap.size, 1, none⟩ = some (.slice a L.length cap) := by rw [hq1]; exact old_cell (old_cell (new_cell _ _ _ 1 (w.heap.size) _ (by simp) rfl) _) _
  have r_l : w.heap.size < w1.heap.size := by rw [hq1]; simp only [World.size_alloc]; omega
  have s_0 : w1.cell? ⟨w.heap.size + 1, 0, none⟩ = some (.int .i64 10000) := by rw [hq1]; exact old_cell (new_cell _ _ _ 0 (w.heap.size + 1) _ (by simp) rfl) _
  have s_1 : w1.cell? ⟨w.heap.size + 1, 1, none⟩ = some (.int .i64 120) := by rw [hq1]; exact old_cell (new_cell _ _ _ 1 (w.heap.size + 1) _ (by simp) rfl) _
  have s_2 : w1.cell? ⟨w.heap.size + 1, 2, none⟩ = some (.int .i64 20000) := by rw [hq1]; exact old_cell (new_cell _ _ _ 2 (w.heap.size + 1) _ (by simp) rfl) _
  have s_3 : w1.cell? ⟨w.heap.size + 1, 3, none⟩ = some (.int .i64 60) := by rw [hq1]; exact old_cell (new_cell _ _ _ 3 (w.heap.size + 1) _ (by simp) rfl) _
  have s_l : w.heap.size + 1 < w1.heap.size := by rw [hq1]; simp only [World.size_alloc]; omega
  have t_0 : w1.cell? ⟨w.heap.size + 1 + 1, 0, none⟩ = some (.int .i64 60) := by rw [hq1]; exact new_cell _ _ _ 0 (w.heap.size + 1 + 1) _ (by simp) rfl
  have t_1 : w1.cell? ⟨w.heap.size + 1 + 1, 1, none⟩ = some (.slice (some ⟨w.heap.size + 1, 0, none⟩) 2 2) := by rw [hq1]; exact new_cell _ _ _ 1 (w.heap.size + 1 + 1) _ (by simp) rfl
  have t_l : w.heap.size + 1 + 1 < w1.heap.size := by rw [hq1]; simp only [World.size_alloc]; omega
  clear hq1
  have he_2 := he.below hb1
  have hL_2 := hL.below hb1
  have z_2 : Below w.heap.size w w1 := hb1
  clear he hL hb1
  have hO_0 : PairsR w1 (.slice (some ⟨w.heap.size + 1, 0, none⟩) 2 2) oneL := pairsR_mk oneL rfl (by decide) (by decide) (fun i hi => by match i, hi with | 0, _ => exact ⟨s_0, s_1⟩ | 1, _ => exact ⟨s_2, s_3⟩ | i + 2, hi => exact absurd hi (by simp [oneL]))
  clear s_0 s_1 s_2 s_3 s_l
  refine (twice_yes _ oneL 60 20100 w1 hO_0 one_right (by decide)).mono ?_; rintro e w3 ⟨u3, rfl, hu3, hb3⟩
  rw [one_all] at hu3
  have he_4 := he_2.below hb3
  have hL_4 := hL_2.below hb3
  have hO_4 := hO_0.below hb3
  have c_4_0 := (hb3.cell (p := ⟨w.heap.size, 0, none⟩) r_l).trans r_0
  have c_4_1 := (hb3.cell (p := ⟨w.heap.size, 1, none⟩) r_l).trans r_1
  have c_4_2 := (hb3.cell (p := ⟨w.heap.size + 1 + 1, 0, none⟩) t_l).trans t_0
  have c_4_3 := (hb3.cell (p := ⟨w.heap.size + 1 + 1, 1, none⟩) t_l).trans t_1
  have l_4_0 : w.heap.size < w3.heap.size := Nat.lt_of_lt_of_le r_l hb3.size
  have l_4_1 : w.heap.size + 1 + 1 < w3.heap.size := Nat.lt_of_lt_of_le t_l hb3.size
  have z_4 : Below w.heap.size w w3 := z_2.trans (hb3.mono z_2.size)
  clear he_2 hL_2 hO_0 r_0 r_1 t_0 t_1 r_l t_l z_2 hb3
  go_wp2_with fail
  refine (world_gap _ oneL 60 10090 w3 hO_4 one_right (by decide) one_none).mono ?_; rintro e w5 ⟨rfl, hb5⟩
  have he_6 := he_4.below hb5
  have hL_6 := hL_4.below hb5
  have hO_6 := hO_4.below hb5
  have hU_6 := hu3.below hb5
  have c_6_0 := (hb5.cell (p := ⟨w.heap.size, 0, none⟩) l_4_0).trans c_4_0
  have c_6_1 := (hb5.cell (p := ⟨w.heap.size, 1, none⟩) l_4_0).trans c_4_1
  have c_6_2 := (hb5.cell (p := ⟨w.heap.size + 1 + 1, 0, none⟩) l_4_1).trans c_4_2
  have c_6_3 := (hb5.cell (p := ⟨w.heap.size + 1 + 1, 1, none⟩) l_4_1).trans c_4_3
  have l_6_0 : w.heap.size < w5.heap.size := Nat.lt_of_lt_of_le l_4_0 hb5.size
  have l_6_1 : w.heap.size + 1 + 1 < w5.heap.size := Nat.lt_of_lt_of_le l_4_1 hb5.size
  have z_6 : Below w.heap.size w w5 := z_4.trans (hb5.mono z_4.size)
  clear he_4 hL_4 hO_4 hu3 c_4_0 c_4_1 c_4_2 c_4_3 l_4_0 l_4_1 z_4 hb5
  go_wp2_with fail
  refine ((error_no 8 8 w5 true he_6 (by decide) (by omega) (by omega))).mono ?_; rintro e w7 ⟨rfl, hb7⟩
  have he_8 := he_6.below hb7
  have hL_8 := hL_6.below hb7
  have hO_8 := hO_6.below hb7
  have hU_8 := hU_6.below hb7
  have c_8_0 := (hb7.cell (p := ⟨w.heap.size, 0, none⟩) l_6_0).trans c_6_0
  have c_8_1 := (hb7.cell (p := ⟨w.heap.size, 1, none⟩) l_6_0).trans c_6_1
  have c_8_2 := (hb7.cell (p := ⟨w.heap.size + 1 + 1, 0, none⟩) l_6_1).trans c_6_2
  have c_8_3 := (hb7.cell (p := ⟨w.heap.size + 1 + 1, 1, none⟩) l_6_1).trans c_6_3
  have l_8_0 : w.heap.size < w7.heap.size := Nat.lt_of_lt_of_le l_6_0 hb7.size
  have l_8_1 : w.heap.size + 1 + 1 < w7.heap.size := Nat.lt_of_lt_of_le l_6_1 hb7.size
  have z_8 : Below w.heap.size w w7 := z_6.trans (hb7.mono z_6.size)
  clear he_6 hL_6 hO_6 hU_6 c_6_0 c_6_1 c_6_2 c_6_3 l_6_0 l_6_1 z_6 hb7
  clear hO_8
  clear c_8_2 c_8_3 l_8_1
  obtain ⟨af, capf, hvf, p1f, p2f, hcf⟩ := intsR_open hU_8
  subst hvf
  obtain ⟨bf, of, rfl, hcsf⟩ := hcf (by simp)
  have cf0 := hcsf 0 (by simp)
  have cf1 := hcsf 1 (by simp)
  simp at cf0 cf1
  unfold maxLen at p2f
  clear hcf hcsf hU_8
  go_wp2_with fail
  clear cf0 cf1
  refine (local_no _ L ah at_ 1 w7 hL_8 (by omega) (localE_1 F.out A.out)).mono ?_; rintro e w9 ⟨rfl, hb9⟩
  have he_10 := he_8.below hb9
  have hL_10 := hL_8.below hb9
  have c_10_0 := (hb9.cell (p := ⟨w.heap.size, 0, none⟩) l_8_0).trans c_8_0
  have c_10_1 := (hb9.cell (p := ⟨w.heap.size, 1, none⟩) l_8_0).trans c_8_1
  have l_10_0 : w.heap.size < w9.heap.size := Nat.lt_of_lt_of_le l_8_0 hb9.size
  have z_10 : Below w.heap.size w w9 := z_8.trans (hb9.mono z_8.size)
  clear he_8 hL_8 c_8_0 c_8_1 l_8_0 z_8 hb9
  go_wp2_with fail
  refine (twice_yes _ L ah t w9 hL_10 F.out T.out).mono ?_; rintro e w11 ⟨u11, rfl, hu11, hb11⟩
  have he_12 := he_10.below hb11
  have hL_12 := hL_10.below hb11
  have c_12_0 := (hb11.cell (p := ⟨w.heap.size, 0, none⟩) l_10_0).trans c_10_0
  have c_12_1 := (hb11.cell (p := ⟨w.heap.size, 1, none⟩) l_10_0).trans c_10_1
  have l_12_0 : w.heap.size < w11.heap.size := Nat.lt_of_lt_of_le l_10_0 hb11.size
  have z_12 : Below w.heap.size w w11 := z_10.trans (hb11.mono z_10.size)
  clear he_10 hL_10 c_10_0 c_10_1 l_10_0 z_10 hb11
  obtain ⟨M, hMq⟩ : ∃ M, M = zoneAll ah L t := ⟨_, rfl⟩
  have MQ := Lib.hid hMq
  rw [← hMq] at hu11
  clear hMq
  obtain ⟨am, capm, rfl, p1, p2, hcm⟩ := intsR_open hu11
  have CM := Lib.hid hcm; clear hcm
  unfold maxLen at p2
  have z0 := c_12_0
  have z1 := c_12_1
  have HLX := Lib.hid hL_12
  have BX := Lib.hid z_12
  have EX := Lib.hid he_12
  have hlz := l_12_0
  clear c_12_0 c_12_1 l_12_0 hL_12 he_12 z_12
  obtain ⟨wo, rfl⟩ : ∃ wo : World, wo = w11 := ⟨_, rfl⟩
  go_wp2
  go_loopg [19] M.length (fun g iv wr => ∃ k : Nat, k ≤ M.length ∧ iv = .int .i64 k ∧ g = M.length - k ∧ Below wo.heap.size wo wr)
  case atStart => exact ⟨0, Nat.zero_le _, rfl, rfl, Below.refl _ _⟩
  case round =>
    obtain ⟨k, hk, rfl, hg, hb⟩ := hrel
    have G := Lib.hid hg; clear hg
    have y0 := cell_below hb z0
    have y1 := cell_below hb z1
    have hlz2 := Nat.lt_of_lt_of_le hlz hb.size
    have B := Lib.hid hb
    by_cases hlt : k < M.length
    · obtain ⟨bm, om, rfl, hcs⟩ := CM.out (by omega)
      have cx := cell_below hb (hcs k hlt)
      have CS := Lib.hid hcs
      have hth : timeB M[k] = true ∧ M[k] + zoneOf ah L M[k] = t := by have := MQ.out; subst this; exact there hlt
      obtain ⟨x, hx⟩ : ∃ x, x = M[k] := ⟨_, rfl⟩
      rw [← hx] at cx hth
      obtain ⟨h5, h6⟩ := hth
      have TX := Lib.hid h5; have TE := Lib.hid h6
      have TL := Lib.hid (show timeB (x + zoneOf ah L x) = true by rw [h6]; exact T.out)
      have X := Lib.hid hx
      have hLr := HLX.out.below hb
      have LR := Lib.hid hLr
      clear hcs h5 h6 hx hb hLr
      have i1 : (0 : Int) ≤ (k : Int) := Int.natCast_nonneg _
      have i2 : (k : Int) < (M.length : Int) := by omega
      have hbm : bm < wr.heap.size := World.block_lt_of_cell? wr _ cx
      by_cases k0 : 0 < k
      · have hkm : k - 1 < M.length := by omega
        have dx := cell_below B.out (CS.out (k - 1) hkm)
        obtain ⟨p, hp⟩ : ∃ p, p = M[k - 1] := ⟨_, rfl⟩
        rw [← hp] at dx
        have hpx : p < x := by
          have h7 := List.pairwise_iff_getElem.1 (zoneAll_rises ah L t) (k - 1) k (by rw [← MQ.out]; exact hkm) (by rw [← MQ.out]; exact hlt) (by omega)
          rw [hp, X.out]
          have := MQ.out
          subst this
          exact h7
        have hd2 : decide (x ≤ p) = false := by simp; omega
        have hd : decide ((0 : Int) < (k : Int)) = true := by simpa using k0
        clear hp
        go_wp2_with fail
        go_region_held3 (fun w' => w'.cell? ⟨w.heap.size, 0, none⟩ = some (.int .i64 ah) ∧ w'.cell? ⟨w.heap.size, 1, none⟩ = some (.slice a L.length cap) ∧ w'.cell? ⟨bm, om + k, none⟩ = some (.int .i64 x) ∧ PairsR w' (.slice a L.length cap) L)
          (first | (refine ⟨?_, ?_, ?_, ?_⟩ <;> (first | assumption | exact LR.out)) | (go_split_ands; refine ⟨?_, ?_, ?_, ?_⟩ <;> (first | assumption | exact cell_below hb4 (by assumption) | exact PairsR.below (by assumption) hb4)))
          ((go_at_call 64; refine (local_yes _ L ah x _ (by go_split_ands; assumption) F.out TX.out TL.out).mono ?_; rintro e w4 ⟨rfl, hb4⟩))
        rw [TE.out]
        have dx2 := cell_below hb4 dx
        have cx2 := cell_below hb4 cx
        have B4 := Lib.hid ((B.out.drew).trans (hb4.mono B.out.size))
        clear hb4
        go_wp2
        have s1 : IntKind.i64.wrap ((k : Int) - 1) = (k : Int) - 1 := IntWalk.i64_in _ (by omega)
        have s2 : (0 : Int) ≤ (k : Int) - 1 := by omega
        have s3 : (1 : Int) ≤ (k : Int) := by omega
        have s4 : ((k : Int) - 1).toNat = k - 1 := by omega
        have s5 : (k : Int) - 1 < (M.length : Int) := by omega
        go_quiet (fail)
        clear s1 s2 s3 s4 s5
        go_wp2
        go_roundg (M.length - (k + 1))
        case measure => rw [G.out]; omega
        case rel => exact ⟨k + 1, by omega, by go_num, rfl, below_drewN B4.out _⟩
      · have hd : decide ((0 : Int) < (k : Int)) = false := by simp; omega
        go_wp2_with fail
        go_region_held3 (fun w' => w'.cell? ⟨w.heap.size, 0, none⟩ = some (.int .i64 ah) ∧ w'.cell? ⟨w.heap.size, 1, none⟩ = some (.slice a L.length cap) ∧ w'.cell? ⟨bm, om + k, none⟩ = some (.int .i64 x) ∧ PairsR w' (.slice a L.length cap) L)
          (first | (refine ⟨?_, ?_, ?_, ?_⟩ <;> (first | assumption | exact LR.out)) | (go_split_ands; refine ⟨?_, ?_, ?_, ?_⟩ <;> (first | assumption | exact cell_below hb4 (by assumption) | exact PairsR.below (by assumption) hb4)))
          ((go_at_call 64; refine (local_yes _ L ah x _ (by go_split_ands; assumption) F.out TX.out TL.out).mono ?_; rintro e w4 ⟨rfl, hb4⟩))
        rw [TE.out]
        have B4 := Lib.hid ((B.out.drew).trans (hb4.mono B.out.size))
        clear hb4
        go_wp2
        go_quiet (fail)
        go_wp2
        go_roundg (M.length - (k + 1))
        case measure => rw [G.out]; omega
        case rel => exact ⟨k + 1, by omega, by go_num, rfl, below_drewN B4.out _⟩
    · obtain rfl : k = M.length := by omega
      have BW := Lib.hid (BX.out.trans (hb.mono BX.out.size))
      have hLr := HLX.out.below hb
      have hEr := EX.out.below hb
      clear hb hlt
      cases hM2 : zoneAll ah L t with
      | nil =>
        have hM3 : M = [] := by rw [MQ.out, hM2]
        subst hM3
        have X := Lib.hid hM2; clear hM2
        go_wp2_with fail
        refine (world_gap _ L ah t _ hLr F.out T.out X.out).mono ?_; rintro e w5 ⟨rfl, hb5⟩
        have hE5 := hEr.below hb5
        have B5 := Lib.hid (BW.out.trans (hb5.mono BW.out.size))
        clear hb5 hEr hLr
        go_wp2_with fail
        refine (error_no 8 8 _ true hE5 (by simp) (by omega) (by omega)).mono ?_; rintro e w6 ⟨rfl, hb6⟩
        have B6 := Lib.hid (B5.out.trans (hb6.mono B5.out.size))
        clear hb6 hE5
        go_wp2
        go_ret
        exact ⟨rfl, B6.out⟩
      | cons x r =>
        have hM3 : M = x :: r := by rw [MQ.out, hM2]
        obtain ⟨bm, om, rfl, hcs⟩ := CM.out (by rw [hM3]; simp)
        have cx := cell_below B.out (hcs 0 (by rw [hM3]; simp))
        have hx0 : M[0]'(by rw [hM3]; simp) = x := by simp [hM3]
        rw [hx0] at cx
        simp only [Nat.add_zero] at cx
        have hnn : 0 < M.length := by rw [hM3]; simp
        have hn2 : ((M.length : Int) == 0) = false := by rw [beq_eq_false_iff_ne]; omega
        have hn3 : (0 : Int) < (M.length : Int) := by omega
        have X := Lib.hid hM2
        have ONE := Lib.hid (show L.length = 0 → M.length = 1 by
          intro h0
          have hL0 : L = [] := List.length_eq_zero_iff.1 h0
          subst hL0
          rw [hM3, alone hM2]; rfl)
        clear hM2 hM3 hx0 hcs
        by_cases hl0 : 0 < L.length
        · have hl1 : decide ((0 : Int) < (L.length : Int)) = true := decide_eq_true (by omega)
          go_wp2_with fail
          refine (world_yes _ L ah t x r _ hLr F.out T.out X.out).mono ?_; rintro e w5 ⟨rfl, hb5⟩
          have y0' := cell_below hb5 y0
          have y1' := cell_below hb5 y1
          have cx' := cell_below hb5 cx
          have B5 := Lib.hid (BW.out.trans (hb5.mono BW.out.size))
          clear hb5 hEr hLr
          go_wp2
          go_ret
          exact ⟨by simp, B5.out⟩
        · have hl1 : decide ((0 : Int) < (L.length : Int)) = false := decide_eq_false (by omega)
          have hm1 : ((M.length : Int) == 1) = true := by have := ONE.out (by omega); rw [beq_iff_eq]; omega
          go_wp2_with fail
          refine (world_yes _ L ah t x r _ hLr F.out T.out X.out).mono ?_; rintro e w5 ⟨rfl, hb5⟩
          have y0' := cell_below hb5 y0
          have y1' := cell_below hb5 y1
          have cx' := cell_below hb5 cx
          have B5 := Lib.hid (BW.out.trans (hb5.mono BW.out.size))
          clear hb5 hEr hLr
          go_wp2
          go_ret
          exact ⟨by simp, B5.out⟩
set_option maxRecDepth 100000 in
set_option maxHeartbeats 8000000 in
theorem zoneBack_ok_bad (v : Value) (L : List (Int × Int)) (ah at_ t : Int) (w : World) (he : ErrT w) (hL : PairsR w v L) (F0 : zfault ah L = 0) (A0 : timeB at_ = true) (Q0 : timeB (at_ + zoneOf ah L at_) = true) (T0 : timeB t = false) :
    Calls Tryd.prog 12 #[.agg #[.int .i64 ah, v], .int .i64 at_, .int .i64 t] w fun e w' => e = .returned (.bool true) ∧ Below w.heap.size w w' := by
  have F := Lib.hid F0; clear F0
  have A := Lib.hid A0; clear A0
  have IN := Lib.hid (here (ah := ah) (L := L) A.out)
  obtain ⟨zl, hzl⟩ : ∃ zl, zl = at_ + zoneOf ah L at_ := ⟨_, rfl⟩
  have ZL := Lib.hid hzl
  have QZ := Lib.hid Q0
  have Q := Lib.hid (show timeB zl = true by rw [hzl]; exact Q0)
  clear hzl Q0
  have T := Lib.hid T0; clear T0
  have hL0 := hL
  obtain ⟨a, cap, rfl, _, _, _⟩ := hL0
  go_enter Tryd.func12, Tryd.ntmps12
  go_wp2_with fail
  obtain ⟨w1, hq1⟩ : ∃ x, x = ((w.alloc (.cells #[.int .i64 ah, .slice a L.length cap] 100)).alloc (.cells #[.int .i64 10000, .int .i64 120, .int .i64 20000, .int .i64 60] 110)).alloc (.cells #[.int .i64 60, .slice (some ⟨w.heap.size + 1, 0, none⟩) 2 2] 100) := ⟨_, rfl⟩
  rw [← hq1]
  have hb1 : Below w.heap.size w w1 := by rw [hq1]; exact (((Below.refl _ _).alloc (Nat.le_refl _) _).alloc (by simp) _).alloc (by simp; omega) _
  have r_0 : w1.cell? ⟨w.heap.size, 0, none⟩ = some (.int .i64 ah) := by rw [hq1]; exact old_cell (old_cell (new_cell _ _ _ 0 (w.heap.size) _ (by simp) rfl) _) _
  have r_1 : w1.cell? ⟨w.heap.size, 1, none⟩ = some (.slice a L.length cap) := by rw [hq1]; exact old_cell (old_cell (new_cell _ _ _ 1 (w.heap.size) _ (by simp) rfl) _) _
  have r_l : w.heap.size < w1.heap.size := by rw [hq1]; simp only [World.size_alloc]; omega
  have s_0 : w1.cell? ⟨w.heap.size + 1, 0, none⟩ = some (.int .i64 10000) := by rw [hq1]; exact old_cell (new_cell _ _ _ 0 (w.heap.size + 1) _ (by simp) rfl) _
  have s_1 : w1.cell? ⟨w.heap.size + 1, 1, none⟩ = some (.int .i64 120) := by rw [hq1]; exact old_cell (new_cell _ _ _ 1 (w.heap.size + 1) _ (by simp) rfl) _
  have s_2 : w1.cell? ⟨w.heap.size + 1, 2, none⟩ = some (.int .i64 20000) := by rw [hq1]; exact old_cell (new_cell _ _ _ 2 (w.heap.size + 1) _ (by simp) rfl) _
  have s_3 : w1.cell? ⟨w.heap.size + 1, 3, none⟩ = some (.int .i64 60) := by rw [hq1]; exact old_cell (new_cell _ _ _ 3 (w.heap.size + 1) _ (by simp) rfl) _
  have s_l : w.heap.size + 1 < w1.heap.size := by rw [hq1]; simp only [World.size_alloc]; omega
  have t_0 : w1.cell? ⟨w.heap.size + 1 + 1, 0, none⟩ = some (.int .i64 60) := by rw [hq1]; exact new_cell _ _ _ 0 (w.heap.size + 1 + 1) _ (by simp) rfl
  have t_1 : w1.cell? ⟨w.heap.size + 1 + 1, 1, none⟩ = some (.slice (some ⟨w.heap.size + 1, 0, none⟩) 2 2) := by rw [hq1]; exact new_cell _ _ _ 1 (w.heap.size + 1 + 1) _ (by simp) rfl
  have t_l : w.heap.size + 1 + 1 < w1.heap.size := by rw [hq1]; simp only [World.size_alloc]; omega
  clear hq1
  have he_2 := he.below hb1
  have hL_2 := hL.below hb1
  have z_2 : Below w.heap.size w w1 := hb1
  clear he hL hb1
  have hO_0 : PairsR w1 (.slice (some ⟨w.heap.size + 1, 0, none⟩) 2 2) oneL := pairsR_mk oneL rfl (by decide) (by decide) (fun i hi => by match i, hi with | 0, _ => exact ⟨s_0, s_1⟩ | 1, _ => exact ⟨s_2, s_3⟩ | i + 2, hi => exact absurd hi (by simp [oneL]))
  clear s_0 s_1 s_2 s_3 s_l
  refine (twice_yes _ oneL 60 20100 w1 hO_0 one_right (by decide)).mono ?_; rintro e w3 ⟨u3, rfl, hu3, hb3⟩
  rw [one_all] at hu3
  have he_4 := he_2.below hb3
  have hL_4 := hL_2.below hb3
  have hO_4 := hO_0.below hb3
  have c_4_0 := (hb3.cell (p := ⟨w.heap.size, 0, none⟩) r_l).trans r_0
  have c_4_1 := (hb3.cell (p := ⟨w.heap.size, 1, none⟩) r_l).trans r_1
  have c_4_2 := (hb3.cell (p := ⟨w.heap.size + 1 + 1, 0, none⟩) t_l).trans t_0
  have c_4_3 := (hb3.cell (p := ⟨w.heap.size + 1 + 1, 1, none⟩) t_l).trans t_1
  have l_4_0 : w.heap.size < w3.heap.size := Nat.lt_of_lt_of_le r_l hb3.size
  have l_4_1 : w.heap.size + 1 + 1 < w3.heap.size := Nat.lt_of_lt_of_le t_l hb3.size
  have z_4 : Below w.heap.size w w3 := z_2.trans (hb3.mono z_2.size)
  clear he_2 hL_2 hO_0 r_0 r_1 t_0 t_1 r_l t_l z_2 hb3
  go_wp2_with fail
  refine (world_gap _ oneL 60 10090 w3 hO_4 one_right (by decide) one_none).mono ?_; rintro e w5 ⟨rfl, hb5⟩
  have he_6 := he_4.below hb5
  have hL_6 := hL_4.below hb5
  have hO_6 := hO_4.below hb5
  have hU_6 := hu3.below hb5
  have c_6_0 := (hb5.cell (p := ⟨w.heap.size, 0, none⟩) l_4_0).trans c_4_0
  have c_6_1 := (hb5.cell (p := ⟨w.heap.size, 1, none⟩) l_4_0).trans c_4_1
  have c_6_2 := (hb5.cell (p := ⟨w.heap.size + 1 + 1, 0, none⟩) l_4_1).trans c_4_2
  have c_6_3 := (hb5.cell (p := ⟨w.heap.size + 1 + 1, 1, none⟩) l_4_1).trans c_4_3
  have l_6_0 : w.heap.size < w5.heap.size := Nat.lt_of_lt_of_le l_4_0 hb5.size
  have l_6_1 : w.heap.size + 1 + 1 < w5.heap.size := Nat.lt_of_lt_of_le l_4_1 hb5.size
  have z_6 : Below w.heap.size w w5 := z_4.trans (hb5.mono z_4.size)
  clear he_4 hL_4 hO_4 hu3 c_4_0 c_4_1 c_4_2 c_4_3 l_4_0 l_4_1 z_4 hb5
  go_wp2_with fail
  refine ((error_no 8 8 w5 true he_6 (by decide) (by omega) (by omega))).mono ?_; rintro e w7 ⟨rfl, hb7⟩
  have he_8 := he_6.below hb7
  have hL_8 := hL_6.below hb7
  have hO_8 := hO_6.below hb7
  have hU_8 := hU_6.below hb7
  have c_8_0 := (hb7.cell (p := ⟨w.heap.size, 0, none⟩) l_6_0).trans c_6_0
  have c_8_1 := (hb7.cell (p := ⟨w.heap.size, 1, none⟩) l_6_0).trans c_6_1
  have c_8_2 := (hb7.cell (p := ⟨w.heap.size + 1 + 1, 0, none⟩) l_6_1).trans c_6_2
  have c_8_3 := (hb7.cell (p := ⟨w.heap.size + 1 + 1, 1, none⟩) l_6_1).trans c_6_3
  have l_8_0 : w.heap.size < w7.heap.size := Nat.lt_of_lt_of_le l_6_0 hb7.size
  have l_8_1 : w.heap.size + 1 + 1 < w7.heap.size := Nat.lt_of_lt_of_le l_6_1 hb7.size
  have z_8 : Below w.heap.size w w7 := z_6.trans (hb7.mono z_6.size)
  clear he_6 hL_6 hO_6 hU_6 c_6_0 c_6_1 c_6_2 c_6_3 l_6_0 l_6_1 z_6 hb7
  clear hO_8
  clear c_8_2 c_8_3 l_8_1
  obtain ⟨af, capf, hvf, p1f, p2f, hcf⟩ := intsR_open hU_8
  subst hvf
  obtain ⟨bf, of, rfl, hcsf⟩ := hcf (by simp)
  have cf0 := hcsf 0 (by simp)
  have cf1 := hcsf 1 (by simp)
  simp at cf0 cf1
  unfold maxLen at p2f
  clear hcf hcsf hU_8
  go_wp2_with fail
  clear cf0 cf1
  refine (local_yes _ L ah at_ w7 hL_8 F.out A.out QZ.out).mono ?_; rintro e w9 ⟨rfl, hb9⟩
  rw [← ZL.out]
  have he_10 := he_8.below hb9
  have hL_10 := hL_8.below hb9
  have c_10_0 := (hb9.cell (p := ⟨w.heap.size, 0, none⟩) l_8_0).trans c_8_0
  have c_10_1 := (hb9.cell (p := ⟨w.heap.size, 1, none⟩) l_8_0).trans c_8_1
  have l_10_0 : w.heap.size < w9.heap.size := Nat.lt_of_lt_of_le l_8_0 hb9.size
  have z_10 : Below w.heap.size w w9 := z_8.trans (hb9.mono z_8.size)
  clear he_8 hL_8 c_8_0 c_8_1 l_8_0 z_8 hb9
  go_wp2_with fail
  refine (twice_yes _ L ah zl w9 hL_10 F.out Q.out).mono ?_; rintro e w11 ⟨u11, rfl, hu11, hb11⟩
  have he_12 := he_10.below hb11
  have hL_12 := hL_10.below hb11
  have c_12_0 := (hb11.cell (p := ⟨w.heap.size, 0, none⟩) l_10_0).trans c_10_0
  have c_12_1 := (hb11.cell (p := ⟨w.heap.size, 1, none⟩) l_10_0).trans c_10_1
  have l_12_0 : w.heap.size < w11.heap.size := Nat.lt_of_lt_of_le l_10_0 hb11.size
  have z_12 : Below w.heap.size w w11 := z_10.trans (hb11.mono z_10.size)
  clear he_10 hL_10 c_10_0 c_10_1 l_10_0 z_10 hb11
  go_wp2_with fail
  refine (rin_any _ _ at_ w11 hu11).mono ?_; rintro e w' ⟨rfl, rfl⟩
  rw [ZL.out, IN.out]
  clear hu11
  go_wp2_with fail
  refine (twice_no _ L ah t 1 w11 hL_12 (by omega) (.inr ⟨F.out, T.out, rfl⟩)).mono ?_; rintro e w13 ⟨rfl, hb13⟩
  have he_14 := he_12.below hb13
  have hL_14 := hL_12.below hb13
  have c_14_0 := (hb13.cell (p := ⟨w.heap.size, 0, none⟩) l_12_0).trans c_12_0
  have c_14_1 := (hb13.cell (p := ⟨w.heap.size, 1, none⟩) l_12_0).trans c_12_1
  have l_14_0 : w.heap.size < w13.heap.size := Nat.lt_of_lt_of_le l_12_0 hb13.size
  have z_14 : Below w.heap.size w w13 := z_12.trans (hb13.mono z_12.size)
  clear he_12 hL_12 c_12_0 c_12_1 l_12_0 z_12 hb13
  go_wp2
  go_ret
  exact ⟨rfl, z_14⟩
set_option maxRecDepth 100000 in
set_option maxHeartbeats 8000000 in
theorem zoneBack_ok_good (v : Value) (L : List (Int × Int)) (ah at_ t : Int) (w : World) (he : ErrT w) (hL : PairsR w v L) (F0 : zfault ah L = 0) (A0 : timeB at_ = true) (Q0 : timeB (at_ + zoneOf ah L at_) = true) (T0 : timeB t = true) :
    Calls Tryd.prog 12 #[.agg #[.int .i64 ah, v], .int .i64 at_, .int .i64 t] w fun e w' => e = .returned (.bool true) ∧ Below w.heap.size w w' := by
  have F := Lib.hid F0; clear F0
  have A := Lib.hid A0; clear A0
  have IN := Lib.hid (here (ah := ah) (L := L) A.out)
  obtain ⟨zl, hzl⟩ : ∃ zl, zl = at_ + zoneOf ah L at_ := ⟨_, rfl⟩
  have ZL := Lib.hid hzl
  have QZ := Lib.hid Q0
  have Q := Lib.hid (show timeB zl = true by rw [hzl]; exact Q0)
  clear hzl Q0
  have T := Lib.hid T0; clear T0
  have hL0 := hL
  obtain ⟨a, cap, rfl, _, _, _⟩ := hL0
  go_enter Tryd.func12, Tryd.ntmps12
  go_wp2_with fail
  obtain ⟨w1, hq1⟩ : ∃ x, x = ((w.alloc (.cells #[.int .i64 ah, .slice a L.length cap] 100)).alloc (.cells #[.int .i64 10000, .int .i64 120, .int .i64 20000, .int .i64 60] 110)).alloc (.cells #[.int .i64 60, .slice (some ⟨w.heap.size + 1, 0, none⟩) 2 2] 100) := ⟨_, rfl⟩
  rw [← hq1]
  have hb1 : Below w.heap.size w w1 := by rw [hq1]; exact (((Below.refl _ _).alloc (Nat.le_refl _) _).alloc (by simp) _).alloc (by simp; omega) _
  have r_0 : w1.cell? ⟨w.heap.size, 0, none⟩ = some (.int .i64 ah) := by rw [hq1]; exact old_cell (old_cell (new_cell _ _ _ 0 (w.heap.size) _ (by simp) rfl) _) _
  have r_1 : w1.cell? ⟨w.heap.size, 1, none⟩ = some (.slice a L.length cap) := by rw [hq1]; exact old_cell (old_cell (new_cell _ _ _ 1 (w.heap.size) _ (by simp) rfl) _) _
  have r_l : w.heap.size < w1.heap.size := by rw [hq1]; simp only [World.size_alloc]; omega
  have s_0 : w1.cell? ⟨w.heap.size + 1, 0, none⟩ = some (.int .i64 10000) := by rw [hq1]; exact old_cell (new_cell _ _ _ 0 (w.heap.size + 1) _ (by simp) rfl) _
  have s_1 : w1.cell? ⟨w.heap.size + 1, 1, none⟩ = some (.int .i64 120) := by rw [hq1]; exact old_cell (new_cell _ _ _ 1 (w.heap.size + 1) _ (by simp) rfl) _
  have s_2 : w1.cell? ⟨w.heap.size + 1, 2, none⟩ = some (.int .i64 20000) := by rw [hq1]; exact old_cell (new_cell _ _ _ 2 (w.heap.size + 1) _ (by simp) rfl) _
  have s_3 : w1.cell? ⟨w.heap.size + 1, 3, none⟩ = some (.int .i64 60) := by rw [hq1]; exact old_cell (new_cell _ _ _ 3 (w.heap.size + 1) _ (by simp) rfl) _
  have s_l : w.heap.size + 1 < w1.heap.size := by rw [hq1]; simp only [World.size_alloc]; omega
  have t_0 : w1.cell? ⟨w.heap.size + 1 + 1, 0, none⟩ = some (.int .i64 60) := by rw [hq1]; exact new_cell _ _ _ 0 (w.heap.size + 1 + 1) _ (by simp) rfl
  have t_1 : w1.cell? ⟨w.heap.size + 1 + 1, 1, none⟩ = some (.slice (some ⟨w.heap.size + 1, 0, none⟩) 2 2) := by rw [hq1]; exact new_cell _ _ _ 1 (w.heap.size + 1 + 1) _ (by simp) rfl
  have t_l : w.heap.size + 1 + 1 < w1.heap.size := by rw [hq1]; simp only [World.size_alloc]; omega
  clear hq1
  have he_2 := he.below hb1
  have hL_2 := hL.below hb1
  have z_2 : Below w.heap.size w w1 := hb1
  clear he hL hb1
  have hO_0 : PairsR w1 (.slice (some ⟨w.heap.size + 1, 0, none⟩) 2 2) oneL := pairsR_mk oneL rfl (by decide) (by decide) (fun i hi => by match i, hi with | 0, _ => exact ⟨s_0, s_1⟩ | 1, _ => exact ⟨s_2, s_3⟩ | i + 2, hi => exact absurd hi (by simp [oneL]))
  clear s_0 s_1 s_2 s_3 s_l
  refine (twice_yes _ oneL 60 20100 w1 hO_0 one_right (by decide)).mono ?_; rintro e w3 ⟨u3, rfl, hu3, hb3⟩
  rw [one_all] at hu3
  have he_4 := he_2.below hb3
  have hL_4 := hL_2.below hb3
  have hO_4 := hO_0.below hb3
  have c_4_0 := (hb3.cell (p := ⟨w.heap.size, 0, none⟩) r_l).trans r_0
  have c_4_1 := (hb3.cell (p := ⟨w.heap.size, 1, none⟩) r_l).trans r_1
  have c_4_2 := (hb3.cell (p := ⟨w.heap.size + 1 + 1, 0, none⟩) t_l).trans t_0
  have c_4_3 := (hb3.cell (p := ⟨w.heap.size + 1 + 1, 1, none⟩) t_l).trans t_1
  have l_4_0 : w.heap.size < w3.heap.size := Nat.lt_of_lt_of_le r_l hb3.size
  have l_4_1 : w.heap.size + 1 + 1 < w3.heap.size := Nat.lt_of_lt_of_le t_l hb3.size
  have z_4 : Below w.heap.size w w3 := z_2.trans (hb3.mono z_2.size)
  clear he_2 hL_2 hO_0 r_0 r_1 t_0 t_1 r_l t_l z_2 hb3
  go_wp2_with fail
  refine (world_gap _ oneL 60 10090 w3 hO_4 one_right (by decide) one_none).mono ?_; rintro e w5 ⟨rfl, hb5⟩
  have he_6 := he_4.below hb5
  have hL_6 := hL_4.below hb5
  have hO_6 := hO_4.below hb5
  have hU_6 := hu3.below hb5
  have c_6_0 := (hb5.cell (p := ⟨w.heap.size, 0, none⟩) l_4_0).trans c_4_0
  have c_6_1 := (hb5.cell (p := ⟨w.heap.size, 1, none⟩) l_4_0).trans c_4_1
  have c_6_2 := (hb5.cell (p := ⟨w.heap.size + 1 + 1, 0, none⟩) l_4_1).trans c_4_2
  have c_6_3 := (hb5.cell (p := ⟨w.heap.size + 1 + 1, 1, none⟩) l_4_1).trans c_4_3
  have l_6_0 : w.heap.size < w5.heap.size := Nat.lt_of_lt_of_le l_4_0 hb5.size
  have l_6_1 : w.heap.size + 1 + 1 < w5.heap.size := Nat.lt_of_lt_of_le l_4_1 hb5.size
  have z_6 : Below w.heap.size w w5 := z_4.trans (hb5.mono z_4.size)
  clear he_4 hL_4 hO_4 hu3 c_4_0 c_4_1 c_4_2 c_4_3 l_4_0 l_4_1 z_4 hb5
  go_wp2_with fail
  refine ((error_no 8 8 w5 true he_6 (by decide) (by omega) (by omega))).mono ?_; rintro e w7 ⟨rfl, hb7⟩
  have he_8 := he_6.below hb7
  have hL_8 := hL_6.below hb7
  have hO_8 := hO_6.below hb7
  have hU_8 := hU_6.below hb7
  have c_8_0 := (hb7.cell (p := ⟨w.heap.size, 0, none⟩) l_6_0).trans c_6_0
  have c_8_1 := (hb7.cell (p := ⟨w.heap.size, 1, none⟩) l_6_0).trans c_6_1
  have c_8_2 := (hb7.cell (p := ⟨w.heap.size + 1 + 1, 0, none⟩) l_6_1).trans c_6_2
  have c_8_3 := (hb7.cell (p := ⟨w.heap.size + 1 + 1, 1, none⟩) l_6_1).trans c_6_3
  have l_8_0 : w.heap.size < w7.heap.size := Nat.lt_of_lt_of_le l_6_0 hb7.size
  have l_8_1 : w.heap.size + 1 + 1 < w7.heap.size := Nat.lt_of_lt_of_le l_6_1 hb7.size
  have z_8 : Below w.heap.size w w7 := z_6.trans (hb7.mono z_6.size)
  clear he_6 hL_6 hO_6 hU_6 c_6_0 c_6_1 c_6_2 c_6_3 l_6_0 l_6_1 z_6 hb7
  clear hO_8
  clear c_8_2 c_8_3 l_8_1
  obtain ⟨af, capf, hvf, p1f, p2f, hcf⟩ := intsR_open hU_8
  subst hvf
  obtain ⟨bf, of, rfl, hcsf⟩ := hcf (by simp)
  have cf0 := hcsf 0 (by simp)
  have cf1 := hcsf 1 (by simp)
  simp at cf0 cf1
  unfold maxLen at p2f
  clear hcf hcsf hU_8
  go_wp2_with fail
  clear cf0 cf1
  refine (local_yes _ L ah at_ w7 hL_8 F.out A.out QZ.out).mono ?_; rintro e w9 ⟨rfl, hb9⟩
  rw [← ZL.out]
  have he_10 := he_8.below hb9
  have hL_10 := hL_8.below hb9
  have c_10_0 := (hb9.cell (p := ⟨w.heap.size, 0, none⟩) l_8_0).trans c_8_0
  have c_10_1 := (hb9.cell (p := ⟨w.heap.size, 1, none⟩) l_8_0).trans c_8_1
  have l_10_0 : w.heap.size < w9.heap.size := Nat.lt_of_lt_of_le l_8_0 hb9.size
  have z_10 : Below w.heap.size w w9 := z_8.trans (hb9.mono z_8.size)
  clear he_8 hL_8 c_8_0 c_8_1 l_8_0 z_8 hb9
  go_wp2_with fail
  refine (twice_yes _ L ah zl w9 hL_10 F.out Q.out).mono ?_; rintro e w11 ⟨u11, rfl, hu11, hb11⟩
  have he_12 := he_10.below hb11
  have hL_12 := hL_10.below hb11
  have c_12_0 := (hb11.cell (p := ⟨w.heap.size, 0, none⟩) l_10_0).trans c_10_0
  have c_12_1 := (hb11.cell (p := ⟨w.heap.size, 1, none⟩) l_10_0).trans c_10_1
  have l_12_0 : w.heap.size < w11.heap.size := Nat.lt_of_lt_of_le l_10_0 hb11.size
  have z_12 : Below w.heap.size w w11 := z_10.trans (hb11.mono z_10.size)
  clear he_10 hL_10 c_10_0 c_10_1 l_10_0 z_10 hb11
  go_wp2_with fail
  refine (rin_any _ _ at_ w11 hu11).mono ?_; rintro e w' ⟨rfl, rfl⟩
  rw [ZL.out, IN.out]
  clear hu11
  go_wp2_with fail
  refine (twice_yes _ L ah t w11 hL_12 F.out T.out).mono ?_; rintro e w13 ⟨u13, rfl, hu13, hb13⟩
  have he_14 := he_12.below hb13
  have hL_14 := hL_12.below hb13
  have c_14_0 := (hb13.cell (p := ⟨w.heap.size, 0, none⟩) l_12_0).trans c_12_0
  have c_14_1 := (hb13.cell (p := ⟨w.heap.size, 1, none⟩) l_12_0).trans c_12_1
  have l_14_0 : w.heap.size < w13.heap.size := Nat.lt_of_lt_of_le l_12_0 hb13.size
  have z_14 : Below w.heap.size w w13 := z_12.trans (hb13.mono z_12.size)
  clear he_12 hL_12 c_12_0 c_12_1 l_12_0 z_12 hb13
  obtain ⟨M, hMq⟩ : ∃ M, M = zoneAll ah L t := ⟨_, rfl⟩
  have MQ := Lib.hid hMq
  rw [← hMq] at hu13
  clear hMq
  obtain ⟨am, capm, rfl, p1, p2, hcm⟩ := intsR_open hu13
  have CM := Lib.hid hcm; clear hcm
  unfold maxLen at p2
  have z0 := c_14_0
  have z1 := c_14_1
  have HLX := Lib.hid hL_14
  have BX := Lib.hid z_14
  have EX := Lib.hid he_14
  have hlz := l_14_0
  clear c_14_0 c_14_1 l_14_0 hL_14 he_14 z_14
  obtain ⟨wo, rfl⟩ : ∃ wo : World, wo = w13 := ⟨_, rfl⟩
  go_wp2
  go_loopg [19] M.length (fun g iv wr => ∃ k : Nat, k ≤ M.length ∧ iv = .int .i64 k ∧ g = M.length - k ∧ Below wo.heap.size wo wr)
  case atStart => exact ⟨0, Nat.zero_le _, rfl, rfl, Below.refl _ _⟩
  case round =>
    obtain ⟨k, hk, rfl, hg, hb⟩ := hrel
    have G := Lib.hid hg; clear hg
    have y0 := cell_below hb z0
    have y1 := cell_below hb z1
    have hlz2 := Nat.lt_of_lt_of_le hlz hb.size
    have B := Lib.hid hb
    by_cases hlt : k < M.length
    · obtain ⟨bm, om, rfl, hcs⟩ := CM.out (by omega)
      have cx := cell_below hb (hcs k hlt)
      have CS := Lib.hid hcs
      have hth : timeB M[k] = true ∧ M[k] + zoneOf ah L M[k] = t := by have := MQ.out; subst this; exact there hlt
      obtain ⟨x, hx⟩ : ∃ x, x = M[k] := ⟨_, rfl⟩
      rw [← hx] at cx hth
      obtain ⟨h5, h6⟩ := hth
      have TX := Lib.hid h5; have TE := Lib.hid h6
      have TL := Lib.hid (show timeB (x + zoneOf ah L x) = true by rw [h6]; exact T.out)
      have X := Lib.hid hx
      have hLr := HLX.out.below hb
      have LR := Lib.hid hLr
      clear hcs h5 h6 hx hb hLr
      have i1 : (0 : Int) ≤ (k : Int) := Int.natCast_nonneg _
      have i2 : (k : Int) < (M.length : Int) := by omega
      have hbm : bm < wr.heap.size := World.block_lt_of_cell? wr _ cx
      by_cases k0 : 0 < k
      · have hkm : k - 1 < M.length := by omega
        have dx := cell_below B.out (CS.out (k - 1) hkm)
        obtain ⟨p, hp⟩ : ∃ p, p = M[k - 1] := ⟨_, rfl⟩
        rw [← hp] at dx
        have hpx : p < x := by
          have h7 := List.pairwise_iff_getElem.1 (zoneAll_rises ah L t) (k - 1) k (by rw [← MQ.out]; exact hkm) (by rw [← MQ.out]; exact hlt) (by omega)
          rw [hp, X.out]
          have := MQ.out
          subst this
          exact h7
        have hd2 : decide (x ≤ p) = false := by simp; omega
        have hd : decide ((0 : Int) < (k : Int)) = true := by simpa using k0
        clear hp
        go_wp2_with fail
        go_region_held3 (fun w' => w'.cell? ⟨w.heap.size, 0, none⟩ = some (.int .i64 ah) ∧ w'.cell? ⟨w.heap.size, 1, none⟩ = some (.slice a L.length cap) ∧ w'.cell? ⟨bm, om + k, none⟩ = some (.int .i64 x) ∧ PairsR w' (.slice a L.length cap) L)
          (first | (refine ⟨?_, ?_, ?_, ?_⟩ <;> (first | assumption | exact LR.out)) | (go_split_ands; refine ⟨?_, ?_, ?_, ?_⟩ <;> (first | assumption | exact cell_below hb4 (by assumption) | exact PairsR.below (by assumption) hb4)))
          ((go_at_call 64; refine (local_yes _ L ah x _ (by go_split_ands; assumption) F.out TX.out TL.out).mono ?_; rintro e w4 ⟨rfl, hb4⟩))
        rw [TE.out]
        have dx2 := cell_below hb4 dx
        have cx2 := cell_below hb4 cx
        have B4 := Lib.hid ((B.out.drew).trans (hb4.mono B.out.size))
        clear hb4
        go_wp2
        have s1 : IntKind.i64.wrap ((k : Int) - 1) = (k : Int) - 1 := IntWalk.i64_in _ (by omega)
        have s2 : (0 : Int) ≤ (k : Int) - 1 := by omega
        have s3 : (1 : Int) ≤ (k : Int) := by omega
        have s4 : ((k : Int) - 1).toNat = k - 1 := by omega
        have s5 : (k : Int) - 1 < (M.length : Int) := by omega
        go_quiet (fail)
        clear s1 s2 s3 s4 s5
        go_wp2
        go_roundg (M.length - (k + 1))
        case measure => rw [G.out]; omega
        case rel => exact ⟨k + 1, by omega, by go_num, rfl, below_drewN B4.out _⟩
      · have hd : decide ((0 : Int) < (k : Int)) = false := by simp; omega
        go_wp2_with fail
        go_region_held3 (fun w' => w'.cell? ⟨w.heap.size, 0, none⟩ = some (.int .i64 ah) ∧ w'.cell? ⟨w.heap.size, 1, none⟩ = some (.slice a L.length cap) ∧ w'.cell? ⟨bm, om + k, none⟩ = some (.int .i64 x) ∧ PairsR w' (.slice a L.length cap) L)
          (first | (refine ⟨?_, ?_, ?_, ?_⟩ <;> (first | assumption | exact LR.out)) | (go_split_ands; refine ⟨?_, ?_, ?_, ?_⟩ <;> (first | assumption | exact cell_below hb4 (by assumption) | exact PairsR.below (by assumption) hb4)))
          ((go_at_call 64; refine (local_yes _ L ah x _ (by go_split_ands; assumption) F.out TX.out TL.out).mono ?_; rintro e w4 ⟨rfl, hb4⟩))
        rw [TE.out]
        have B4 := Lib.hid ((B.out.drew).trans (hb4.mono B.out.size))
        clear hb4
        go_wp2
        go_quiet (fail)
        go_wp2
        go_roundg (M.length - (k + 1))
        case measure => rw [G.out]; omega
        case rel => exact ⟨k + 1, by omega, by go_num, rfl, below_drewN B4.out _⟩
    · obtain rfl : k = M.length := by omega
      have BW := Lib.hid (BX.out.trans (hb.mono BX.out.size))
      have hLr := HLX.out.below hb
      have hEr := EX.out.below hb
      clear hb hlt
      cases hM2 : zoneAll ah L t with
      | nil =>
        have hM3 : M = [] := by rw [MQ.out, hM2]
        subst hM3
        have X := Lib.hid hM2; clear hM2
        go_wp2_with fail
        refine (world_gap _ L ah t _ hLr F.out T.out X.out).mono ?_; rintro e w5 ⟨rfl, hb5⟩
        have hE5 := hEr.below hb5
        have B5 := Lib.hid (BW.out.trans (hb5.mono BW.out.size))
        clear hb5 hEr hLr
        go_wp2_with fail
        refine (error_no 8 8 _ true hE5 (by simp) (by omega) (by omega)).mono ?_; rintro e w6 ⟨rfl, hb6⟩
        have B6 := Lib.hid (B5.out.trans (hb6.mono B5.out.size))
        clear hb6 hE5
        go_wp2
        go_ret
        exact ⟨rfl, B6.out⟩
      | cons x r =>
        have hM3 : M = x :: r := by rw [MQ.out, hM2]
        obtain ⟨bm, om, rfl, hcs⟩ := CM.out (by rw [hM3]; simp)
        have cx := cell_below B.out (hcs 0 (by rw [hM3]; simp))
        have hx0 : M[0]'(by rw [hM3]; simp) = x := by simp [hM3]
        rw [hx0] at cx
        simp only [Nat.add_zero] at cx
        have hnn : 0 < M.length := by rw [hM3]; simp
        have hn2 : ((M.length : Int) == 0) = false := by rw [beq_eq_false_iff_ne]; omega
        have hn3 : (0 : Int) < (M.length : Int) := by omega
        have X := Lib.hid hM2
        have ONE := Lib.hid (show L.length = 0 → M.length = 1 by
          intro h0
          have hL0 : L = [] := List.length_eq_zero_iff.1 h0
          subst hL0
          rw [hM3, alone hM2]; rfl)
        clear hM2 hM3 hx0 hcs
        by_cases hl0 : 0 < L.length
        · have hl1 : decide ((0 : Int) < (L.length : Int)) = true := decide_eq_true (by omega)
          go_wp2_with fail
          refine (world_yes _ L ah t x r _ hLr F.out T.out X.out).mono ?_; rintro e w5 ⟨rfl, hb5⟩
          have y0' := cell_below hb5 y0
          have y1' := cell_below hb5 y1
          have cx' := cell_below hb5 cx
          have B5 := Lib.hid (BW.out.trans (hb5.mono BW.out.size))
          clear hb5 hEr hLr
          go_wp2
          go_ret
          exact ⟨by simp, B5.out⟩
        · have hl1 : decide ((0 : Int) < (L.length : Int)) = false := decide_eq_false (by omega)
          have hm1 : ((M.length : Int) == 1) = true := by have := ONE.out (by omega); rw [beq_iff_eq]; omega
          go_wp2_with fail
          refine (world_yes _ L ah t x r _ hLr F.out T.out X.out).mono ?_; rintro e w5 ⟨rfl, hb5⟩
          have y0' := cell_below hb5 y0
          have y1' := cell_below hb5 y1
          have cx' := cell_below hb5 cx
          have B5 := Lib.hid (BW.out.trans (hb5.mono BW.out.size))
          clear hb5 hEr hLr
          go_wp2
          go_ret
          exact ⟨by simp, B5.out⟩
theorem zoneBack_top (ah : Int) (v : Value) (L : List (Int × Int)) (at_ t : Int) (w : World) (he : ErrT w) (_ : (Lit.int .i64 ah).wf = true) (hL : PairsR w v L) (_ : (Lit.int .i64 at_).wf = true) (_ : (Lit.int .i64 t).wf = true) :
    Calls Tryd.prog 12 #[.agg #[.int .i64 ah, v], .int .i64 at_, .int .i64 t] w fun e w' => e = .returned (.bool true) ∧ Below w.heap.size w w' := by
  by_cases F : zfault ah L = 0
  · by_cases A : timeB at_ = true ∧ timeB (at_ + zoneOf ah L at_) = true
    · cases T : timeB t
      · exact zoneBack_ok_bad v L ah at_ t w he hL F A.1 A.2 T
      · exact zoneBack_ok_good v L ah at_ t w he hL F A.1 A.2 T
    · have A' : timeB at_ = false ∨ timeB (at_ + zoneOf ah L at_) = false := by
        cases h1 : timeB at_
        · exact .inl rfl
        · cases h2 : timeB (at_ + zoneOf ah L at_)
          · exact .inr rfl
          · exact absurd ⟨h1, h2⟩ A
      cases T : timeB t
      · exact zoneBack_no_bad v L ah at_ t w he hL F A' T
      · exact zoneBack_no_good v L ah at_ t w he hL F A' T
  · exact zoneBack_fault v L ah at_ t w he hL _ rfl F

end Go.Proofs.YtdamncbgobjpdaaDoor

