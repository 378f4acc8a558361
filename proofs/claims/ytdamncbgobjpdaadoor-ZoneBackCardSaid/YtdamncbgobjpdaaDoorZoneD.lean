/- Contracts of zone.Twice and zone.World, each way. -/
import Derived.Test.YtdamncbgobjpdaaDoorZoneC
namespace Go.Proofs.YtdamncbgobjpdaaDoor
open Go.RowKit

theorem twice_yes (v : Value) (L : List (Int × Int)) (ah t : Int) (w : World) (hL : PairsR w v L) (h1 : zfault ah L = 0) (h2 : timeB t = true) :
    Calls Tryd.prog 66 #[.agg #[.int .i64 ah, v], .int .i64 t] w fun e w' => ∃ u, e = .returned (.tuple #[u, .nilIface]) ∧ IntsR w' u (zoneAll ah L t) ∧ Below w.heap.size w w' := by
  have hL0 := hL
  obtain ⟨a, cap, rfl, _, _, _⟩ := hL0
  have F := Lib.hid h1; clear h1
  have hb0 : Below w.heap.size w (w.alloc (.cells #[.int .i64 ah, .slice a L.length cap] 100)) := (Below.refl _ _).alloc (Nat.le_refl _) _
  obtain ⟨t1, t2⟩ := timeB_yes h2
  have T := Lib.hid h2; clear h2
  go_enter Tryd.func66, Tryd.ntmps66
  go_wp2_with fail
  refine (zcheck_any _ L ah _ (hL.below hb0)).mono ?_; rintro e w1 ⟨rfl, hb1⟩
  rw [F.out, errV_0]
  have hb01 := hb0.trans (hb1.mono (by simp))
  have c0 := hb1.cell (p := ⟨w.heap.size, 0, none⟩) (by simp)
  have c1 := hb1.cell (p := ⟨w.heap.size, 1, none⟩) (by simp)
  simp at c0 c1
  go_wp2_with (first | (go_at_call 68; refine (valid_yes _ _ T.out).mono ?_; rintro e w' ⟨rfl, rfl⟩))
  refine (zall_any _ L ah t _ (hL.below hb01) F.out (by omega) t2).mono ?_; rintro e w2 ⟨u, rfl, hu, hb2⟩
  have U := Lib.hid (intsR_of_owns hu); clear hu
  go_wp2
  go_ret2
  exact ⟨u, rfl, U.out, hb01.trans (hb2.mono hb01.size)⟩

theorem twice_no (v : Value) (L : List (Int × Int)) (ah t c : Int) (w : World) (hL : PairsR w v L) (hc : c ≠ 0) (h : zfault ah L = c ∨ (zfault ah L = 0 ∧ timeB t = false ∧ c = 1)) :
    Calls Tryd.prog 66 #[.agg #[.int .i64 ah, v], .int .i64 t] w fun e w' => e = .returned (.tuple #[.slice none 0 0, .iface 114 (.int .i64 c)]) ∧ Below w.heap.size w w' := by
  have hL0 := hL
  obtain ⟨a, cap, rfl, _, _, _⟩ := hL0
  have hb0 : Below w.heap.size w (w.alloc (.cells #[.int .i64 ah, .slice a L.length cap] 100)) := (Below.refl _ _).alloc (Nat.le_refl _) _
  rcases h with h | ⟨h, ht, rfl⟩
  · have F := Lib.hid h; clear h
    have C := Lib.hid (show errV c = .iface 114 (.int .i64 c) by rw [errV, if_neg hc])
    go_enter Tryd.func66, Tryd.ntmps66
    go_wp2_with fail
    refine (zcheck_any _ L ah _ (hL.below hb0)).mono ?_; rintro e w1 ⟨rfl, hb1⟩
    rw [F.out, C.out]
    have hb01 := hb0.trans (hb1.mono (by simp))
    clear hc
    go_wp2
    go_ret2
    exact ⟨rfl, hb01⟩
  · have F := Lib.hid h; clear h
    have T := Lib.hid ht; clear ht hc
    go_enter Tryd.func66, Tryd.ntmps66
    go_wp2_with fail
    refine (zcheck_any _ L ah _ (hL.below hb0)).mono ?_; rintro e w1 ⟨rfl, hb1⟩
    rw [F.out, errV_0]
    have hb01 := hb0.trans (hb1.mono (by simp))
    go_wp2_with (first | (go_at_call 68; refine (valid_no _ _ T.out).mono ?_; rintro e w' ⟨rfl, rfl⟩))
    go_ret2
    exact ⟨rfl, hb01⟩

theorem world_yes (v : Value) (L : List (Int × Int)) (ah t x : Int) (r : List Int) (w : World) (hL : PairsR w v L) (h1 : zfault ah L = 0) (h2 : timeB t = true) (hx : zoneAll ah L t = x :: r) :
    Calls Tryd.prog 67 #[.agg #[.int .i64 ah, v], .int .i64 t] w fun e w' => e = .returned (.tuple #[.int .i64 x, .nilIface]) ∧ Below w.heap.size w w' := by
  have hL0 := hL
  obtain ⟨a, cap, rfl, _, _, _⟩ := hL0
  have F := Lib.hid h1; have T := Lib.hid h2; have X := Lib.hid hx; clear h1 h2 hx
  have hb0 : Below w.heap.size w (w.alloc (.cells #[.int .i64 ah, .slice a L.length cap] 100)) := (Below.refl _ _).alloc (Nat.le_refl _) _
  go_enter Tryd.func67, Tryd.ntmps67
  go_wp2_with fail
  refine (twice_yes _ L ah t _ (hL.below hb0) F.out T.out).mono ?_; rintro e w1 ⟨u, rfl, hu, hb1⟩
  rw [X.out] at hu
  obtain ⟨a1, cap1, rfl, q1, q2, hcell⟩ := intsR_open hu
  obtain ⟨b, off, rfl, hcs⟩ := hcell (by simp)
  have c0 := hcs 0 (by simp)
  simp at c0
  have hb01 := hb0.trans (hb1.mono (by simp))
  have hr : (((x :: r).length : Int) == 0) = false := by first | (simp; done) | (simp; omega)
  have hr2 : (0 : Int) < ((x :: r).length : Int) := by first | (simp; done) | (simp; omega)
  obtain ⟨n, hn⟩ : ∃ n, n = (x :: r).length := ⟨_, rfl⟩
  rw [← hn] at hr hr2 q1 ⊢
  clear hn hu hcell hcs
  unfold maxLen at q2
  have hn0 : 0 < n := by omega
  go_wp2
  go_ret2
  exact ⟨rfl, hb01⟩

theorem world_gap (v : Value) (L : List (Int × Int)) (ah t : Int) (w : World) (hL : PairsR w v L) (h1 : zfault ah L = 0) (h2 : timeB t = true) (hx : zoneAll ah L t = []) :
    Calls Tryd.prog 67 #[.agg #[.int .i64 ah, v], .int .i64 t] w fun e w' => e = .returned (.tuple #[.int .i64 0, .iface 114 (.int .i64 8)]) ∧ Below w.heap.size w w' := by
  have hL0 := hL
  obtain ⟨a, cap, rfl, _, _, _⟩ := hL0
  have F := Lib.hid h1; have T := Lib.hid h2; have X := Lib.hid hx; clear h1 h2 hx
  have hb0 : Below w.heap.size w (w.alloc (.cells #[.int .i64 ah, .slice a L.length cap] 100)) := (Below.refl _ _).alloc (Nat.le_refl _) _
  go_enter Tryd.func67, Tryd.ntmps67
  go_wp2_with fail
  refine (twice_yes _ L ah t _ (hL.below hb0) F.out T.out).mono ?_; rintro e w1 ⟨u, rfl, hu, hb1⟩
  rw [X.out] at hu
  obtain ⟨a1, cap1, rfl, q1, q2, hcell⟩ := intsR_open hu
  have hb01 := hb0.trans (hb1.mono (by simp))
  clear hu hcell
  unfold maxLen at q2
  go_wp2
  go_ret2
  exact ⟨rfl, hb01⟩

theorem world_no (v : Value) (L : List (Int × Int)) (ah t c : Int) (w : World) (hL : PairsR w v L) (hc : c ≠ 0) (h : zfault ah L = c ∨ (zfault ah L = 0 ∧ timeB t = false ∧ c = 1)) :
    Calls Tryd.prog 67 #[.agg #[.int .i64 ah, v], .int .i64 t] w fun e w' => e = .returned (.tuple #[.int .i64 0, .iface 114 (.int .i64 c)]) ∧ Below w.heap.size w w' := by
  have hL0 := hL
  obtain ⟨a, cap, rfl, _, _, _⟩ := hL0
  have H := Lib.hid h; have C := Lib.hid hc; clear h hc
  have hb0 : Below w.heap.size w (w.alloc (.cells #[.int .i64 ah, .slice a L.length cap] 100)) := (Below.refl _ _).alloc (Nat.le_refl _) _
  go_enter Tryd.func67, Tryd.ntmps67
  go_wp2_with fail
  refine (twice_no _ L ah t c _ (hL.below hb0) C.out H.out).mono ?_; rintro e w1 ⟨rfl, hb1⟩
  have hb01 := hb0.trans (hb1.mono (by simp))
  go_wp2
  go_ret2
  exact ⟨rfl, hb01⟩

end Go.Proofs.YtdamncbgobjpdaaDoor
