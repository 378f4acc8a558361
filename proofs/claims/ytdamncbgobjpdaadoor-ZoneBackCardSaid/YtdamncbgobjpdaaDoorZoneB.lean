/- Contracts of zone.Ahead, zone.Local. -/
import Derived.Test.YtdamncbgobjpdaaDoorZoneA
namespace Go.Proofs.YtdamncbgobjpdaaDoor
open Go.RowKit

theorem shF_may : ∀ (L : List (Int × Int)) (p : Option Int), shF p L = 0 → ∀ s ∈ L, timeB s.1 = true ∧ mayB s.2 = true
  | [], _, _, s, hs => by cases hs
  | x :: r, p, h, s, hs => by
    rw [shF] at h
    split at h
    · rename_i h1
      split at h
      · cases h
      · rcases List.mem_cons.1 hs with rfl | hs
        · exact h1
        · exact shF_may r _ h s hs
    · cases h

theorem zfault_0 {ah : Int} {L : List (Int × Int)} (h : zfault ah L = 0) : L.length ≤ 20 ∧ mayB ah = true ∧ shF none L = 0 := by
  rw [zfault] at h
  split at h
  · cases h
  · split at h
    · exact ⟨by omega, by assumption, h⟩
    · cases h

theorem may_bd {n : Int} (h : mayB n = true) : -900 ≤ n ∧ n ≤ 900 := by simpa [mayB] using h

theorem fold_bd (t : Int) : ∀ (L : List (Int × Int)) (n : Int), mayB n = true → (∀ s ∈ L, mayB s.2 = true) → mayB (L.foldl (fun n s => if s.1 ≤ t then s.2 else n) n) = true
  | [], n, h, _ => h
  | s :: r, n, h, hs => by
    rw [List.foldl_cons]
    refine fold_bd t r _ ?_ (fun x hx => hs x (List.mem_cons_of_mem _ hx))
    split
    · exact hs s List.mem_cons_self
    · exact h

theorem zoneOf_bd {ah : Int} {L : List (Int × Int)} (h : zfault ah L = 0) (t : Int) : -900 ≤ zoneOf ah L t ∧ zoneOf ah L t ≤ 900 := by
  obtain ⟨_, h1, h2⟩ := zfault_0 h
  exact may_bd (fold_bd t L ah h1 fun s hs => (shF_may L none h2 s hs).2)

theorem ahead_yes (v : Value) (L : List (Int × Int)) (ah t : Int) (w : World) (hL : PairsR w v L) (h1 : zfault ah L = 0) (h2 : timeB t = true) :
    Calls Tryd.prog 63 #[.agg #[.int .i64 ah, v], .int .i64 t] w fun e w' => e = .returned (.tuple #[.int .i64 (zoneOf ah L t), .nilIface]) ∧ Below w.heap.size w w' := by
  have hL0 := hL
  obtain ⟨a, cap, rfl, _, _, _⟩ := hL0
  have F := Lib.hid h1; clear h1
  go_enter Tryd.func63, Tryd.ntmps63
  go_wp2_with fail
  have hb0 : Below w.heap.size w (w.alloc (.cells #[.int .i64 ah, .slice a L.length cap] 100)) := (Below.refl _ _).alloc (Nat.le_refl _) _
  refine (zcheck_any _ L ah _ (hL.below hb0)).mono ?_; rintro e w1 ⟨rfl, hb1⟩
  rw [F.out, errV_0]
  have hb01 := hb0.trans (hb1.mono (by simp))
  have c0 := hb1.cell (p := ⟨w.heap.size, 0, none⟩) (by simp)
  have c1 := hb1.cell (p := ⟨w.heap.size, 1, none⟩) (by simp)
  simp at c0 c1
  go_wp2_with (first | (go_at_call 68; refine (valid_any _ _).mono ?_; rintro e w' ⟨rfl, rfl⟩))
  refine (zof_any _ L ah t _ (hL.below hb01)).mono ?_; rintro e w2 ⟨rfl, hb2⟩
  go_wp2
  go_ret2
  exact ⟨rfl, hb01.trans (hb2.mono hb01.size)⟩

theorem ahead_no (v : Value) (L : List (Int × Int)) (ah t c : Int) (w : World) (hL : PairsR w v L) (hc : c ≠ 0) (h : zfault ah L = c ∨ (zfault ah L = 0 ∧ timeB t = false ∧ c = 1)) :
    Calls Tryd.prog 63 #[.agg #[.int .i64 ah, v], .int .i64 t] w fun e w' => e = .returned (.tuple #[.int .i64 0, .iface 114 (.int .i64 c)]) ∧ Below w.heap.size w w' := by
  have hL0 := hL
  obtain ⟨a, cap, rfl, _, _, _⟩ := hL0
  have hb0 : Below w.heap.size w (w.alloc (.cells #[.int .i64 ah, .slice a L.length cap] 100)) := (Below.refl _ _).alloc (Nat.le_refl _) _
  rcases h with h | ⟨h, ht, rfl⟩
  · have F := Lib.hid h; clear h
    have C := Lib.hid (show errV c = .iface 114 (.int .i64 c) by rw [errV, if_neg hc])
    go_enter Tryd.func63, Tryd.ntmps63
    go_wp2_with fail
    refine (zcheck_any _ L ah _ (hL.below hb0)).mono ?_; rintro e w1 ⟨rfl, hb1⟩
    rw [F.out, C.out]
    have hb01 := hb0.trans (hb1.mono (by simp))
    go_wp2
    go_ret2
    exact ⟨rfl, hb01⟩
  · have F := Lib.hid h; clear h
    go_enter Tryd.func63, Tryd.ntmps63
    go_wp2_with fail
    refine (zcheck_any _ L ah _ (hL.below hb0)).mono ?_; rintro e w1 ⟨rfl, hb1⟩
    rw [F.out, errV_0]
    have hb01 := hb0.trans (hb1.mono (by simp))
    go_wp2_with (first | (go_at_call 68; refine (valid_any _ _).mono ?_; rintro e w' ⟨rfl, rfl⟩))
    go_ret2
    exact ⟨rfl, hb01⟩

/-- the fault of asking for a local time; 0: none. -/
def localE (ah : Int) (L : List (Int × Int)) (t : Int) : Int := if zfault ah L ≠ 0 then zfault ah L else if timeB t = true ∧ timeB (t + zoneOf ah L t) = true then 0 else 1

theorem local_yes (v : Value) (L : List (Int × Int)) (ah t : Int) (w : World) (hL : PairsR w v L) (h1 : zfault ah L = 0) (h2 : timeB t = true) (h3 : timeB (t + zoneOf ah L t) = true) :
    Calls Tryd.prog 64 #[.agg #[.int .i64 ah, v], .int .i64 t] w fun e w' => e = .returned (.tuple #[.int .i64 (t + zoneOf ah L t), .nilIface]) ∧ Below w.heap.size w w' := by
  have hL0 := hL
  obtain ⟨a, cap, rfl, _, _, _⟩ := hL0
  have hz := zoneOf_bd h1 t
  have F := Lib.hid h1; clear h1
  have hb0 : Below w.heap.size w (w.alloc (.cells #[.int .i64 ah, .slice a L.length cap] 100)) := (Below.refl _ _).alloc (Nat.le_refl _) _
  go_enter Tryd.func64, Tryd.ntmps64
  go_wp2_with fail
  refine (ahead_yes _ L ah t _ (hL.below hb0) F.out h2).mono ?_; rintro e w1 ⟨rfl, hb1⟩
  go_wp2_with fail
  refine (add_yes _ _ _ h2 (by omega) (by omega) h3).mono ?_; rintro e w' ⟨rfl, rfl⟩
  go_wp2
  go_ret2
  exact ⟨rfl, hb0.trans (hb1.mono (by simp))⟩

theorem local_no (v : Value) (L : List (Int × Int)) (ah t c : Int) (w : World) (hL : PairsR w v L) (hc : c ≠ 0) (h : localE ah L t = c) :
    Calls Tryd.prog 64 #[.agg #[.int .i64 ah, v], .int .i64 t] w fun e w' => e = .returned (.tuple #[.int .i64 0, .iface 114 (.int .i64 c)]) ∧ Below w.heap.size w w' := by
  have hL0 := hL
  obtain ⟨a, cap, rfl, _, _, _⟩ := hL0
  have hb0 : Below w.heap.size w (w.alloc (.cells #[.int .i64 ah, .slice a L.length cap] 100)) := (Below.refl _ _).alloc (Nat.le_refl _) _
  rw [localE] at h
  by_cases hz : zfault ah L = 0
  · rw [if_neg (by simpa using hz)] at h
    by_cases ht : timeB t = true
    · have h3 : timeB (t + zoneOf ah L t) = false := by
        cases h3 : timeB (t + zoneOf ah L t)
        · rfl
        · rw [if_pos ⟨ht, h3⟩] at h; exact absurd h.symm hc
      rw [if_neg (by rw [h3]; simp)] at h
      subst h
      have F := Lib.hid hz; clear hz
      go_enter Tryd.func64, Tryd.ntmps64
      go_wp2_with fail
      refine (ahead_yes _ L ah t _ (hL.below hb0) F.out ht).mono ?_; rintro e w1 ⟨rfl, hb1⟩
      go_wp2_with fail
      refine (add_no _ _ _ (.inr (.inr (.inr h3)))).mono ?_; rintro e w' ⟨rfl, rfl⟩
      go_wp2
      go_ret2
      exact ⟨rfl, hb0.trans (hb1.mono (by simp))⟩
    · have ht' : timeB t = false := by simpa using ht
      rw [if_neg (by rw [ht']; simp)] at h
      subst h
      have F := Lib.hid hz; clear hz ht
      go_enter Tryd.func64, Tryd.ntmps64
      go_wp2_with fail
      refine (ahead_no _ L ah t 1 _ (hL.below hb0) (by omega) (.inr ⟨F.out, ht', rfl⟩)).mono ?_; rintro e w1 ⟨rfl, hb1⟩
      go_wp2
      go_ret2
      exact ⟨rfl, hb0.trans (hb1.mono (by simp))⟩
  · rw [if_pos hz] at h
    have F := Lib.hid h; clear h hz
    go_enter Tryd.func64, Tryd.ntmps64
    go_wp2_with fail
    refine (ahead_no _ L ah t c _ (hL.below hb0) hc (.inl F.out)).mono ?_; rintro e w1 ⟨rfl, hb1⟩
    clear hc
    go_wp2
    go_ret2
    exact ⟨rfl, hb0.trans (hb1.mono (by simp))⟩

end Go.Proofs.YtdamncbgobjpdaaDoor
