/- Contracts of plain.Told and chimesame.Error: the number of an error that is nil or an api.Errno. -/
import Derived.Test.YtiihkdefhhdfnaaGreatDoorAs
namespace Go.Proofs.YtiihkdefhhdfnaaGreatDoor
open Go.RowKit

/-- The handle of the type error lies where errors lays it. -/
def ErrT (w : World) : Prop := w.cell? ⟨1, 0, none⟩ = some (.iface 99 (.agg #[.pointer (some ⟨8, 26, none⟩)]))

theorem ErrT.pos {w : World} (h : ErrT w) : 1 < w.heap.size := by
  unfold ErrT at h
  rcases Nat.lt_or_ge 1 w.heap.size with h0 | h0
  · exact h0
  · simp [World.cell?, Array.getElem?_eq_none h0] at h

theorem ErrT.below {w w' : World} (h : ErrT w) (hb : Below w.heap.size w w') : ErrT w' := (hb.cell (p := ⟨1, 0, none⟩) h.pos).trans h

theorem ErrT.alloc {w : World} (h : ErrT w) (o : Obj) : ErrT (w.alloc o) := h.below ((Below.refl _ _).alloc (Nat.le_refl _) _)

theorem told_nil (w : World) :
    Calls Tryz.prog 22 #[.nilIface] w fun e w' => e = .returned (.int .i64 0) ∧ Below w.heap.size w w' := by
  go_enter Tryz.func22, Tryz.ntmps22
  go_wp2
  go_ret
  exact ⟨rfl, by first | exact Below.refl _ _ | exact (Below.refl _ _).alloc (Nat.le_refl _) _⟩

set_option maxHeartbeats 1000000 in
theorem told_no (n : Int) (w : World) (hw : ErrT w) :
    Calls Tryz.prog 22 #[.iface 44 (.int .i64 n)] w fun e w' => e = .returned (.int .i64 n) ∧ Below w.heap.size w w' := by
  have hg := hw.alloc (.cells #[.int .i64 0] 44)
  have ht : (w.alloc (.cells #[.int .i64 0] 44)).cell? ⟨w.heap.size, 0, none⟩ = some (.int .i64 0) := by simp
  have hf : (w.alloc (.cells #[.int .i64 0] 44)).frozen? ⟨w.heap.size, 0, none⟩ = false := by simp
  go_enter Tryz.func22, Tryz.ntmps22
  go_wp2_with fail
  refine (as_hit n _ (.int .i64 0) _ hg ht hf).mono ?_; rintro e w' ⟨rfl, rfl⟩
  go_wp2
  go_ret
  exact ⟨rfl, by repeat (first | exact Below.refl _ _ | refine Below.setCell ?_ (by simp) _ | refine Below.alloc ?_ (by first | (simp; done) | (simp; omega)) _)⟩

theorem error_nil (x : Int) (w : World) (b : Bool) (h : ((0 : Int) == x) = b) :
    Calls Tryz.prog 6 #[.nilIface, .int .i64 x] w fun e w' => e = .returned (.bool b) ∧ Below w.heap.size w w' := by
  go_enter Tryz.func6, Tryz.ntmps6
  go_wp2_with (go_at_call 22; refine (told_nil _).mono ?_; rintro e w' ⟨rfl, hb⟩)
  go_ret
  exact ⟨rfl, by assumption⟩

theorem error_no (n x : Int) (w : World) (b : Bool) (hw : ErrT w) (h : (n == x) = b) (_ : 0 ≤ n) (_ : n ≤ 100) :
    Calls Tryz.prog 6 #[.iface 44 (.int .i64 n), .int .i64 x] w fun e w' => e = .returned (.bool b) ∧ Below w.heap.size w w' := by
  go_enter Tryz.func6, Tryz.ntmps6
  go_wp2_with (go_at_call 22; refine (told_no n _ hw).mono ?_; rintro e w' ⟨rfl, hb⟩)
  go_ret
  exact ⟨rfl, by assumption⟩

theorem error_any (c x : Int) (w : World) (hw : ErrT w) :
    Calls Tryz.prog 6 #[errV c, .int .i64 x] w fun e w' => e = .returned (.bool (c == x)) ∧ Below w.heap.size w w' := by
  by_cases h : c = 0
  · subst h
    exact error_nil x w _ rfl
  · rw [errV, if_neg h]
    go_enter Tryz.func6, Tryz.ntmps6
    go_wp2_with (go_at_call 22; refine (told_no c _ hw).mono ?_; rintro e w' ⟨rfl, hb⟩)
    go_ret
    exact ⟨rfl, by assumption⟩

theorem error_same (c : Int) (w : World) (hw : ErrT w) :
    Calls Tryz.prog 6 #[errV c, .int .i64 c] w fun e w' => e = .returned (.bool true) ∧ Below w.heap.size w w' := by
  refine (error_any c c w hw).mono ?_
  rintro e w' ⟨rfl, hb⟩
  exact ⟨by simp, hb⟩

end Go.Proofs.YtiihkdefhhdfnaaGreatDoor
