/- slices.DeleteFunc at event.Of's closure, at a row that the call owns; its closure. -/
import Derived.Test.YtdkcgggnkhbkkaaDoorShDel
import Derived.Test.YtdkcgggnkhbkkaaDoorSortOwn
import Derived.Test.YtdkcgggnkhbkkaaDoorEvL
import Derived.Lib.SliceRun
namespace Go.Proofs.YtdkcgggnkhbkkaaDoor
open Go.RowKit Go.Sort Go.Lib Go.Shelf
set_option linter.unusedSimpArgs false
set_option linter.unusedVariables false

theorem scont_same (v : Value) (N : List Int) (x : Int) (w : World) (h : IntsR w v N) :
    Calls Tryd.prog 138 #[v, .int .i64 x] w fun e w' => e = .returned (.bool (inB N x)) ∧ w = w' := by
  obtain ⟨a, cap, rfl, k1, k2, hc⟩ := intsR_open h
  by_cases h0 : N.length = 0
  · have : N = [] := List.length_eq_zero_iff.1 h0
    subst this
    exact (Tryd.slices_Contains_int_empty a cap x w).mono fun e w' ⟨e1, e2⟩ => ⟨e1, e2.symm⟩
  · obtain ⟨b, off, rfl, hcs⟩ := hc (by omega)
    refine (Tryd.slices_Contains_int b off N.length cap N x w (Nat.le_refl _) (by unfold maxLen at k2; omega) (fun j hj => by rw [hcs j hj]; simp [hj])).mono ?_
    rintro e w' ⟨rfl, rfl⟩
    exact ⟨by rw [List.take_length, inB, List.contains_eq_mem], rfl⟩

theorem ofnot_any (x : Int) (eb : Nat) (vN : Value) (N : List Int) (W : World) (hc : W.cell? ⟨eb, 14, none⟩ = some vN) (hN : IntsR W vN N) :
    Calls Tryd.prog 137 #[.int .i64 x, .pointer (some ⟨eb, 0, none⟩)] W fun e w' => e = .returned (.bool (inB N x)) ∧ W = w' := by
  obtain ⟨a, cap, rfl, k1, k2, -⟩ := intsR_open hN
  obtain ⟨q, hq⟩ : ∃ q, q = inB N x := ⟨_, rfl⟩
  have Q := Lib.hid hq
  rw [← hq]
  have HN := Lib.hid hN
  clear hq hN
  go_enter Tryd.func137, Tryd.ntmps137
  go_wp2_with fail
  refine (scont_same _ N x _ HN.out).mono ?_; rintro e w1 ⟨rfl, rfl⟩
  rw [← Q.out]
  go_wp2
  go_ret
  exact ⟨rfl, rfl⟩

/-- those that are none of a list. -/
def notIn (N L : List Int) : List Int := L.filter fun t => !inB N t

theorem notIn_le (N L : List Int) : (notIn N L).length ≤ L.length := List.length_filter_le ..

set_option maxHeartbeats 1000000 in
theorem del_own {base : Nat} (v : Value) (xs : List Int) (eb : Nat) (vN : Value) (N : List Int) (w : World) (hown : w.ownsRow base 3 1 v xs.length (xs.map (Value.int .i64))) (hlen : xs.length ≤ 9223372036854775807) (hbase : base ≤ w.heap.size)
    (hK : ∀ W, Below base w W → W.cell? ⟨eb, 14, none⟩ = some vN ∧ IntsR W vN N) :
    Calls Tryd.prog 135 #[v, .func (.func 137) #[] #[.pointer (some ⟨eb, 0, none⟩)]] w fun e w' => ∃ u, e = .returned u ∧ w'.ownsRow base 3 1 u (notIn N xs).length ((notIn N xs).map (Value.int .i64)) ∧ w.grownBy w' v.ownBlock := by
  have hown0 := hown
  have gives : ∀ (W : World) (x : Int), Below base w W → FnGives Tryd.prog 137 #[.pointer (some ⟨eb, 0, none⟩)] #[.int .i64 x] (.bool (inB N x)) W := fun W x hb => by
    show Calls Tryd.prog 137 #[.int .i64 x, .pointer (some ⟨eb, 0, none⟩)] W _
    refine (ofnot_any x eb vN N W (hK W hb).1 (hK W hb).2).mono ?_
    rintro e w' ⟨rfl, rfl⟩
    exact ⟨rfl, 0, rfl⟩
  rcases hown.2 with ⟨rfl, h0⟩ | ⟨g, cap, cur, rfl, hb, hg, hn, hc, hs, ht⟩
  · have hx : xs = [] := List.length_eq_zero_iff.1 h0
    subst hx
    clear hown hK gives
    have HO := Lib.hid hown0
    clear hown0
    go_enter Tryd.func135, Tryd.ntmps135
    go_wp2_with fail
    refine (Tryd.slices_IndexFunc_empty (α := Int) none 0 _ w).mono ?_; rintro e w1 ⟨rfl, h1⟩
    subst h1
    go_wp2
    go_ret
    exact ⟨_, rfl, HO.out, World.grownBy.refl _ _⟩
  · have hH : Holds (Value.int .i64) w g 0 xs.toArray := holds_of_blockI hg (by simpa using ht)
    have eg : ∀ args w, (callFunc 137 args).run Tryd.prog w = .ok (.enter 137 args) w := enters_of Tryd.func137 (by kernel_rfl) rfl
    have h := Tryd.slices_DeleteFunc (α := Int) (Value.int .i64) (fun _ => rfl) (inB N) 137 #[.pointer (some ⟨eb, 0, none⟩)] eg 0 Tryd.zeroValue3 g 0 cap xs.toArray w
      (fun W x hb' => gives W x (hb'.mono hbase))
      (fun n os dk x _ => gives _ x ((Below.refl base w).grown (grownBy_sortedI dk) hbase (fun k e => by cases e; exact hb)))
      hH (by simpa using hlen) (by simpa using hn)
    have hsz : xs.toArray.size = xs.length := by simp
    rw [hsz] at h
    refine h.mono fun e w' ⟨he, q, hw⟩ => ⟨_, he, ?_, ?_⟩
    · subst hw
      have h2 := ownsRow_putRow (q := q) (k := (notIn N xs).length) (ys := notIn N xs ++ List.replicate (xs.length - (notIn N xs).length) 0) hown0 (by have := notIn_le N xs; simp; omega) (notIn_le N xs)
      rw [List.take_left] at h2
      exact h2
    · subst hw
      have h2 := grownBy_sortedI (w := w) (g := g) (n := q) (os := #[]) (notIn N xs ++ List.replicate (xs.length - (notIn N xs).length) 0).toArray
      rw [grow_empty] at h2
      exact h2

end Go.Proofs.YtdkcgggnkhbkkaaDoor
