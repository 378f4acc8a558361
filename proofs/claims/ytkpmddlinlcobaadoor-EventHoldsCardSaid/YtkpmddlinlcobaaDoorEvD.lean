/- slices.DeleteFunc at event.Of's closure, at a row that the call owns; its closure. -/
import Derived.Test.YtkpmddlinlcobaaDoorSeqE
import Derived.Laws.EntriesVeiled
import Derived.Test.YtkpmddlinlcobaaDoorShSort
import Derived.Test.YtkpmddlinlcobaaDoorSl
import Derived.Sort.OwnSortedInts
import Derived.Lib.OwnBridge
import Derived.Test.YtkpmddlinlcobaaDoorShDel
import Derived.Lib.SliceRun
namespace Go.Proofs.YtkpmddlinlcobaaDoor
open Go.RowKit Go.Shelf
set_option linter.unusedSimpArgs false
set_option linter.unusedVariables false

/-- those from one to another one. -/
def inR (a b : Int) (L : List Int) : List Int := L.filter fun t => decide (a ≤ t) && decide (t ≤ b)

theorem inR_append (a b : Int) (L K : List Int) : inR a b (L ++ K) = inR a b L ++ inR a b K := List.filter_append ..

theorem inR_yes {a b x : Int} (h1 : a ≤ x) (h2 : x ≤ b) : inR a b [x] = [x] := by simp [inR, h1, h2]

theorem inR_no {a b x : Int} (h : ¬ (a ≤ x ∧ x ≤ b)) : inR a b [x] = [] := by simp [inR]; omega

theorem KeepP.refl {B : Nat} {Pr : Nat → Prop} (W : World) : KeepP B Pr W W := ⟨Below.refl _ _, fun _ _ _ => rfl⟩

set_option maxRecDepth 100000 in
set_option maxHeartbeats 2000000 in
theorem keep_col (x a b : Int) (pf pt ob : Nat) (w0 : World) (Pr : Nat → Prop) (xs : List Int) (W : World) (h : Col w0 ob 22 3 Pr xs W) (cf : W.cell? ⟨pf, 0, none⟩ = some (.int .i64 a)) (ct : W.cell? ⟨pt, 0, none⟩ = some (.int .i64 b)) (hl : xs.length ≤ 4398046511104) :
    Calls Tryd.prog 23 #[.int .i64 x, .pointer (some ⟨pf, 0, none⟩), .pointer (some ⟨pt, 0, none⟩), .pointer (some ⟨ob, 0, none⟩)] W
      fun e W' => e = .returned (.tuple #[]) ∧ KeepP w0.heap.size Pr W W' ∧ Col w0 ob 22 3 Pr (xs ++ inR a b [x]) W' := by
  obtain ⟨i0, hi, hz0, hz1, hz2⟩ := info_parts intInfoS
  by_cases h1 : a ≤ x
  · by_cases h2 : x ≤ b
    · have E := Lib.hid (inR_yes h1 h2)
      have t1 : decide (a ≤ x) = true := decide_eq_true h1
      have t2 : decide (x ≤ b) = true := decide_eq_true h2
      obtain ⟨hb, v, hv, hrow, hno, hng⟩ := h
      have hc := hv.cell
      obtain ⟨va, vc, rfl⟩ : ∃ va vc, v = .slice va xs.length vc := by
        rcases hrow.2 with ⟨e1, e2⟩ | ⟨g, cap, cur, e1, _⟩
        · exact ⟨none, 0, by rw [e1, e2]⟩
        · exact ⟨_, cap, e1⟩
      have hWs := hb.1.size
      clear h1 h2
      go_enter Tryd.func23, Tryd.ntmps23
      go_wp2_with (at_builtin; refine wpList_append_own_at _ rfl _ _ 22 rfl w0.heap.size 3 i0 (.int .i64 0) 1 8 Tryd.underlying22 hi hz0 hz1 hz2 rfl (by decide) _ _ _ rfl (hrow.alloc _) ⟨W.heap.size, 0, none⟩ 1 1 [.int .i64 x] rfl rfl (cell_one_new _ _ _) (by simp [Value.oneCell']) (by unfold maxLen; omega) (by omega) (by rw [World.size_alloc]; omega) ?_; intro v' w2 hown' hgrow _ hat; obtain ⟨g', cap', rfl⟩ := ownsRow_succ hown'; obtain ⟨hv1, hv2, hr2, hk2, hb2⟩ := hv.appended (by decide) hrow hWs hb.2.1 hown' hgrow; have hc1 := hv1.cell; have hf1 := hv1.frozen)
      obtain ⟨k1, k2⟩ := Col.add hb hno hng hv1 hv2 hr2 hb2 hgrow hat
      exact bodyPost_end (v := .tuple #[]) (results_none rfl _ _ _) rfl ⟨rfl, k1, by rw [E.out]; exact k2⟩
    · have E := Lib.hid (inR_no (fun h : a ≤ x ∧ x ≤ b => h2 h.2))
      have t1 : decide (a ≤ x) = true := decide_eq_true h1
      have t2 : decide (x ≤ b) = false := decide_eq_false h2
      have H := Lib.hid h
      clear h1 h2 h
      go_enter Tryd.func23, Tryd.ntmps23
      go_wp2
      exact bodyPost_end (v := .tuple #[]) (results_none rfl _ _ _) rfl ⟨rfl, KeepP.refl _, by rw [E.out, List.append_nil]; exact H.out⟩
  · have E := Lib.hid (inR_no (fun h : a ≤ x ∧ x ≤ b => h1 h.1))
    have t1 : decide (a ≤ x) = false := decide_eq_false h1
    have H := Lib.hid h
    clear h1 h
    go_enter Tryd.func23, Tryd.ntmps23
    go_wp2
    exact bodyPost_end (v := .tuple #[]) (results_none rfl _ _ _) rfl ⟨rfl, KeepP.refl _, by rw [E.out, List.append_nil]; exact H.out⟩

end Go.Proofs.YtkpmddlinlcobaaDoor

namespace Go.Proofs.YtkpmddlinlcobaaDoor
open Go.RowKit Go.Sort Go.Lib

/-- the list in order. -/
def srt (xs : List Int) : List Int := xs.mergeSort fun x y => decide (x ≤ y)

theorem srt_len (xs : List Int) : (srt xs).length = xs.length := List.length_mergeSort xs

theorem sort_own {base : Nat} (v : Value) (xs : List Int) (w : World) (hown : w.ownsRow base 3 1 v xs.length (xs.map (Value.int .i64))) (hlen : xs.length < 4611686018427387904) :
    Calls Tryd.prog 25 #[v] w fun e w' => e = .returned (.tuple #[]) ∧ w'.ownsRow base 3 1 v xs.length ((srt xs).map (Value.int .i64)) ∧ w.grownBy w' v.ownBlock := by
  have hown0 := hown
  rcases hown.2 with ⟨rfl, h0⟩ | ⟨g, cap, cur, rfl, hb, hg, hn, hc, hs, ht⟩
  · have hx : xs = [] := List.length_eq_zero_iff.1 h0
    subst hx
    exact (Tryd.slices_Sort_int_none none 0 w).mono fun e w' ⟨he, hw⟩ => ⟨he, by subst hw; rw [show srt [] = [] by simp [srt]]; exact hown0, by subst hw; exact World.grownBy.refl _ _⟩
  · have hgl : g < w.heap.size := (Array.getElem?_eq_some_iff.1 hg).1
    have hH : Holds (Value.int .i64) w g 0 xs.toArray := holds_of_blockI hg (by simpa using ht)
    exact (Tryd.slices_Sort_int g 0 cap xs w hH hgl hlen).mono fun e w' ⟨he, n, os, hw⟩ => ⟨he, by subst hw; exact ownsRow_sortedI (ts := srt xs) (srt_len xs) hb hg hn hc hs, by subst hw; exact grownBy_sortedI _⟩

theorem compact_own {base : Nat} (v : Value) (xs : List Int) (w : World) (hown : w.ownsRow base 3 1 v xs.length (xs.map (Value.int .i64))) (hlen : xs.length ≤ 9223372036854775807) :
    Calls Tryd.prog 27 #[v] w fun e w' => ∃ u, e = .returned u ∧ w'.ownsRow base 3 1 u (compact xs).length ((compact xs).map (Value.int .i64)) ∧ w.grownBy w' v.ownBlock := by
  have hown0 := hown
  rcases hown.2 with ⟨rfl, h0⟩ | ⟨g, cap, cur, rfl, hb, hg, hn, hc, hs, ht⟩
  · have hx : xs = [] := List.length_eq_zero_iff.1 h0
    subst hx
    exact (Tryd.slices_Compact_int_empty none 0 w).mono fun e w' ⟨he, hw⟩ => ⟨_, he, by subst hw; exact hown0, by subst hw; exact World.grownBy.refl _ _⟩
  · have hH : Holds (Value.int .i64) w g 0 xs.toArray := holds_of_blockI hg (by simpa using ht)
    refine (Tryd.slices_Compact_int g 0 cap xs w hH hlen hn).mono fun e w' ⟨he, q, hw⟩ => ⟨_, he, ?_, ?_⟩
    · subst hw
      have h := ownsRow_putRow (q := q) (k := (compact xs).length) (ys := compact xs ++ List.replicate (xs.length - (compact xs).length) 0) hown0 (by have := compact_length_le xs; simp; omega) (compact_length_le xs)
      rw [List.take_left] at h
      exact h
    · subst hw
      have h := grownBy_sortedI (w := w) (g := g) (n := q) (os := #[]) (compact xs ++ List.replicate (xs.length - (compact xs).length) 0).toArray
      rw [grow_empty] at h
      exact h

end Go.Proofs.YtkpmddlinlcobaaDoor

namespace Go.Proofs.YtkpmddlinlcobaaDoor
open Go.RowKit Go.Sort Go.Lib Go.Shelf
set_option linter.unusedSimpArgs false
set_option linter.unusedVariables false

theorem scont_same (v : Value) (N : List Int) (x : Int) (w : World) (h : IntsR w v N) :
    Calls Tryd.prog 29 #[v, .int .i64 x] w fun e w' => e = .returned (.bool (inB N x)) ∧ w = w' := by
  obtain ⟨a, cap, rfl, k1, k2, hc⟩ := intsR_open h
  by_cases h0 : N.length = 0
  · have : N = [] := List.length_eq_zero_iff.1 h0
    subst this
    exact (Tryd.slices_Contains_int_empty a cap x w).mono fun e w' ⟨e1, e2⟩ => ⟨e1, e2.symm⟩
  · obtain ⟨b, off, rfl, hcs⟩ := hc (by omega)
    refine (Tryd.slices_Contains_int b off N.length cap N x w (Nat.le_refl _) (by unfold maxLen at k2; omega) (fun j hj => by rw [hcs j hj]; simp [hj])).mono ?_
    rintro e w' ⟨rfl, rfl⟩
    exact ⟨by rw [List.take_length, inB, List.contains_eq_mem], rfl⟩

theorem ofnot_any (x : Int) (eb : Nat) (vN : Value) (N : List Int) (W : World) (hc : W.cell? ⟨eb, 14, none⟩ = some vN) (hN : IntsR W vN N) :
    Calls Tryd.prog 28 #[.int .i64 x, .pointer (some ⟨eb, 0, none⟩)] W fun e w' => e = .returned (.bool (inB N x)) ∧ W = w' := by
  obtain ⟨a, cap, rfl, k1, k2, -⟩ := intsR_open hN
  obtain ⟨q, hq⟩ : ∃ q, q = inB N x := ⟨_, rfl⟩
  have Q := Lib.hid hq
  rw [← hq]
  have HN := Lib.hid hN
  clear hq hN
  go_enter Tryd.func28, Tryd.ntmps28
  go_wp2_with fail
  refine (scont_same _ N x _ HN.out).mono ?_; rintro e w1 ⟨rfl, rfl⟩
  rw [← Q.out]
  go_wp2
  go_ret
  exact ⟨rfl, rfl⟩

/-- those that are none of a list. -/
def notIn (N L : List Int) : List Int := L.filter fun t => !inB N t

theorem notIn_le (N L : List Int) : (notIn N L).length ≤ L.length := List.length_filter_le ..

set_option maxHeartbeats 1000000 in
theorem del_own {base : Nat} (v : Value) (xs : List Int) (eb : Nat) (vN : Value) (N : List Int) (w : World) (hown : w.ownsRow base 3 1 v xs.length (xs.map (Value.int .i64))) (hlen : xs.length ≤ 9223372036854775807) (hbase : base ≤ w.heap.size)
    (hK : ∀ W, Below base w W → W.cell? ⟨eb, 14, none⟩ = some vN ∧ IntsR W vN N) :
    Calls Tryd.prog 26 #[v, .func (.func 28) #[] #[.pointer (some ⟨eb, 0, none⟩)]] w fun e w' => ∃ u, e = .returned u ∧ w'.ownsRow base 3 1 u (notIn N xs).length ((notIn N xs).map (Value.int .i64)) ∧ w.grownBy w' v.ownBlock := by
  have hown0 := hown
  have gives : ∀ (W : World) (x : Int), Below base w W → FnGives Tryd.prog 28 #[.pointer (some ⟨eb, 0, none⟩)] #[.int .i64 x] (.bool (inB N x)) W := fun W x hb => by
    show Calls Tryd.prog 28 #[.int .i64 x, .pointer (some ⟨eb, 0, none⟩)] W _
    refine (ofnot_any x eb vN N W (hK W hb).1 (hK W hb).2).mono ?_
    rintro e w' ⟨rfl, rfl⟩
    exact ⟨rfl, 0, rfl⟩
  rcases hown.2 with ⟨rfl, h0⟩ | ⟨g, cap, cur, rfl, hb, hg, hn, hc, hs, ht⟩
  · have hx : xs = [] := List.length_eq_zero_iff.1 h0
    subst hx
    clear hown hK gives
    have HO := Lib.hid hown0
    clear hown0
    go_enter Tryd.func26, Tryd.ntmps26
    go_wp2_with fail
    refine (Tryd.slices_IndexFunc_empty (α := Int) none 0 _ w).mono ?_; rintro e w1 ⟨rfl, h1⟩
    subst h1
    go_wp2
    go_ret
    exact ⟨_, rfl, HO.out, World.grownBy.refl _ _⟩
  · have hH : Holds (Value.int .i64) w g 0 xs.toArray := holds_of_blockI hg (by simpa using ht)
    have eg : ∀ args w, (callFunc 28 args).run Tryd.prog w = .ok (.enter 28 args) w := enters_of Tryd.func28 (by kernel_rfl) rfl
    have h := Tryd.slices_DeleteFunc (α := Int) (Value.int .i64) (fun _ => rfl) (inB N) 28 #[.pointer (some ⟨eb, 0, none⟩)] eg 0 Tryd.zeroValue3 g 0 cap xs.toArray w
      (fun W x hb' => gives W x (hb'.mono hbase))
      (fun n os dk x _ => gives _ x ((Below.refl base w).grown (grownBy_sortedI dk) hbase (fun k e => by cases e; exact hb)))
      hH (by simpa using hlen) (by simpa using hn)
    have hsz : xs.toArray.size = xs.length := by simp
    rw [hsz] at h
    refine h.mono fun e w' ⟨he, q, hw⟩ => ⟨_, he, ?_, ?_⟩
    · subst hw
      have h2 := ownsRow_putRow (q := q) (k := (notIn N xs).length) (ys := notIn N xs ++ List.replicate (xs.length - (notIn N xs).length) 0) hown0 (by have := notIn_le N xs; simp; omega) (notIn_le N xs)
      rw [List.take_left] at h2
      exact h2
    · subst hw
      have h2 := grownBy_sortedI (w := w) (g := g) (n := q) (os := #[]) (notIn N xs ++ List.replicate (xs.length - (notIn N xs).length) 0).toArray
      rw [grow_empty] at h2
      exact h2

end Go.Proofs.YtkpmddlinlcobaaDoor
