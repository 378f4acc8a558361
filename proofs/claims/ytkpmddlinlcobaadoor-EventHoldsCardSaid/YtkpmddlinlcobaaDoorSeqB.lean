/- seq.Each: its closures' contracts. -/
import Derived.Test.YtkpmddlinlcobaaDoorSeqA
import Derived.Test.YtkpmddlinlcobaaDoorRange
import Derived.RangeFuncNested
import Derived.RangeFuncCalls
import Derived.RangeFuncBound
import Derived.Shelf.RegionOpen
import Derived.OwnWalkIn
import Derived.TacticsInMore
import Derived.LoopNIn
import Derived.LoopIn
namespace Go.Proofs.YtkpmddlinlcobaaDoor
open Go.RowKit Go.Shelf
set_option linter.unusedSimpArgs false
set_option linter.unusedVariables false
attribute [local go_sem] Oper.semAt_some

theorem yield_any {m : Nat} (m' : Nat) {P : Program} {l : Nat} {args : Array Value} {W : World} {R : Ending → World → Prop} (h : YieldAt Fence.wide m P l args W R) : YieldAt Fence.wide m' P l args W R := by
  obtain ⟨fn, tmps, assign, body, hy, h1, h2⟩ := h
  exact ⟨fn, tmps, assign, body, hy, h1, fun c cs _ => h2 c cs (fun d hd => by cases hd)⟩

theorem cell_block {w w' : World} {k i : Nat} (h : w'.heap[k]? = w.heap[k]?) : w'.cell? ⟨k, i, none⟩ = w.cell? ⟨k, i, none⟩ := by simp only [World.cell?, h]
theorem frozen_block {w w' : World} {k i : Nat} (h : w'.heap[k]? = w.heap[k]?) : w'.frozen? ⟨k, i, none⟩ = w.frozen? ⟨k, i, none⟩ := by simp only [World.frozen?, h]

/-- what 'tell' reads. -/
def TellAt (W : World) (r rb yb l j : Nat) (ti ct : Int) : Prop :=
  (W.cell? ⟨r, 0, none⟩ = some (.int .i64 j) ∧ W.frozen? ⟨r, 0, none⟩ = false) ∧ (W.cell? ⟨rb, 3, none⟩ = some (.int .i64 ti) ∧ W.cell? ⟨rb, 2, none⟩ = some (.int .i64 ct)) ∧ W.cell? ⟨yb, 0, none⟩ = some (.func (.yield l) #[] #[]) ∧ (rb ≠ r ∧ yb ≠ r) ∧ j ≤ 200000

theorem ok_cases {ti ct x : Int} {j : Nat} (h : (okT ti x && okC ct j) = true) : ((ti == 0) = true ∨ ((ti == 0) = false ∧ decide (x ≤ ti) = true)) ∧ ((ct == 0) = true ∨ ((ct == 0) = false ∧ decide ((j : Int) + 1 ≤ ct) = true)) := by
  unfold okT okC at h
  revert h
  cases (ti == 0) <;> cases decide (x ≤ ti) <;> cases (ct == 0) <;> cases decide ((j : Int) + 1 ≤ ct) <;> simp

theorem ok_no {ti ct x : Int} {j : Nat} (h : (okT ti x && okC ct j) = false) : ((ti == 0) = false ∧ decide (x ≤ ti) = false) ∨ (((ti == 0) = true ∨ ((ti == 0) = false ∧ decide (x ≤ ti) = true)) ∧ (ct == 0) = false ∧ decide ((j : Int) + 1 ≤ ct) = false) := by
  unfold okT okC at h
  revert h
  cases (ti == 0) <;> cases decide (x ≤ ti) <;> cases (ct == 0) <;> cases decide ((j : Int) + 1 ≤ ct) <;> simp

set_option maxRecDepth 100000 in
set_option maxHeartbeats 4000000 in
theorem tell_no (n : Nat) (x ti ct : Int) (r rb yb l j : Nat) (W : World) (hT : TellAt W r rb yb l j ti ct) (hk : (okT ti x && okC ct j) = false) :
    CallsIn Fence.wide n Tryd.prog 47 #[.int .i64 x, .pointer (some ⟨r, 0, none⟩), .pointer (some ⟨rb, 0, none⟩), .pointer (some ⟨yb, 0, none⟩)] W fun e W' => e = .returned (.bool false) ∧ W.setCell ⟨r, 0, none⟩ (.int .i64 ((j : Int) + 1)) = W' := by
  obtain ⟨⟨c0, cf⟩, ⟨c3, c2⟩, cy, ⟨n1, n2⟩, hj⟩ := hT
  rcases ok_no hk with ⟨b1, b2⟩ | ⟨b1 | ⟨b1, b2⟩, b3, b4⟩
  · clear hk
    refine callsIn_of_wp Tryd.func47 rfl trivial ?_ rfl
    simp only [Tryd.ntmps47, List.size_toArray, List.length_cons, List.length_nil, Nat.reduceAdd, Nat.reduceSub, Array.replicate_succ, Array.replicate_zero, List.push_toArray, List.append_toArray, List.nil_append, List.cons_append]
    gi_wp2
    refine ⟨fun _ h => (by cases h), ?_⟩
    gi_wp2
    go_ret
    exact ⟨rfl, rfl⟩
  · clear hk
    refine callsIn_of_wp Tryd.func47 rfl trivial ?_ rfl
    simp only [Tryd.ntmps47, List.size_toArray, List.length_cons, List.length_nil, Nat.reduceAdd, Nat.reduceSub, Array.replicate_succ, Array.replicate_zero, List.push_toArray, List.append_toArray, List.nil_append, List.cons_append]
    gi_wp2
    refine ⟨fun _ h => (by cases h), ?_⟩
    gi_wp2
    go_ret
    exact ⟨rfl, rfl⟩
  · clear hk
    refine callsIn_of_wp Tryd.func47 rfl trivial ?_ rfl
    simp only [Tryd.ntmps47, List.size_toArray, List.length_cons, List.length_nil, Nat.reduceAdd, Nat.reduceSub, Array.replicate_succ, Array.replicate_zero, List.push_toArray, List.append_toArray, List.nil_append, List.cons_append]
    gi_wp2
    refine ⟨fun _ h => (by cases h), ?_⟩
    gi_wp2
    go_ret
    exact ⟨rfl, rfl⟩

set_option maxRecDepth 100000 in
set_option maxHeartbeats 4000000 in
theorem tell_yes (n : Nat) (x ti ct : Int) (r rb yb l j : Nat) (W : World) (hT : TellAt W r rb yb l j ti ct) (hk : (okT ti x && okC ct j) = true) (R : Bool → World → Prop)
    (hY : YieldAt Fence.wide (n - 1) Tryd.prog l #[.int .i64 x] (W.setCell ⟨r, 0, none⟩ (.int .i64 ((j : Int) + 1))) fun e W' => ∃ b, e = .returned (.bool b) ∧ R b W') :
    CallsIn Fence.wide n Tryd.prog 47 #[.int .i64 x, .pointer (some ⟨r, 0, none⟩), .pointer (some ⟨rb, 0, none⟩), .pointer (some ⟨yb, 0, none⟩)] W fun e W' => ∃ b, e = .returned (.bool b) ∧ R b W' := by
  obtain ⟨⟨c0, cf⟩, ⟨c3, c2⟩, cy, ⟨n1, n2⟩, hj⟩ := hT
  obtain ⟨fn, tmps, assign, body, hy, hR⟩ := hY
  obtain ⟨h1, h2⟩ := ok_cases hk
  clear hk
  rcases h1 with b1 | ⟨b1, b2⟩ <;> rcases h2 with b3 | ⟨b3, b4⟩
  · refine callsIn_of_wp Tryd.func47 rfl trivial ?_ rfl
    simp only [Tryd.ntmps47, List.size_toArray, List.length_cons, List.length_nil, Nat.reduceAdd, Nat.reduceSub, Array.replicate_succ, Array.replicate_zero, List.push_toArray, List.append_toArray, List.nil_append, List.cons_append]
    gi_wp2
    refine ⟨fun h => (by cases h), hR.mono ?_⟩
    rintro e W2 ⟨b, rfl, h2⟩
    gi_wp2
    go_ret
    exact ⟨b, rfl, h2⟩
  · refine callsIn_of_wp Tryd.func47 rfl trivial ?_ rfl
    simp only [Tryd.ntmps47, List.size_toArray, List.length_cons, List.length_nil, Nat.reduceAdd, Nat.reduceSub, Array.replicate_succ, Array.replicate_zero, List.push_toArray, List.append_toArray, List.nil_append, List.cons_append]
    gi_wp2
    refine ⟨fun h => (by cases h), hR.mono ?_⟩
    rintro e W2 ⟨b, rfl, h2⟩
    gi_wp2
    go_ret
    exact ⟨b, rfl, h2⟩
  · refine callsIn_of_wp Tryd.func47 rfl trivial ?_ rfl
    simp only [Tryd.ntmps47, List.size_toArray, List.length_cons, List.length_nil, Nat.reduceAdd, Nat.reduceSub, Array.replicate_succ, Array.replicate_zero, List.push_toArray, List.append_toArray, List.nil_append, List.cons_append]
    gi_wp2
    refine ⟨fun h => (by cases h), hR.mono ?_⟩
    rintro e W2 ⟨b, rfl, h2⟩
    gi_wp2
    go_ret
    exact ⟨b, rfl, h2⟩
  · refine callsIn_of_wp Tryd.func47 rfl trivial ?_ rfl
    simp only [Tryd.ntmps47, List.size_toArray, List.length_cons, List.length_nil, Nat.reduceAdd, Nat.reduceSub, Array.replicate_succ, Array.replicate_zero, List.push_toArray, List.append_toArray, List.nil_append, List.cons_append]
    gi_wp2
    refine ⟨fun h => (by cases h), hR.mono ?_⟩
    rintro e W2 ⟨b, rfl, h2⟩
    gi_wp2
    go_ret
    exact ⟨b, rfl, h2⟩

end Go.Proofs.YtkpmddlinlcobaaDoor
