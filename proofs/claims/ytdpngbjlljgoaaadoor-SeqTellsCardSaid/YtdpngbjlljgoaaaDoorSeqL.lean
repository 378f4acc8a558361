/- seq.First: a number out of range. What the law SeqHolds asks, plainly. -/
import Derived.Test.YtdpngbjlljgoaaaDoorSeqK
namespace Go.Proofs.YtdpngbjlljgoaaaDoor
open Go.RowKit Go.Shelf
set_option linter.unusedSimpArgs false
set_option linter.unusedVariables false

set_option maxRecDepth 100000 in
set_option maxHeartbeats 2000000 in
theorem sfirst_rng (fr ev ct ti st n : Int) (vm vd vw vp : Value) (mo da : List Int) (we : List (Int × Int)) (pk : List Int) (w : World)
    (h1 : IntsR w vm mo) (h2 : IntsR w vd da) (h3 : PairsR w vw we) (h4 : IntsR w vp pk) (hF : seqF (ruleF fr ev ct ti mo da we pk) st = 0) (hn : n < 0 ∨ 200 < n) :
    Calls Tryd.prog 11 #[.agg #[.int .i64 fr, .int .i64 ev, .int .i64 ct, .int .i64 ti, vm, vd, vw, vp], .int .i64 st, .int .i64 n] w
      fun e w' => e = .returned (.tuple #[.slice none 0 0, .iface 113 (.int .i64 1)]) ∧ Below w.heap.size w w' := by
  obtain ⟨am, km, rfl, _, _, _⟩ := intsR_open h1
  obtain ⟨ad, kd, rfl, _, _, _⟩ := intsR_open h2
  obtain ⟨aw, kw, rfl, _, _, _⟩ := pairsR_open h3
  obtain ⟨ap, kp, rfl, _, _, _⟩ := intsR_open h4
  have hb0 : Below w.heap.size w ((w.alloc (.cells #[.int .i64 fr, .int .i64 ev, .int .i64 ct, .int .i64 ti, .slice am mo.length km, .slice ad da.length kd, .slice aw we.length kw, .slice ap pk.length kp] 25)).alloc (.cells #[.int .i64 n] 3)) := ((Below.refl _ _).alloc (Nat.le_refl _) _).alloc (by rw [World.size_alloc]; omega) _
  have xn : Boxed ((w.alloc (.cells #[.int .i64 fr, .int .i64 ev, .int .i64 ct, .int .i64 ti, .slice am mo.length km, .slice ad da.length kd, .slice aw we.length kw, .slice ap pk.length kp] 25)).alloc (.cells #[.int .i64 n] 3)) (w.heap.size + 1) 3 (.int .i64 n) := by
    have := Boxed.new (w.alloc (.cells #[.int .i64 fr, .int .i64 ev, .int .i64 ct, .int .i64 ti, .slice am mo.length km, .slice ad da.length kd, .slice aw we.length kw, .slice ap pk.length kp] 25)) 3 (.int .i64 n)
    rwa [World.size_alloc] at this
  go_enter Tryd.func11, Tryd.ntmps11
  go_wp2_with fail
  refine (sready_any fr ev ct ti st _ _ _ _ mo da we pk _ (h1.below hb0) (h2.below hb0) (h3.below hb0) (h4.below hb0)).mono ?_; rintro e w1 ⟨rfl, hb1⟩
  rw [hF, errV_0]
  have hc := Boxed.cell (W := w1) (B := w.heap.size + 1) (t := 3) (v := .int .i64 n) ((hb1.block _ xn.lt).trans xn)
  have B := Lib.hid (hb0.trans (hb1.mono hb0.size))
  clear hb0 hb1 xn
  rcases hn with hn | hn
  · go_wp2
    refine bodyPost_ret (results_tmp2 rfl _ _ _) rfl ?_
    exact ⟨rfl, B.out⟩
  · have hn2 : ¬ n < 0 := by omega
    go_wp2
    refine bodyPost_ret (results_tmp2 rfl _ _ _) rfl ?_
    exact ⟨rfl, B.out⟩

theorem eachG_len (ti ct : Int) (hc : 0 < ct) : ∀ (l : List Int) (j : Nat), (j : Int) ≤ ct → ((eachG ti ct j l).length : Int) + j ≤ ct
  | [], j, h => by simp [eachG]; omega
  | x :: r, j, h => by
    rw [eachG]
    split
    · next hk =>
      have : (j : Int) + 1 ≤ ct := by simp [okC] at hk; omega
      have := eachG_len ti ct hc r (j + 1) (by omega)
      simp only [List.length_cons]; omega
    · simp; omega

theorem eachG_until (ti ct : Int) (ht : 0 < ti) : ∀ (l : List Int) (j : Nat), ∀ x ∈ eachG ti ct j l, x ≤ ti
  | [], j, x, h => by simp [eachG] at h
  | y :: r, j, x, h => by
    rw [eachG] at h
    split at h
    · next hk =>
      rcases List.mem_cons.1 h with rfl | h
      · simp [okT] at hk; omega
      · exact eachG_until ti ct ht r (j + 1) x h
    · simp at h

theorem eachG_head (ti ct : Int) (l : List Int) (x : Int) (j : Nat) (h : 0 < (eachG ti ct j (x :: l)).length) : (eachG ti ct j (x :: l))[0] = x := by
  rw [eachG] at h
  split at h
  · next hk =>
    have e := eachG_yes (r := l) hk
    simp only [e, List.getElem_cons_zero]
  · simp at h

/-- behind one of a list that rises comes the one behind it. -/
theorem next_at {E : List Int} (hE : E.Pairwise (· < ·)) (i : Nat) (h : i + 1 < E.length) : nextP E (E[i]'(by omega)) = (E[i + 1], 0) := by
  have hle : ∀ z ∈ E.take (i + 1), z ≤ E[i]'(by omega) := by
    intro z hz
    obtain ⟨j, hj, rfl⟩ := List.getElem_of_mem hz
    rw [List.getElem_take]
    rw [List.length_take] at hj
    rcases Nat.lt_or_eq_of_le (show j ≤ i by omega) with h1 | h1
    · exact Int.le_of_lt (List.pairwise_iff_getElem.1 hE j i (by omega) (by omega) h1)
    · subst h1; exact Int.le_refl _
  refine next_some (p := E.take (i + 1)) (x := E[i + 1]) ?_ (List.pairwise_iff_getElem.1 hE i (i + 1) (by omega) h (by omega)) hle
  rw [← List.take_succ_eq_append_getElem h]
  exact List.take_prefix _ _

/-- from the first one to the k-th one lie the first so many. -/
theorem btw_take {E : List Int} (hE : E.Pairwise (· < ·)) (k : Nat) (h : k < E.length) : btwL E (E[0]'(by omega)) E[k] = E.take (k + 1) := by
  have h0 : ∀ z ∈ E, E[0]'(by omega) ≤ z := by
    intro z hz
    obtain ⟨j, hj, rfl⟩ := List.getElem_of_mem hz
    rcases Nat.eq_zero_or_pos j with h1 | h1
    · subst h1; exact Int.le_refl _
    · exact Int.le_of_lt (List.pairwise_iff_getElem.1 hE 0 j (by omega) hj h1)
  obtain ⟨a, ha⟩ : ∃ a, a = E[0]'(by omega) := ⟨_, rfl⟩
  obtain ⟨b, hb⟩ : ∃ b, b = E[k] := ⟨_, rfl⟩
  rw [← ha] at h0 ⊢
  rw [← hb]
  unfold btwL
  have e0 : E.filter (fun x => decide (a ≤ x) && decide (x ≤ b)) = (E.take (k + 1) ++ E.drop (k + 1)).filter (fun x => decide (a ≤ x) && decide (x ≤ b)) := by rw [List.take_append_drop]
  rw [e0, List.filter_append]
  have e1 : (E.take (k + 1)).filter (fun x => decide (a ≤ x) && decide (x ≤ b)) = E.take (k + 1) := by
    rw [List.filter_eq_self]
    intro z hz
    have hz0 := h0 z (List.mem_of_mem_take hz)
    obtain ⟨j, hj, rfl⟩ := List.getElem_of_mem hz
    rw [List.getElem_take] at hz0 ⊢
    rw [List.length_take] at hj
    have : E[j]'(by omega) ≤ b := by
      rw [hb]
      rcases Nat.lt_or_eq_of_le (show j ≤ k by omega) with h1 | h1
      · exact Int.le_of_lt (List.pairwise_iff_getElem.1 hE j k (by omega) h h1)
      · subst h1; exact Int.le_refl _
    simp [hz0, this]
  have e2 : (E.drop (k + 1)).filter (fun x => decide (a ≤ x) && decide (x ≤ b)) = [] := by
    rw [List.filter_eq_nil_iff]
    intro z hz
    obtain ⟨j, hj, rfl⟩ := List.getElem_of_mem hz
    rw [List.getElem_drop]
    rw [List.length_drop] at hj
    have := List.pairwise_iff_getElem.1 hE k (k + 1 + j) h (by omega) (by omega)
    rw [← hb] at this
    simp; omega
  rw [e1, e2, List.append_nil]

end Go.Proofs.YtdpngbjlljgoaaaDoor
