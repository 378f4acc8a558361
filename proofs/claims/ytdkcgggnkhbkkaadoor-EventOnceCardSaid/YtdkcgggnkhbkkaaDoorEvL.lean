/- event.Of's closure that keeps a time: its contract. -/
import Derived.Test.YtdkcgggnkhbkkaaDoorSeqE
import Derived.Laws.EntriesVeiled
namespace Go.Proofs.YtdkcgggnkhbkkaaDoor
open Go.RowKit Go.Shelf
set_option linter.unusedSimpArgs false
set_option linter.unusedVariables false

/-- those from one to another one. -/
def inR (a b : Int) (L : List Int) : List Int := L.filter fun t => decide (a ≤ t) && decide (t ≤ b)

theorem inR_append (a b : Int) (L K : List Int) : inR a b (L ++ K) = inR a b L ++ inR a b K := List.filter_append ..

theorem inR_yes {a b x : Int} (h1 : a ≤ x) (h2 : x ≤ b) : inR a b [x] = [x] := by simp [inR, h1, h2]

theorem inR_no {a b x : Int} (h : ¬ (a ≤ x ∧ x ≤ b)) : inR a b [x] = [] := by simp [inR]; omega

theorem KeepP.refl {B : Nat} {Pr : Nat → Prop} (W : World) : KeepP B Pr W W := ⟨Below.refl _ _, fun _ _ _ => rfl⟩

set_option maxRecDepth 100000 in
set_option maxHeartbeats 2000000 in
theorem keep_col (x a b : Int) (pf pt ob : Nat) (w0 : World) (Pr : Nat → Prop) (xs : List Int) (W : World) (h : Col w0 ob 57 3 Pr xs W) (cf : W.cell? ⟨pf, 0, none⟩ = some (.int .i64 a)) (ct : W.cell? ⟨pt, 0, none⟩ = some (.int .i64 b)) (hl : xs.length ≤ 4398046511104) :
    Calls Tryd.prog 132 #[.int .i64 x, .pointer (some ⟨pf, 0, none⟩), .pointer (some ⟨pt, 0, none⟩), .pointer (some ⟨ob, 0, none⟩)] W
      fun e W' => e = .returned (.tuple #[]) ∧ KeepP w0.heap.size Pr W W' ∧ Col w0 ob 57 3 Pr (xs ++ inR a b [x]) W' := by
  obtain ⟨i0, hi, hz0, hz1, hz2⟩ := info_parts intInfoS
  by_cases h1 : a ≤ x
  · by_cases h2 : x ≤ b
    · have E := Lib.hid (inR_yes h1 h2)
      have t1 : decide (a ≤ x) = true := decide_eq_true h1
      have t2 : decide (x ≤ b) = true := decide_eq_true h2
      obtain ⟨hb, v, hv, hrow, hno, hng⟩ := h
      have hc := hv.cell
      obtain ⟨va, vc, rfl⟩ : ∃ va vc, v = .slice va xs.length vc := by
        rcases hrow.2 with ⟨e1, e2⟩ | ⟨g, cap, cur, e1, _⟩
        · exact ⟨none, 0, by rw [e1, e2]⟩
        · exact ⟨_, cap, e1⟩
      have hWs := hb.1.size
      clear h1 h2
      go_enter Tryd.func132, Tryd.ntmps132
      go_wp2_with (at_builtin; refine wpList_append_own_at _ rfl _ _ 57 rfl w0.heap.size 3 i0 (.int .i64 0) 1 8 Tryd.underlying57 hi hz0 hz1 hz2 rfl (by decide) _ _ _ rfl (hrow.alloc _) ⟨W.heap.size, 0, none⟩ 1 1 [.int .i64 x] rfl rfl (cell_one_new _ _ _) (by simp [Value.oneCell']) (by unfold maxLen; omega) (by omega) (by rw [World.size_alloc]; omega) ?_; intro v' w2 hown' hgrow _ hat; obtain ⟨g', cap', rfl⟩ := ownsRow_succ hown'; obtain ⟨hv1, hv2, hr2, hk2, hb2⟩ := hv.appended (by decide) hrow hWs hb.2.1 hown' hgrow; have hc1 := hv1.cell; have hf1 := hv1.frozen)
      obtain ⟨k1, k2⟩ := Col.add hb hno hng hv1 hv2 hr2 hb2 hgrow hat
      exact bodyPost_end (v := .tuple #[]) (results_none rfl _ _ _) rfl ⟨rfl, k1, by rw [E.out]; exact k2⟩
    · have E := Lib.hid (inR_no (fun h : a ≤ x ∧ x ≤ b => h2 h.2))
      have t1 : decide (a ≤ x) = true := decide_eq_true h1
      have t2 : decide (x ≤ b) = false := decide_eq_false h2
      have H := Lib.hid h
      clear h1 h2 h
      go_enter Tryd.func132, Tryd.ntmps132
      go_wp2
      exact bodyPost_end (v := .tuple #[]) (results_none rfl _ _ _) rfl ⟨rfl, KeepP.refl _, by rw [E.out, List.append_nil]; exact H.out⟩
  · have E := Lib.hid (inR_no (fun h : a ≤ x ∧ x ≤ b => h1 h.1))
    have t1 : decide (a ≤ x) = false := decide_eq_false h1
    have H := Lib.hid h
    clear h1 h
    go_enter Tryd.func132, Tryd.ntmps132
    go_wp2
    exact bodyPost_end (v := .tuple #[]) (results_none rfl _ _ _) rfl ⟨rfl, KeepP.refl _, by rw [E.out, List.append_nil]; exact H.out⟩

end Go.Proofs.YtdkcgggnkhbkkaaDoor
