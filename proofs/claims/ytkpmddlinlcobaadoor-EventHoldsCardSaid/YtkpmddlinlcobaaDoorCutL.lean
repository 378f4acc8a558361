/- A region's operations may be cut: what the first ones leave, and what the others do from there. No condition. -/
import Derived.WalkKit
import Derived.Orders
namespace Go.Proofs.YtkpmddlinlcobaaDoor
open Go.RowKit

/-- the first operations have come to their end. -/
def AtEnd (R : Act → World → Prop) : Exit → Act → World → Prop
  | .normal, a, w => R a w
  | _, _, _ => False

theorem AtEnd.intro {R : Act → World → Prop} {a : Act} {w : World} (h : R a w) : AtEnd R .normal a w := h

theorem oper_mono2 {P : Program} {o : Oper} {a : Act} {w : World} {K K' : Act → World → Prop} {Q Q' : Exit → Act → World → Prop} (h : ∀ a w, K a w → K' a w)
    (hq : ∀ c a w, Q (.panic c) a w → Q' (.panic c) a w) (hl : LetsOut Q → LetsOut Q') (hh : o.wp P a w K Q) : o.wp P a w K' Q' := by
  unfold Oper.wp at *
  generalize (execOp a.eval o).run P w = r at *
  cases r with
  | ok n w' =>
    cases n <;> simp only [Oper.upon] at hh ⊢ <;>
      first
        | exact h _ _ hh
        | exact Calls.mono hh (fun e w'' he => by
            cases e with
            | returned v => exact h _ _ he
            | panicked c => exact hq _ _ _ he
            | outgrown => exact hl he)
        | exact Rows.mono hh (fun _ _ he => h _ _ he)
  | halt x w' => cases x <;> simp only [Oper.upon] at hh ⊢ <;> first | exact hq _ _ _ hh | exact hh

theorem letsOut_atEnd {R : Act → World → Prop} (h : LetsOut (AtEnd R)) : False := by obtain ⟨a, w, h⟩ := h; exact h

theorem wpList_atEnd {P : Program} {ops : Array Oper} {Q : Exit → Act → World → Prop} {R : Act → World → Prop} : ∀ (k : Nat) (l : List Oper) (a : Act) (w : World),
    (∀ a w, R a w → wpList P ops Q (l.drop k) a w) → wpList P ops (AtEnd R) (l.take k) a w → wpList P ops Q l a w
  | 0, l, a, w, hr, h => hr a w h
  | k + 1, [], a, w, hr, h => hr a w h
  | k + 1, o :: l, a, w, hr, h => by
    rw [List.take_succ_cons] at h
    unfold wpList at h ⊢
    split
    · rename_i hw
      rw [if_pos hw] at h
      rcases h with h | ⟨_, h⟩
      · exact .inl (oper_mono2 (fun a w q => wpList_atEnd k l a w hr q) (fun c a w q => q.elim) (fun q => (letsOut_atEnd q).elim) h)
      · exact (letsOut_atEnd h).elim
    · rename_i hw
      rw [if_neg hw] at h
      exact wpList_atEnd k l _ w hr h

theorem wpList_cut {P : Program} {ops : Array Oper} {Q : Exit → Act → World → Prop} {l : List Oper} {a : Act} {w : World} (k : Nat) (R : Act → World → Prop)
    (first : ∀ J : Act → World → Prop, (∀ a w, R a w → J a w) → wpList P ops (AtEnd J) (l.take k) a w) (rest : ∀ a w, R a w → wpList P ops Q (l.drop k) a w) : wpList P ops Q l a w :=
  wpList_atEnd k l a w rest (first R fun _ _ h => h)

theorem range_at {us : List Value} (m c : Nat) (h : m + c ≤ us.length) : (List.range c).map (fun j => us.getD (m + j) undef) = (us.drop m).take c := by
  apply List.ext_getElem
  · simp; omega
  · intro i h1 h2
    simp at h1
    simp [List.getElem_take, List.getElem_drop, List.getD_eq_getElem?_getD, List.getElem?_eq_getElem (show m + i < us.length by omega)]

/-- what the first k operations write lies in c slots from m on. -/
theorem wpList_cutF {P : Program} {ops : Array Oper} {Q : Exit → Act → World → Prop} {l : List Oper} {ts : List Value} {ds : List Deferred} {w : World} (k m c : Nat) (R : (Nat → Value) → World → Prop)
    (first : ∀ J : Act → World → Prop, (∀ (us : List Value) (w' : World), us.length = ts.length → us.take m = ts.take m → us.drop (m + c) = ts.drop (m + c) → R (fun j => us.getD (m + j) undef) w' → J ⟨us.toArray, ds⟩ w') →
      wpList P ops (AtEnd J) (l.take k) ⟨ts.toArray, ds⟩ w)
    (rest : ∀ (f : Nat → Value) (w' : World), R f w' → wpList P ops Q (l.drop k) ⟨(ts.take m ++ ((List.range c).map f ++ ts.drop (m + c))).toArray, ds⟩ w')
    (hm : m + c ≤ ts.length) : wpList P ops Q l ⟨ts.toArray, ds⟩ w := by
  refine wpList_cut k (fun a w' => ∃ us : List Value, us.length = ts.length ∧ us.take m = ts.take m ∧ us.drop (m + c) = ts.drop (m + c) ∧ R (fun j => us.getD (m + j) undef) w' ∧ a = ⟨us.toArray, ds⟩)
    (fun J hJ => first J fun us w' h1 h2 h3 h4 => hJ _ _ ⟨us, h1, h2, h3, h4, rfl⟩) ?_
  rintro a w' ⟨us, h1, h2, h3, h4, rfl⟩
  have h := rest _ w' h4
  have e : ts.take m ++ ((List.range c).map (fun j => us.getD (m + j) undef) ++ ts.drop (m + c)) = us := by
    rw [range_at m c (by omega), ← h2, ← h3, ← List.drop_drop, List.take_append_drop, List.take_append_drop]
  rw [e] at h
  exact h

theorem map_11 (f : Nat → Value) : (List.range 11).map f = [f 0, f 1, f 2, f 3, f 4, f 5, f 6, f 7, f 8, f 9, f 10] := rfl
theorem map_12 (f : Nat → Value) : (List.range 12).map f = [f 0, f 1, f 2, f 3, f 4, f 5, f 6, f 7, f 8, f 9, f 10, f 11] := rfl
theorem map_23 (f : Nat → Value) : (List.range 23).map f = [f 0, f 1, f 2, f 3, f 4, f 5, f 6, f 7, f 8, f 9, f 10, f 11, f 12, f 13, f 14, f 15, f 16, f 17, f 18, f 19, f 20, f 21, f 22] := rfl
theorem map_7 (f : Nat → Value) : (List.range 7).map f = [f 0, f 1, f 2, f 3, f 4, f 5, f 6] := rfl
theorem map_21 (f : Nat → Value) : (List.range 21).map f = [f 0, f 1, f 2, f 3, f 4, f 5, f 6, f 7, f 8, f 9, f 10, f 11, f 12, f 13, f 14, f 15, f 16, f 17, f 18, f 19, f 20] := rfl

end Go.Proofs.YtkpmddlinlcobaaDoor
