/- seq.Count: its walk. Conditions: the rule is right, it begins at a day. -/
import Derived.Test.YtkpmddlinlcobaaDoorSeqE
namespace Go.Proofs.YtkpmddlinlcobaaDoor
open Go.RowKit Go.Shelf
set_option linter.unusedSimpArgs false
set_option linter.unusedVariables false
attribute [local go_sem] Oper.semAt_some

/-- what a function that loops over the days knows of a variable of its own. -/
def Var (ob : Nat) (T : TypeId) (v : Value) (Pr : Nat → Prop) (W : World) : Prop := Boxed W ob T v ∧ ¬ Pr ob

def Lay (w0 : World) (Pr : Nat → Prop) (W : World) : Prop := Below w0.heap.size w0 W ∧ ∀ k, Pr k → k < W.heap.size

theorem Lay.step {w0 : World} {Pr Pr' : Nat → Prop} {W W' : World} (h : Lay w0 Pr W) (hs : StepP w0.heap.size Pr W W') (hp : ∀ k, Pr' k → Pr k ∨ (W.heap.size ≤ k ∧ k < W'.heap.size)) : Lay w0 Pr' W' := by
  have hss := hs.below.size
  refine ⟨h.1.trans hs.below, fun k hk => ?_⟩
  rcases hp k hk with h' | h'
  · have := h.2 k h'; omega
  · exact h'.2

theorem Var.step {B ob : Nat} {T : TypeId} {v : Value} {Pr Pr' : Nat → Prop} {W W' : World} (h : Var ob T v Pr W) (hs : StepP B Pr W W') (hp : ∀ k, Pr' k → Pr k ∨ (W.heap.size ≤ k ∧ k < W'.heap.size)) : Var ob T v Pr' W' := by
  refine ⟨(hs.rest ob h.1.lt h.2).trans h.1, fun h' => ?_⟩
  rcases hp ob h' with h' | h'
  · exact h.2 h'
  · have := h.1.lt; omega

/-- a variable is set: what is of Pr is kept, and any other variable. -/
theorem Var.set {w0 : World} {ob : Nat} {T : TypeId} {v : Value} {Pr : Nat → Prop} {W : World} (v' : Value) (h : Var ob T v Pr W) (hl : Lay w0 Pr W) (hb : w0.heap.size ≤ ob) :
    KeepP w0.heap.size Pr W (W.setCell ⟨ob, 0, none⟩ v') ∧ Var ob T v' Pr (W.setCell ⟨ob, 0, none⟩ v') ∧ Lay w0 Pr (W.setCell ⟨ob, 0, none⟩ v') := by
  have hbl : Below w0.heap.size W (W.setCell ⟨ob, 0, none⟩ v') := (Below.refl _ _).setCell (p := ⟨ob, 0, none⟩) hb v'
  exact ⟨⟨hbl, fun k hk hp => setCell_block W ob k v' (fun e => h.2 (by rw [← e]; exact hp))⟩, ⟨h.1.set v', h.2⟩, hl.1.trans hbl, fun k hk => Nat.lt_of_lt_of_le (hl.2 k hk) hbl.size⟩

theorem Var.other {ob k : Nat} {T : TypeId} {v : Value} {Pr : Nat → Prop} {W : World} (v' : Value) (h : Var ob T v Pr W) (hk : ob ≠ k) : Var ob T v Pr (W.setCell ⟨k, 0, none⟩ v') :=
  ⟨(setCell_block W k ob v' hk).trans h.1, h.2⟩

end Go.Proofs.YtkpmddlinlcobaaDoor
