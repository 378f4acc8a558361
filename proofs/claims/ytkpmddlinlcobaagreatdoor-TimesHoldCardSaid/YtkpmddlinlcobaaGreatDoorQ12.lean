/- Texts joined into one (a claim has at most 60 files): seq.Each's iterator: the days of a rule, one by one. -/
import Derived.Test.YtkpmddlinlcobaaGreatDoorQ11
namespace Go.Proofs.YtkpmddlinlcobaaGreatDoor
open Go.RowKit Go.Shelf
set_option linter.unusedSimpArgs false
set_option linter.unusedVariables false
attribute [local go_sem] Oper.semAt_some

/-- a rule's eight cells. -/
def RlC (W : World) (rb : Nat) (fr ev ct ti : Int) (vm vd vw vp : Value) : Prop :=
  W.cell? ⟨rb, 0, none⟩ = some (.int .i64 fr) ∧ W.cell? ⟨rb, 1, none⟩ = some (.int .i64 ev) ∧ W.cell? ⟨rb, 2, none⟩ = some (.int .i64 ct) ∧ W.cell? ⟨rb, 3, none⟩ = some (.int .i64 ti) ∧
    W.cell? ⟨rb, 4, none⟩ = some vm ∧ W.cell? ⟨rb, 5, none⟩ = some vd ∧ W.cell? ⟨rb, 6, none⟩ = some vw ∧ W.cell? ⟨rb, 7, none⟩ = some vp

theorem RlC.same {W W' : World} {rb : Nat} {fr ev ct ti : Int} {vm vd vw vp : Value} (h : RlC W rb fr ev ct ti vm vd vw vp) (hb : W'.heap[rb]? = W.heap[rb]?) : RlC W' rb fr ev ct ti vm vd vw vp := by
  obtain ⟨a0, a1, a2, a3, a4, a5, a6, a7⟩ := h
  exact ⟨(cell_block hb).trans a0, (cell_block hb).trans a1, (cell_block hb).trans a2, (cell_block hb).trans a3, (cell_block hb).trans a4, (cell_block hb).trans a5, (cell_block hb).trans a6, (cell_block hb).trans a7⟩

/-- what the iterator knows between two calls of 'tell': its own blocks are of Pr. -/
structure EachSt (wB W : World) (Pr : Nat → Prop) (r rb sb yb l j : Nat) (fr ev ct ti st : Int) (vm vd vw vp : Value) : Prop where
  below : Below wB.heap.size wB W
  told : W.cell? ⟨r, 0, none⟩ = some (.int .i64 j) ∧ W.frozen? ⟨r, 0, none⟩ = false
  rule : RlC W rb fr ev ct ti vm vd vw vp
  start : W.cell? ⟨sb, 0, none⟩ = some (.int .i64 st)
  yield : W.cell? ⟨yb, 0, none⟩ = some (.func (.yield l) #[] #[])
  mine : Pr r ∧ Pr rb ∧ Pr sb ∧ Pr yb
  high : wB.heap.size ≤ r ∧ r < W.heap.size
  apart : rb ≠ r ∧ yb ≠ r ∧ sb ≠ r

theorem EachSt.tellAt {wB W : World} {Pr : Nat → Prop} {r rb sb yb l j : Nat} {fr ev ct ti st : Int} {vm vd vw vp : Value} (h : EachSt wB W Pr r rb sb yb l j fr ev ct ti st vm vd vw vp) (hj : j ≤ 200000) : TellAt W r rb yb l j ti ct :=
  ⟨h.told, ⟨h.rule.2.2.2.1, h.rule.2.2.1⟩, h.yield, ⟨h.apart.1, h.apart.2.1⟩, hj⟩

theorem setCell_block (W : World) (r k : Nat) (v : Value) (h : k ≠ r) : (W.setCell ⟨r, 0, none⟩ v).heap[k]? = W.heap[k]? := Below.heap_setCell _ _ _ _ h

theorem stepP_set {B : Nat} {Pr : Nat → Prop} (W : World) (r : Nat) (v : Value) (h : B ≤ r) (hr : Pr r) : StepP B Pr W (W.setCell ⟨r, 0, none⟩ v) :=
  ⟨(Below.refl _ _).setCell (p := ⟨r, 0, none⟩) h _, fun k _ hk => setCell_block W r k v (fun e => hk (by rw [e]; exact hr))⟩

theorem stepP_below {B : Nat} {Pr : Nat → Prop} {W W' : World} (hb : Below W.heap.size W W') (h : B ≤ W.heap.size) : StepP B Pr W W' :=
  ⟨hb.mono h, fun k hk _ => hb.block k hk⟩

/-- behind a round: 'tell' has counted, yield has kept what is of Pr. -/
theorem EachSt.next {wB W W' : World} {Pr : Nat → Prop} {r rb sb yb l j : Nat} {fr ev ct ti st : Int} {vm vd vw vp : Value} (h : EachSt wB W Pr r rb sb yb l j fr ev ct ti st vm vd vw vp)
    (hk : KeepP wB.heap.size Pr (W.setCell ⟨r, 0, none⟩ (.int .i64 ((j : Int) + 1))) W') : EachSt wB W' Pr r rb sb yb l (j + 1) fr ev ct ti st vm vd vw vp := by
  obtain ⟨m1, m2, m3, m4⟩ := h.mine
  have hsz : (W.setCell ⟨r, 0, none⟩ (.int .i64 ((j : Int) + 1))).heap.size = W.heap.size := by simp [World.setCell]
  have e : ∀ k, k ≠ r → Pr k → k < W.heap.size → W'.heap[k]? = W.heap[k]? := fun k hkr hp hlk => (hk.kept k (by rw [hsz]; exact hlk) hp).trans (setCell_block W r k _ hkr)
  have l2 := World.block_lt_of_cell? W _ h.rule.1
  have l3 := World.block_lt_of_cell? W _ h.start
  have l4 := World.block_lt_of_cell? W _ h.yield
  refine ⟨(h.below.trans ((Below.refl _ _).setCell (p := ⟨r, 0, none⟩) h.high.1 _)).trans hk.below, ⟨?_, ?_⟩, h.rule.same (e rb h.apart.1 m2 l2), (cell_block (e sb h.apart.2.2 m3 l3)).trans h.start, (cell_block (e yb h.apart.2.1 m4 l4)).trans h.yield, h.mine, ⟨h.high.1, ?_⟩, h.apart⟩
  · rw [cell_block (hk.kept r (by rw [hsz]; exact h.high.2) m1)]
    rw [World.cell?_setCell_same' _ _ _ (by rw [h.told.1]; rfl)]
    rfl
  · rw [frozen_block (hk.kept r (by rw [hsz]; exact h.high.2) m1), World.frozen?_setCell]; exact h.told.2
  · have := hk.below.size
    simp [World.setCell] at this
    have := h.high.2
    omega

/-- behind a call that makes memory alone. -/
theorem EachSt.later {wB W W' : World} {Pr Pr' : Nat → Prop} {r rb sb yb l j : Nat} {fr ev ct ti st : Int} {vm vd vw vp : Value} (h : EachSt wB W Pr r rb sb yb l j fr ev ct ti st vm vd vw vp) (hB : wB.heap.size ≤ W.heap.size)
    (hb : Below W.heap.size W W') (hp : ∀ k, Pr k → Pr' k) : EachSt wB W' Pr' r rb sb yb l j fr ev ct ti st vm vd vw vp := by
  obtain ⟨m1, m2, m3, m4⟩ := h.mine
  obtain ⟨a0, a1, a2, a3, a4, a5, a6, a7⟩ := h.rule
  exact ⟨h.below.trans (hb.mono hB), ⟨cell_below hb h.told.1, (hb.frozen (p := ⟨r, 0, none⟩) h.high.2).trans h.told.2⟩, ⟨cell_below hb a0, cell_below hb a1, cell_below hb a2, cell_below hb a3, cell_below hb a4, cell_below hb a5, cell_below hb a6, cell_below hb a7⟩,
    cell_below hb h.start, cell_below hb h.yield, ⟨hp _ m1, hp _ m2, hp _ m3, hp _ m4⟩, ⟨h.high.1, Nat.lt_of_lt_of_le h.high.2 hb.size⟩, h.apart⟩

/-- one day is told: a round, or none. -/
def ToldSays (wB W : World) (Pr : Nat → Prop) (r rb sb yb l : Nat) (fr ev ct ti st : Int) (vm vd vw vp : Value) (J Jx : (Nat → Prop) → List Int → World → Prop) (pre : List Int) (x : Int) (ok : Bool) (e : Ending) (W' : World) : Prop :=
  (ok = true ∧ e = .returned (.bool true) ∧ J Pr (pre ++ [x]) W' ∧ EachSt wB W' Pr r rb sb yb l (pre.length + 1) fr ev ct ti st vm vd vw vp ∧ ∀ k, k < W.heap.size → Pr k → k ≠ r → W'.heap[k]? = W.heap[k]?) ∨
  (ok = true ∧ e = .returned (.bool false) ∧ Jx Pr (pre ++ [x]) W') ∨
  (ok = false ∧ e = .returned (.bool false) ∧ J Pr pre W')

theorem told_any (n : Nat) (wB W : World) (Pr : Nat → Prop) (r rb sb yb l : Nat) (fr ev ct ti st : Int) (vm vd vw vp : Value) (J Jx : (Nat → Prop) → List Int → World → Prop) (N : Nat) (pre : List Int) (x : Int)
    (hJ : AbP wB.heap.size J) (hY : ∀ Pr pre x W1, J Pr pre W1 → pre.length < N → YieldAt Fence.wide (n - 1) Tryz.prog l #[.int .i64 x] W1 fun e W' =>
      (e = .returned (.bool true) ∧ J Pr (pre ++ [x]) W' ∧ KeepP wB.heap.size Pr W1 W') ∨ (e = .returned (.bool false) ∧ Jx Pr (pre ++ [x]) W'))
    (hE : EachSt wB W Pr r rb sb yb l pre.length fr ev ct ti st vm vd vw vp) (h0 : J Pr pre W) (hN : (okT ti x && okC ct pre.length) = true → pre.length < N) (hl : pre.length ≤ 200000) (m : Nat) :
    CallsIn Fence.wide m Tryz.prog 156 #[.int .i64 x, .pointer (some ⟨r, 0, none⟩), .pointer (some ⟨rb, 0, none⟩), .pointer (some ⟨yb, 0, none⟩)] W
      (ToldSays wB W Pr r rb sb yb l fr ev ct ti st vm vd vw vp J Jx pre x (okT ti x && okC ct pre.length)) := by
  have hs : J Pr pre (W.setCell ⟨r, 0, none⟩ (.int .i64 ((pre.length : Int) + 1))) := hJ _ _ _ _ _ h0 (stepP_set W r _ hE.high.1 hE.mine.1) (fun k hk => .inl hk)
  cases hk : (okT ti x && okC ct pre.length)
  · refine (tell_no m x ti ct r rb yb l pre.length W (hE.tellAt hl) hk).mono ?_
    rintro e W' ⟨rfl, rfl⟩
    exact .inr (.inr ⟨rfl, rfl, hs⟩)
  · refine (tell_yes m x ti ct r rb yb l pre.length W (hE.tellAt hl) hk (fun b W' => (b = true ∧ J Pr (pre ++ [x]) W' ∧ EachSt wB W' Pr r rb sb yb l (pre.length + 1) fr ev ct ti st vm vd vw vp ∧ ∀ k, k < W.heap.size → Pr k → k ≠ r → W'.heap[k]? = W.heap[k]?) ∨ (b = false ∧ Jx Pr (pre ++ [x]) W')) (yield_any (m - 1) (YieldAt.mono (hY Pr pre x _ hs (hN hk)) ?_))).mono ?_
    · rintro e W' (⟨rfl, h1, h2⟩ | ⟨rfl, h1⟩)
      · exact ⟨true, rfl, .inl ⟨rfl, h1, hE.next h2, fun k hlk hp hkr => (h2.kept k (by simpa [World.setCell] using hlk) hp).trans (setCell_block W r k _ hkr)⟩⟩
      · exact ⟨false, rfl, .inr ⟨rfl, h1⟩⟩
    · rintro e W' ⟨b, rfl, ⟨rfl, h1, h2, h3⟩ | ⟨rfl, h1⟩⟩
      · exact .inl ⟨rfl, rfl, h1, h2, h3⟩
      · exact .inr (.inl ⟨rfl, rfl, h1⟩)

end Go.Proofs.YtkpmddlinlcobaaGreatDoor
