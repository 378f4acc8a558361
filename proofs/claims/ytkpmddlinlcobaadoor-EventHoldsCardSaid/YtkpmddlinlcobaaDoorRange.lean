/- A range over a function whose iterator keeps a count in a cell of its own: the law of the statement. No condition but the iterator's contract. -/
import Derived.RangeFuncLeaves
import Derived.RangeFuncSeq
import Derived.Shelf.Abstract
import Derived.Below
namespace Go.Proofs.YtkpmddlinlcobaaDoor
open Go.RowKit

/-- nothing below B has turned, and of the other blocks that lay those of Pr alone may have. -/
structure StepP (B : Nat) (Pr : Nat → Prop) (w w' : World) : Prop where
  below : Below B w w'
  rest : ∀ k, k < w.heap.size → ¬ Pr k → w'.heap[k]? = w.heap[k]?

/-- nothing below B has turned, nor has a block of Pr. -/
structure KeepP (B : Nat) (Pr : Nat → Prop) (w w' : World) : Prop where
  below : Below B w w'
  kept : ∀ k, k < w.heap.size → Pr k → w'.heap[k]? = w.heap[k]?

/-- an invariant that does not mind steps of the other party, which may take new blocks for its own. -/
def AbP (B : Nat) (J : (Nat → Prop) → List Int → World → Prop) : Prop :=
  ∀ Pr Pr' pre w w', J Pr pre w → StepP B Pr w w' → (∀ k, Pr' k → Pr k ∨ (w.heap.size ≤ k ∧ k < w'.heap.size)) → J Pr' pre w'

/-- the contract of an iterator: what it asks of each round, what it gives. Pr0: the blocks of its own that lie there at its call. -/
def SeqP (F : Fence) (n : Nat) (P : Program) (g : Nat) (lb : Array Value) (B : Nat) (Pr0 : Nat → Prop) (S Sp : List Int → Prop) (N : Nat) (w : World) : Prop :=
  ∀ (l : Nat) (J Jx : (Nat → Prop) → List Int → World → Prop) (W : World), Below w.heap.size w W → AbP B J → AbP B Jx →
    (∀ Pr pre x W1, J Pr pre W1 → pre.length < N → YieldAt F (n - 1) P l #[.int .i64 x] W1 fun e W' =>
      (e = .returned (.bool true) ∧ J Pr (pre ++ [x]) W' ∧ KeepP B Pr W1 W') ∨ (e = .returned (.bool false) ∧ Jx Pr (pre ++ [x]) W')) →
    J Pr0 [] W →
    CallsIn F n P g (#[.func (.yield l) #[] #[]] ++ lb) W fun e W' => (∃ v, e = .returned v) ∧ ((∃ Pr xs, S xs ∧ J Pr xs W') ∨ (∃ Pr pre, Sp pre ∧ Jx Pr pre W'))

/-- how the body of a round may be left. -/
def postP (B : Nat) (I : (Nat → Prop) → List Int → World → Prop) (Ix : Code → (Nat → Prop) → List Int → World → Prop) (Pr : Nat → Prop) (xs : List Int) (W : World) : Exit → Act → World → Prop
  | .normal, _, W' => KeepP B Pr W W' ∧ I Pr xs W'
  | .ret, _, W' => KeepP B Pr W W' ∧ Ix .ret Pr xs W'
  | .exit id, _, W' => KeepP B Pr W W' ∧ Ix (.exit id) Pr xs W'
  | .goto t, _, W' => KeepP B Pr W W' ∧ Ix (.goto t) Pr xs W'
  | .panic _, _, _ => False
  | .outgrown, _, _ => False

theorem below_put {B l : Nat} (W : World) (o : Obj) (h : B ≤ l) : Below B W (W.putObj l o) :=
  ⟨rfl, rfl, rfl, by simp, fun k hk => World.putObj_heap_other (by omega)⟩

theorem stepP_put {B l : Nat} {Pr : Nat → Prop} (W : World) (o : Obj) (h : B ≤ l) (hl : Pr l) : StepP B Pr W (W.putObj l o) :=
  ⟨below_put W o h, fun k _ hk => World.putObj_heap_other (fun e => hk (by rw [e]; exact hl))⟩

theorem stepP_alloc {B : Nat} {Pr : Nat → Prop} (W : World) (o : Obj) (h : B ≤ W.heap.size) : StepP B Pr W (W.alloc o) :=
  ⟨(Below.refl _ _).alloc h o, fun k hk _ => Below.heap_alloc W o k hk⟩

theorem StepP.trans {B : Nat} {Pr : Nat → Prop} {a b c : World} (h : StepP B Pr a b) (k : StepP B Pr b c) : StepP B Pr a c :=
  ⟨h.below.trans k.below, fun j hj hp => (k.rest j (Nat.lt_of_lt_of_le hj h.below.size) hp).trans (h.rest j hj hp)⟩

theorem StepP.widen {B : Nat} {Pr Pr' : Nat → Prop} {a b : World} (h : StepP B Pr a b) (hp : ∀ k, Pr k → Pr' k) : StepP B Pr' a b :=
  ⟨h.below, fun j hj hn => h.rest j hj (fun e => hn (hp j e))⟩

variable {F : Fence} {n : Nat} {P : Program}

theorem wpIn_rangeP {g : Operand} {ps : Array Tmp} {assign body : Code} {Q : Exit → Act → World → Prop} {a : Act} {w : World}
    (hro : F.round = none) (h1 : 1 ≤ n) {gf : Nat} {lb : Array Value} (hg : a.eval g = .func (.func gf) #[] lb) (hFg : F.fn gf) (eg : ∀ args w, (callFunc gf args).run P w = .ok (.enter gf args) w)
    {B : Nat} {Pr0 : Nat → Prop} {S Sp : List Int → Prop} {N : Nat} (hseq : SeqP F (n - 1) P gf lb B Pr0 S Sp N w) (hB : B ≤ w.heap.size) (hPr : ∀ k, Pr0 k → k < w.heap.size) (hps : ps.size = 1)
    (I : (Nat → Prop) → List Int → World → Prop) (Ix : Code → (Nat → Prop) → List Int → World → Prop) (hI : AbP B I) (hIx : ∀ c, AbP B (Ix c)) (h0 : I Pr0 [] w) (a₁ : Int → Act)
    (hassign : ∀ (l : Nat) (x : Int) (W : World) (K : Act → World → Prop), K (a₁ x) W →
      assign.wpIn (F.inRound l) (n - 1 - 1) P (Exit.then K (fun _ _ _ => False)) { tmps := (ps.zip #[Value.int .i64 x]).foldl (fun t (p, v) => t.setIfInBounds p v) a.tmps, defers := [] } W)
    (hbody : ∀ (l : Nat) (Pr : Nat → Prop) (pre : List Int) (x : Int) (W : World), I Pr pre W → pre.length < N → body.wpIn (F.inRound l) (n - 1 - 1) P (postP B I Ix Pr (pre ++ [x]) W) (a₁ x) W)
    (hdone : ∀ (D : Nat) (Pr : Nat → Prop) (xs : List Int) (W : World), w.heap.size ≤ D → S xs → I Pr xs W → W.heap[D]? = some (.deferred (some [])) → Q .normal { a with defers := { target := .collected D, args := #[] } :: a.defers } W)
    (hstop : ∀ (D : Nat) (c : Code) (Pr : Nat → Prop) (pre : List Int) (W : World), w.heap.size ≤ D → Sp pre → Ix c Pr pre W → W.heap[D]? = some (.deferred (some [])) → c.wpIn F n P Q { a with defers := { target := .collected D, args := #[] } :: a.defers } W) :
    (Code.rangeFunc g ps assign body).wpIn F n P Q a w := by
  refine wpIn_rangeFunc fun fn hfn => ?_
  rw [hro]
  obtain ⟨D, hD⟩ : ∃ D, D = w.heap.size := ⟨_, rfl⟩
  obtain ⟨L, hL⟩ : ∃ L, L = w.heap.size + 1 := ⟨_, rfl⟩
  obtain ⟨rec, hrec⟩ : ∃ rec : LoopState → Option Code → Loop, rec = fun st pe => { state := st, pending := pe, fn, tmps := a.tmps, params := ps, assign, body, defers := w.heap.size } := ⟨_, rfl⟩
  obtain ⟨W1, hW1⟩ : ∃ W1, W1 = (w.alloc (.deferred (some []))).alloc (.loop (rec .ready none)) := ⟨_, rfl⟩
  have recL : W1.heap[L]? = some (.loop (rec .ready none)) := by
    rw [hW1, hL]; have := World.alloc_heap_new (w.alloc (.deferred (some []))) (.loop (rec .ready none)); rwa [World.size_alloc] at this
  have recD : W1.heap[D]? = some (.deferred (some [])) := by
    rw [hW1, hD]; exact (Below.heap_alloc _ _ _ (by simp)).trans (World.alloc_heap_new w _)
  have st1 : StepP B Pr0 w W1 := by rw [hW1]; exact (stepP_alloc w _ hB).trans (stepP_alloc _ _ (by simp; omega))
  have hb1 : Below w.heap.size w W1 := by rw [hW1]; exact ((Below.refl _ w).alloc (Nat.le_refl _) _).alloc (by simp) _
  have hDL : D ≠ L := by omega
  have hBD : B ≤ D := by omega
  have hBL : B ≤ L := by omega
  have hwD : w.heap.size ≤ D := by omega
  refine ⟨L, [{ target := .collected D, args := #[] }], W1, { target := .fn (.func gf) lb, args := #[.func (.yield L) #[] #[]] }, W1, gf, #[.func (.yield L) #[] #[]] ++ lb, W1, ?_, ?_, ?_, ?_, fun _ => h1, ?_⟩
  · rw [hW1, hrec, hL, hD]; exact run_enterLoop_outer _ _ _ _ _
  · simp only [resolve, hg]
    simp [go_sem]
  · intro f' hf'; simp [Target.leads] at hf'; subst hf'; exact hFg
  · simp [invoke, go_sem, eg]
  have lt_of : ∀ {X : World} {k : Nat} {o : Obj}, X.heap[k]? = some o → k < X.heap.size := fun h => (Array.getElem?_eq_some_iff.1 h).1
  refine (hseq L (fun Pr pre W => I (fun k => Pr k ∨ k = L ∨ k = D) pre W ∧ (W.heap[L]? = some (.loop (rec .ready none)) ∧ W.heap[D]? = some (.deferred (some []))) ∧ ¬ Pr L ∧ ¬ Pr D)
    (fun Pr pre W => ∃ c, Ix c (fun k => Pr k ∨ k = L ∨ k = D) pre W ∧ (W.heap[L]? = some (.loop (rec .done (some c))) ∧ W.heap[D]? = some (.deferred (some []))) ∧ ¬ Pr L ∧ ¬ Pr D)
    W1 hb1 ?_ ?_ ?_ ?_).mono ?_
  · rintro Pr Pr' pre X X' ⟨hi, ⟨hl, hd⟩, nl, nd⟩ hs hp
    refine ⟨hI _ _ _ _ _ hi (hs.widen fun k hk => .inl hk) (fun k hk => ?_), ⟨(hs.rest L (lt_of hl) nl).trans hl, (hs.rest D (lt_of hd) nd).trans hd⟩, fun h => ?_, fun h => ?_⟩
    · rcases hk with hk | hk | hk
      · exact (hp k hk).imp .inl id
      · exact .inl (.inr (.inl hk))
      · exact .inl (.inr (.inr hk))
    · rcases hp L h with h | h
      · exact nl h
      · have := lt_of hl; omega
    · rcases hp D h with h | h
      · exact nd h
      · have := lt_of hd; omega
  · rintro Pr Pr' pre X X' ⟨c, hi, ⟨hl, hd⟩, nl, nd⟩ hs hp
    refine ⟨c, hIx c _ _ _ _ _ hi (hs.widen fun k hk => .inl hk) (fun k hk => ?_), ⟨(hs.rest L (lt_of hl) nl).trans hl, (hs.rest D (lt_of hd) nd).trans hd⟩, fun h => ?_, fun h => ?_⟩
    · rcases hk with hk | hk | hk
      · exact (hp k hk).imp .inl id
      · exact .inl (.inr (.inl hk))
      · exact .inl (.inr (.inr hk))
    · rcases hp L h with h | h
      · exact nl h
      · have := lt_of hl; omega
    · rcases hp D h with h | h
      · exact nd h
      · have := lt_of hd; omega
  · rintro Pr pre x W ⟨hi, ⟨hl, hd⟩, nl, nd⟩ hlen
    have hy := run_yield (P := P) (args := #[Value.int .i64 x]) hl (by rw [hrec]; exact hps.symm)
    rw [hrec] at hy
    refine ⟨fn, _, assign, body, hy, roundIn_of_wpIn hfn (hassign _ x W _ ⟨_, run_beginRound hl (by rw [hrec]), ?_⟩)⟩
    obtain ⟨W2, hW2⟩ : ∃ W2, W2 = W.putObj L (.loop { rec .ready none with state := .busy }) := ⟨_, rfl⟩
    rw [← hW2]
    have l2 : W2.heap[L]? = some (.loop { rec .ready none with state := .busy }) := by rw [hW2]; exact World.putObj_heap_same (lt_of hl)
    have o2 : ∀ k, k ≠ L → W2.heap[k]? = W.heap[k]? := fun k hk => by rw [hW2]; exact World.putObj_heap_other hk
    have i2 : I (fun k => Pr k ∨ k = L ∨ k = D) pre W2 := by
      rw [hW2]; exact hI _ _ _ _ _ hi (stepP_put W _ hBL (.inr (.inl rfl))) (fun k hk => .inl hk)
    have b2 : Below B W W2 := by rw [hW2]; exact below_put W _ hBL
    refine wpIn_mono (hbody L _ pre x W2 i2 hlen) ?_
    have fin : ∀ (jump : Option Code) (W3 : World), KeepP B (fun k => Pr k ∨ k = L ∨ k = D) W2 W3 →
        (Instr.endRound L jump).run P W3 = .ok (.bool jump.isNone) (W3.putObj L (.loop (rec (if jump.isNone then .ready else .done) jump))) ∧
        (W3.putObj L (.loop (rec (if jump.isNone then .ready else .done) jump))).heap[L]? = some (.loop (rec (if jump.isNone then .ready else .done) jump)) ∧
        (W3.putObj L (.loop (rec (if jump.isNone then .ready else .done) jump))).heap[D]? = some (.deferred (some [])) := fun jump W3 hk => by
      have l3 := (hk.kept L (lt_of l2) (.inr (.inl rfl))).trans l2
      have d3 := (hk.kept D (lt_of ((o2 D hDL).trans hd)) (.inr (.inr rfl))).trans ((o2 D hDL).trans hd)
      have := run_endRound (P := P) jump l3
      rw [hrec] at this ⊢
      exact ⟨this, World.putObj_heap_same (lt_of l3), (World.putObj_heap_other hDL).trans d3⟩
    have put3 : ∀ (W3 : World) (o : Obj), StepP B (fun k => Pr k ∨ k = L ∨ k = D) W3 (W3.putObj L o) := fun W3 o => stepP_put W3 o hBL (.inr (.inl rfl))
    rintro e a3 W3 hp
    cases e with
    | normal =>
      obtain ⟨hk, hi3⟩ := hp
      obtain ⟨hr, l4, d4⟩ := fin none W3 hk
      refine ⟨_, _, hr, .inl ⟨rfl, ⟨hI _ _ _ _ _ hi3 (put3 W3 _) (fun k hk => .inl hk), ⟨l4, d4⟩, nl, nd⟩, (b2.trans hk.below).trans (below_put W3 _ hBL), fun k hlk hPk => ?_⟩⟩
      have hkL : k ≠ L := fun e => nl (by rw [← e]; exact hPk)
      exact (World.putObj_heap_other hkL).trans ((hk.kept k (Nat.lt_of_lt_of_le hlk b2.size) (.inl hPk)).trans (o2 k hkL))
    | ret =>
      obtain ⟨hk, hi3⟩ := hp
      obtain ⟨hr, l4, d4⟩ := fin (some .ret) W3 hk
      exact ⟨_, _, hr, .inr ⟨rfl, .ret, hIx _ _ _ _ _ _ hi3 (put3 W3 _) (fun k hk => .inl hk), ⟨l4, d4⟩, nl, nd⟩⟩
    | exit id =>
      obtain ⟨hk, hi3⟩ := hp
      obtain ⟨hr, l4, d4⟩ := fin (some (.exit id)) W3 hk
      exact ⟨_, _, hr, .inr ⟨rfl, .exit id, hIx _ _ _ _ _ _ hi3 (put3 W3 _) (fun k hk => .inl hk), ⟨l4, d4⟩, nl, nd⟩⟩
    | goto t =>
      obtain ⟨hk, hi3⟩ := hp
      obtain ⟨hr, l4, d4⟩ := fin (some (.goto t)) W3 hk
      exact ⟨_, _, hr, .inr ⟨rfl, .goto t, hIx _ _ _ _ _ _ hi3 (put3 W3 _) (fun k hk => .inl hk), ⟨l4, d4⟩, nl, nd⟩⟩
    | panic ch => exact hp.elim
    | outgrown => exact hp.elim
  · have hW1s : W1.heap.size = w.heap.size + 2 := by rw [hW1]; simp
    refine ⟨hI _ _ _ _ _ h0 st1 (fun k hk => ?_), ⟨recL, recD⟩, fun h => ?_, fun h => ?_⟩
    · rcases hk with hk | hk | hk
      · exact .inl hk
      · exact .inr (by omega)
      · exact .inr (by omega)
    · have := hPr L h; omega
    · have := hPr D h; omega
  · rintro e W2 ⟨⟨v, rfl⟩, (⟨Pr, xs, hS, hi, ⟨hl, hd⟩, _, _⟩ | ⟨Pr, pre, hSp, c, hi, ⟨hl, hd⟩, _, _⟩)⟩
    · exact ⟨none, _, by have := run_endLoop (P := P) hl (by rw [hrec]; simp); rw [hrec] at this; exact this,
        hdone D _ xs _ hwD hS (hI _ _ _ _ _ hi (stepP_put W2 _ hBL (.inr (.inl rfl))) (fun k hk => .inl hk)) ((World.putObj_heap_other hDL).trans hd)⟩
    · exact ⟨some c, _, by have := run_endLoop (P := P) hl (by rw [hrec]; simp); rw [hrec] at this; exact this,
        hstop D c _ pre _ hwD hSp (hIx c _ _ _ _ _ hi (stepP_put W2 _ hBL (.inr (.inl rfl))) (fun k hk => .inl hk)) ((World.putObj_heap_other hDL).trans hd)⟩

end Go.Proofs.YtkpmddlinlcobaaDoor
