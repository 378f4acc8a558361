/- seq.Each, seq.First: their walks. Conditions: the rule is right, it begins at a day. -/
import Derived.Test.YtkpmddlinlcobaaDoorSeqD
import Derived.RangeFuncBox
import Derived.Maps.OwnIn
import Derived.Maps.AppendAt
import Derived.Outline
namespace Go.Proofs.YtkpmddlinlcobaaDoor
open Go.RowKit Go.Shelf
set_option linter.unusedSimpArgs false
set_option linter.unusedVariables false
attribute [local go_sem] Oper.semAt_some

theorem ownsRow_block {W W' : World} {base : Nat} {e : TypeId} {size n : Nat} {v : Value} {xs : List Value} (h : W.ownsRow base e size v n xs) (hb : ∀ g, v.ownBlock = some g → W'.heap[g]? = W.heap[g]?) : W'.ownsRow base e size v n xs := by
  obtain ⟨hl, h2⟩ := h
  refine ⟨hl, ?_⟩
  rcases h2 with h | ⟨g, cap, cur, rfl, hb', hg, rest⟩
  · exact .inl h
  · exact .inr ⟨g, cap, cur, rfl, hb', (hb g rfl).trans hg, rest⟩

theorem ownsRow_lt {W : World} {base : Nat} {e : TypeId} {size n : Nat} {v : Value} {xs : List Value} (h : W.ownsRow base e size v n xs) : ∀ g, v.ownBlock = some g → base ≤ g ∧ g < W.heap.size := by
  intro g hg
  rcases h.2 with ⟨rfl, _⟩ | ⟨g', cap, cur, rfl, hb', hg', rest⟩
  · cases hg
  · obtain rfl : g' = g := by simpa [Value.ownBlock] using hg
    exact ⟨hb', (Array.getElem?_eq_some_iff.1 hg').1⟩

/-- what a function that collects days knows between two rounds: ob: the box of its list. -/
def Col (w0 : World) (ob : Nat) (T e : TypeId) (Pr : Nat → Prop) (xs : List Int) (W : World) : Prop :=
  (Below w0.heap.size w0 W ∧ w0.heap.size ≤ ob ∧ ∀ k, Pr k → k < W.heap.size) ∧ ∃ v, Boxed W ob T v ∧ W.ownsRow w0.heap.size e 1 v xs.length (xs.map (Value.int .i64)) ∧ ¬ Pr ob ∧ ∀ g, v.ownBlock = some g → ¬ Pr g

theorem Col.step {w0 : World} {ob : Nat} {T e : TypeId} {Pr Pr' : Nat → Prop} {xs : List Int} {W W' : World} (h : Col w0 ob T e Pr xs W) (hs : StepP w0.heap.size Pr W W') (hp : ∀ k, Pr' k → Pr k ∨ (W.heap.size ≤ k ∧ k < W'.heap.size)) : Col w0 ob T e Pr' xs W' := by
  obtain ⟨⟨hb, hob, hlt⟩, v, hv, hr, hn, hg⟩ := h
  have hss := hs.below.size
  refine ⟨⟨hb.trans hs.below, hob, fun k hk => ?_⟩, v, (hs.rest ob hv.lt hn).trans hv, ownsRow_block hr fun g e' => hs.rest g (ownsRow_lt hr g e').2 (hg g e'), fun h => ?_, fun g e' h => ?_⟩
  · rcases hp k hk with h | h
    · have := hlt k h; omega
    · exact h.2
  · rcases hp ob h with h | h
    · exact hn h
    · have := hv.lt; omega
  · rcases hp g h with h | h
    · exact hg g e' h
    · have := (ownsRow_lt hr g e').2; omega

/-- behind 'out = append(out, x)'. -/
theorem Col.add {w0 : World} {ob : Nat} {T e : TypeId} {Pr : Nat → Prop} {xs : List Int} {W w1 : World} {v v' : Value} {tmp : Obj} {x : Int}
    (hb : Below w0.heap.size w0 W ∧ w0.heap.size ≤ ob ∧ ∀ k, Pr k → k < W.heap.size) (hn : ¬ Pr ob) (hg : ∀ g, v.ownBlock = some g → ¬ Pr g)
    (hv1 : Boxed w1 ob T v) (hv2 : Boxed (w1.setCell ⟨ob, 0, none⟩ v') ob T v') (hr2 : (w1.setCell ⟨ob, 0, none⟩ v').ownsRow w0.heap.size e 1 v' (xs.length + 1) (xs.map (Value.int .i64) ++ [.int .i64 x]))
    (hb2 : Below w0.heap.size W (w1.setCell ⟨ob, 0, none⟩ v')) (hgrow : (W.alloc tmp).grownBy w1 v.ownBlock) (hat : v'.ownBlock = v.ownBlock ∨ v'.ownBlock = some (W.alloc tmp).heap.size) :
    KeepP w0.heap.size Pr W (w1.setCell ⟨ob, 0, none⟩ v') ∧ Col w0 ob T e Pr (xs ++ [x]) (w1.setCell ⟨ob, 0, none⟩ v') := by
  have hsz := hb2.size
  refine ⟨⟨hb2, fun k hk hp => ?_⟩, ⟨hb.1.trans hb2, hb.2.1, fun k hk => Nat.lt_of_lt_of_le (hb.2.2 k hk) hsz⟩, v', hv2, by simpa using hr2, hn, fun g e' h => ?_⟩
  · refine (setCell_block w1 ob k v' (fun e' => hn (by rw [← e']; exact hp))).trans ((hgrow.block k (by simp; omega) (fun e' => hg k e'.symm hp)).trans (Below.heap_alloc _ _ _ hk))
  · rcases hat with e2 | e2
    · exact hg g (e2.symm.trans e') h
    · rw [e2] at e'
      have := hb.2.2 g h
      simp at e'
      omega

/-- at the return behind the loop: the list is what it was. -/
theorem Col.fin {w0 W : World} {ob : Nat} {Pr : Nat → Prop} {e : TypeId} {v : Value} {xs : List Int} {D : Nat} {o : List Deferred} (hb : Below w0.heap.size w0 W ∧ w0.heap.size ≤ ob ∧ ∀ k, Pr k → k < W.heap.size)
    (hr : W.ownsRow w0.heap.size e 1 v xs.length (xs.map (Value.int .i64))) (hK : W.heap[D]? = some (.deferred (some o))) (hD : w0.heap.size ≤ D) :
    IntsR (W.putObj D (.deferred none)) v xs ∧ FreshV w0.heap.size v ∧ Below w0.heap.size w0 (W.putObj D (.deferred none)) := by
  refine ⟨intsR_of_owns (ownsRow_putObj hr (.deferred none) hK rfl), ?_, hb.1.trans (below_put W _ hD)⟩
  exact fun g e' => (ownsRow_lt hr g e').1

theorem FreshV.mono {a b : Nat} {v : Value} (h : FreshV b v) (hab : a ≤ b) : FreshV a v := fun g e' => Nat.le_trans hab (h g e')

theorem rlC_new (w : World) (t : TypeId) (fr ev ct ti : Int) (vm vd vw vp : Value) : RlC (w.alloc (.cells #[.int .i64 fr, .int .i64 ev, .int .i64 ct, .int .i64 ti, vm, vd, vw, vp] t)) w.heap.size fr ev ct ti vm vd vw vp := by
  have h := heap_alloc_new w (.cells #[.int .i64 fr, .int .i64 ev, .int .i64 ct, .int .i64 ti, vm, vd, vw, vp] t)
  refine ⟨?_, ?_, ?_, ?_, ?_, ?_, ?_, ?_⟩ <;> (simp only [World.cell?, h]; rfl)

set_option maxRecDepth 100000 in
set_option maxHeartbeats 1000000 in
theorem seach_any (fr ev ct ti st : Int) (vm vd vw vp : Value) (mo da : List Int) (we : List (Int × Int)) (pk : List Int) (w : World)
    (h1 : IntsR w vm mo) (h2 : IntsR w vd da) (h3 : PairsR w vw we) (h4 : IntsR w vp pk) :
    Calls Tryd.prog 24 #[.agg #[.int .i64 fr, .int .i64 ev, .int .i64 ct, .int .i64 ti, vm, vd, vw, vp], .int .i64 st] w
      fun e w' => e = .returned (.func (.func 46) #[] #[.pointer (some ⟨w.heap.size, 0, none⟩), .pointer (some ⟨w.heap.size + 1, 0, none⟩)]) ∧ (RlC w' w.heap.size fr ev ct ti vm vd vw vp ∧ w'.cell? ⟨w.heap.size + 1, 0, none⟩ = some (.int .i64 st)) ∧ Below w.heap.size w w' ∧ w'.heap.size = w.heap.size + 2 := by
  obtain ⟨am, km, rfl, _, _, _⟩ := intsR_open h1
  obtain ⟨ad, kd, rfl, _, _, _⟩ := intsR_open h2
  obtain ⟨aw, kw, rfl, _, _, _⟩ := pairsR_open h3
  obtain ⟨ap, kp, rfl, _, _, _⟩ := intsR_open h4
  go_enter Tryd.func24, Tryd.ntmps24
  go_wp2_with fail
  go_ret
  refine ⟨rfl, ⟨RlC.same (rlC_new w _ _ _ _ _ _ _ _ _) (Below.heap_alloc _ _ _ (by rw [World.size_alloc]; omega)), ?_⟩, ((Below.refl _ _).alloc (Nat.le_refl _) _).alloc (by rw [World.size_alloc]; omega) _, by rw [World.size_alloc, World.size_alloc]⟩
  have := (Boxed.new (w.alloc (.cells #[.int .i64 fr, .int .i64 ev, .int .i64 ct, .int .i64 ti, .slice am mo.length km, .slice ad da.length kd, .slice aw we.length kw, .slice ap pk.length kp] 25)) 3 (.int .i64 st)).cell
  rwa [World.size_alloc] at this

theorem take_pre {α : Type} {L p : List α} {x : α} (h : p ++ [x] <+: L) : p = L.take p.length := by
  obtain ⟨t, rfl⟩ := h
  simp

theorem intInfoS : (Tryd.prog.info? 3).map (fun i => (i.zero, i.size, i.bytes)) = some (some (.int .i64 0), 1, 8) := by kernel_rfl

theorem seqF_0 {n : Int} (h : 1 ≤ n ∧ n ≤ 109573) : seqF 0 n = 0 := by rw [seqF, if_neg (by decide), if_pos h]

end Go.Proofs.YtkpmddlinlcobaaDoor
