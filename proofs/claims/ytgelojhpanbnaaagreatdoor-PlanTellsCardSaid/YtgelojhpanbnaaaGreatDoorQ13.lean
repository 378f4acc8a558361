/- Texts joined into one (a claim has at most 60 files): seq.Each, seq.First: their walks; event.Of's closure that keeps a time: its contract; slices.DeleteFunc at event.Of's closure, at a row that the call owns; its closure; event.Of of an event that does not repeat: its contract; seq.Count: its walk. -/
import Derived.Test.YtgelojhpanbnaaaGreatDoorQ12
import Derived.RangeFuncBox
import Derived.Maps.OwnIn
import Derived.Maps.AppendAt
import Derived.Outline
import Derived.Laws.EntriesVeiled
import Derived.Test.YtgelojhpanbnaaaGreatDoorShDel
import Derived.Test.YtgelojhpanbnaaaGreatDoorQ17
import Derived.Lib.SliceRun
import Derived.Test.YtgelojhpanbnaaaGreatDoorEvC
import Derived.Deep.Onto
namespace Go.Proofs.YtgelojhpanbnaaaGreatDoor
open Go.RowKit Go.Shelf
set_option linter.unusedSimpArgs false
set_option linter.unusedVariables false
attribute [local go_sem] Oper.semAt_some

theorem ownsRow_block {W W' : World} {base : Nat} {e : TypeId} {size n : Nat} {v : Value} {xs : List Value} (h : W.ownsRow base e size v n xs) (hb : ∀ g, v.ownBlock = some g → W'.heap[g]? = W.heap[g]?) : W'.ownsRow base e size v n xs := by
  obtain ⟨hl, h2⟩ := h
  refine ⟨hl, ?_⟩
  rcases h2 with h | ⟨g, cap, cur, rfl, hb', hg, rest⟩
  · exact .inl h
  · exact .inr ⟨g, cap, cur, rfl, hb', (hb g rfl).trans hg, rest⟩

theorem ownsRow_lt {W : World} {base : Nat} {e : TypeId} {size n : Nat} {v : Value} {xs : List Value} (h : W.ownsRow base e size v n xs) : ∀ g, v.ownBlock = some g → base ≤ g ∧ g < W.heap.size := by
  intro g hg
  rcases h.2 with ⟨rfl, _⟩ | ⟨g', cap, cur, rfl, hb', hg', rest⟩
  · cases hg
  · obtain rfl : g' = g := by simpa [Value.ownBlock] using hg
    exact ⟨hb', (Array.getElem?_eq_some_iff.1 hg').1⟩

def Col (w0 : World) (ob : Nat) (T e : TypeId) (Pr : Nat → Prop) (xs : List Int) (W : World) : Prop :=
  (Below w0.heap.size w0 W ∧ w0.heap.size ≤ ob ∧ ∀ k, Pr k → k < W.heap.size) ∧ ∃ v, Boxed W ob T v ∧ W.ownsRow w0.heap.size e 1 v xs.length (xs.map (Value.int .i64)) ∧ ¬ Pr ob ∧ ∀ g, v.ownBlock = some g → ¬ Pr g

theorem Col.step {w0 : World} {ob : Nat} {T e : TypeId} {Pr Pr' : Nat → Prop} {xs : List Int} {W W' : World} (h : Col w0 ob T e Pr xs W) (hs : StepP w0.heap.size Pr W W') (hp : ∀ k, Pr' k → Pr k ∨ (W.heap.size ≤ k ∧ k < W'.heap.size)) : Col w0 ob T e Pr' xs W' := by
  obtain ⟨⟨hb, hob, hlt⟩, v, hv, hr, hn, hg⟩ := h
  have hss := hs.below.size
  refine ⟨⟨hb.trans hs.below, hob, fun k hk => ?_⟩, v, (hs.rest ob hv.lt hn).trans hv, ownsRow_block hr fun g e' => hs.rest g (ownsRow_lt hr g e').2 (hg g e'), fun h => ?_, fun g e' h => ?_⟩
  · rcases hp k hk with h | h
    · have := hlt k h; omega
    · exact h.2
  · rcases hp ob h with h | h
    · exact hn h
    · have := hv.lt; omega
  · rcases hp g h with h | h
    · exact hg g e' h
    · have := (ownsRow_lt hr g e').2; omega

theorem Col.add {w0 : World} {ob : Nat} {T e : TypeId} {Pr : Nat → Prop} {xs : List Int} {W w1 : World} {v v' : Value} {tmp : Obj} {x : Int}
    (hb : Below w0.heap.size w0 W ∧ w0.heap.size ≤ ob ∧ ∀ k, Pr k → k < W.heap.size) (hn : ¬ Pr ob) (hg : ∀ g, v.ownBlock = some g → ¬ Pr g)
    (hv1 : Boxed w1 ob T v) (hv2 : Boxed (w1.setCell ⟨ob, 0, none⟩ v') ob T v') (hr2 : (w1.setCell ⟨ob, 0, none⟩ v').ownsRow w0.heap.size e 1 v' (xs.length + 1) (xs.map (Value.int .i64) ++ [.int .i64 x]))
    (hb2 : Below w0.heap.size W (w1.setCell ⟨ob, 0, none⟩ v')) (hgrow : (W.alloc tmp).grownBy w1 v.ownBlock) (hat : v'.ownBlock = v.ownBlock ∨ v'.ownBlock = some (W.alloc tmp).heap.size) :
    KeepP w0.heap.size Pr W (w1.setCell ⟨ob, 0, none⟩ v') ∧ Col w0 ob T e Pr (xs ++ [x]) (w1.setCell ⟨ob, 0, none⟩ v') := by
  have hsz := hb2.size
  refine ⟨⟨hb2, fun k hk hp => ?_⟩, ⟨hb.1.trans hb2, hb.2.1, fun k hk => Nat.lt_of_lt_of_le (hb.2.2 k hk) hsz⟩, v', hv2, by simpa using hr2, hn, fun g e' h => ?_⟩
  · refine (setCell_block w1 ob k v' (fun e' => hn (by rw [← e']; exact hp))).trans ((hgrow.block k (by simp; omega) (fun e' => hg k e'.symm hp)).trans (Below.heap_alloc _ _ _ hk))
  · rcases hat with e2 | e2
    · exact hg g (e2.symm.trans e') h
    · rw [e2] at e'
      have := hb.2.2 g h
      simp at e'
      omega

theorem Col.fin {w0 W : World} {ob : Nat} {Pr : Nat → Prop} {e : TypeId} {v : Value} {xs : List Int} {D : Nat} {o : List Deferred} (hb : Below w0.heap.size w0 W ∧ w0.heap.size ≤ ob ∧ ∀ k, Pr k → k < W.heap.size)
    (hr : W.ownsRow w0.heap.size e 1 v xs.length (xs.map (Value.int .i64))) (hK : W.heap[D]? = some (.deferred (some o))) (hD : w0.heap.size ≤ D) :
    IntsR (W.putObj D (.deferred none)) v xs ∧ FreshV w0.heap.size v ∧ Below w0.heap.size w0 (W.putObj D (.deferred none)) := by
  refine ⟨intsR_of_owns (ownsRow_putObj hr (.deferred none) hK rfl), ?_, hb.1.trans (below_put W _ hD)⟩
  exact fun g e' => (ownsRow_lt hr g e').1

theorem FreshV.mono {a b : Nat} {v : Value} (h : FreshV b v) (hab : a ≤ b) : FreshV a v := fun g e' => Nat.le_trans hab (h g e')

theorem rlC_new (w : World) (t : TypeId) (fr ev ct ti : Int) (vm vd vw vp : Value) : RlC (w.alloc (.cells #[.int .i64 fr, .int .i64 ev, .int .i64 ct, .int .i64 ti, vm, vd, vw, vp] t)) w.heap.size fr ev ct ti vm vd vw vp := by
  have h := heap_alloc_new w (.cells #[.int .i64 fr, .int .i64 ev, .int .i64 ct, .int .i64 ti, vm, vd, vw, vp] t)
  refine ⟨?_, ?_, ?_, ?_, ?_, ?_, ?_, ?_⟩ <;> (simp only [World.cell?, h]; rfl)

set_option maxRecDepth 100000 in
set_option maxHeartbeats 1000000 in
theorem seach_any (fr ev ct ti st : Int) (vm vd vw vp : Value) (mo da : List Int) (we : List (Int × Int)) (pk : List Int) (w : World)
    (h1 : IntsR w vm mo) (h2 : IntsR w vd da) (h3 : PairsR w vw we) (h4 : IntsR w vp pk) :
    Calls Tryz.prog 75 #[.agg #[.int .i64 fr, .int .i64 ev, .int .i64 ct, .int .i64 ti, vm, vd, vw, vp], .int .i64 st] w
      fun e w' => e = .returned (.func (.func 144) #[] #[.pointer (some ⟨w.heap.size, 0, none⟩), .pointer (some ⟨w.heap.size + 1, 0, none⟩)]) ∧ (RlC w' w.heap.size fr ev ct ti vm vd vw vp ∧ w'.cell? ⟨w.heap.size + 1, 0, none⟩ = some (.int .i64 st)) ∧ Below w.heap.size w w' ∧ w'.heap.size = w.heap.size + 2 := by
  obtain ⟨am, km, rfl, _, _, _⟩ := intsR_open h1
  obtain ⟨ad, kd, rfl, _, _, _⟩ := intsR_open h2
  obtain ⟨aw, kw, rfl, _, _, _⟩ := pairsR_open h3
  obtain ⟨ap, kp, rfl, _, _, _⟩ := intsR_open h4
  go_enter Tryz.func75, Tryz.ntmps75
  go_wp2_with fail
  go_ret
  refine ⟨rfl, ⟨RlC.same (rlC_new w _ _ _ _ _ _ _ _ _) (Below.heap_alloc _ _ _ (by rw [World.size_alloc]; omega)), ?_⟩, ((Below.refl _ _).alloc (Nat.le_refl _) _).alloc (by rw [World.size_alloc]; omega) _, by rw [World.size_alloc, World.size_alloc]⟩
  have := (Boxed.new (w.alloc (.cells #[.int .i64 fr, .int .i64 ev, .int .i64 ct, .int .i64 ti, .slice am mo.length km, .slice ad da.length kd, .slice aw we.length kw, .slice ap pk.length kp] 25)) 3 (.int .i64 st)).cell
  rwa [World.size_alloc] at this

theorem intInfoS : (Tryz.prog.info? 3).map (fun i => (i.zero, i.size, i.bytes)) = some (some (.int .i64 0), 1, 8) := by kernel_rfl

end Go.Proofs.YtgelojhpanbnaaaGreatDoor

namespace Go.Proofs.YtgelojhpanbnaaaGreatDoor
open Go.RowKit Go.Shelf
set_option linter.unusedSimpArgs false
set_option linter.unusedVariables false

def inR (a b : Int) (L : List Int) : List Int := L.filter fun t => decide (a ≤ t) && decide (t ≤ b)

theorem inR_append (a b : Int) (L K : List Int) : inR a b (L ++ K) = inR a b L ++ inR a b K := List.filter_append ..

theorem inR_yes {a b x : Int} (h1 : a ≤ x) (h2 : x ≤ b) : inR a b [x] = [x] := by simp [inR, h1, h2]

theorem inR_no {a b x : Int} (h : ¬ (a ≤ x ∧ x ≤ b)) : inR a b [x] = [] := by simp [inR]; omega

theorem KeepP.refl {B : Nat} {Pr : Nat → Prop} (W : World) : KeepP B Pr W W := ⟨Below.refl _ _, fun _ _ _ => rfl⟩

set_option maxRecDepth 100000 in
set_option maxHeartbeats 2000000 in
theorem keep_col (x a b : Int) (pf pt ob : Nat) (w0 : World) (Pr : Nat → Prop) (xs : List Int) (W : World) (h : Col w0 ob 22 3 Pr xs W) (cf : W.cell? ⟨pf, 0, none⟩ = some (.int .i64 a)) (ct : W.cell? ⟨pt, 0, none⟩ = some (.int .i64 b)) (hl : xs.length ≤ 4398046511104) :
    Calls Tryz.prog 152 #[.int .i64 x, .pointer (some ⟨pf, 0, none⟩), .pointer (some ⟨pt, 0, none⟩), .pointer (some ⟨ob, 0, none⟩)] W
      fun e W' => e = .returned (.tuple #[]) ∧ KeepP w0.heap.size Pr W W' ∧ Col w0 ob 22 3 Pr (xs ++ inR a b [x]) W' := by
  obtain ⟨i0, hi, hz0, hz1, hz2⟩ := info_parts intInfoS
  by_cases h1 : a ≤ x
  · by_cases h2 : x ≤ b
    · have E := Lib.hid (inR_yes h1 h2)
      have t1 : decide (a ≤ x) = true := decide_eq_true h1
      have t2 : decide (x ≤ b) = true := decide_eq_true h2
      obtain ⟨hb, v, hv, hrow, hno, hng⟩ := h
      have hc := hv.cell
      obtain ⟨va, vc, rfl⟩ : ∃ va vc, v = .slice va xs.length vc := by
        rcases hrow.2 with ⟨e1, e2⟩ | ⟨g, cap, cur, e1, _⟩
        · exact ⟨none, 0, by rw [e1, e2]⟩
        · exact ⟨_, cap, e1⟩
      have hWs := hb.1.size
      clear h1 h2
      go_enter Tryz.func152, Tryz.ntmps152
      go_wp2_with (at_builtin; refine wpList_append_own_at _ rfl _ _ 22 rfl w0.heap.size 3 i0 (.int .i64 0) 1 8 Tryz.underlying22 hi hz0 hz1 hz2 rfl (by decide) _ _ _ rfl (hrow.alloc _) ⟨W.heap.size, 0, none⟩ 1 1 [.int .i64 x] rfl rfl (cell_one_new _ _ _) (by simp [Value.oneCell']) (by unfold maxLen; omega) (by omega) (by rw [World.size_alloc]; omega) ?_; intro v' w2 hown' hgrow _ hat; obtain ⟨g', cap', rfl⟩ := ownsRow_succ hown'; obtain ⟨hv1, hv2, hr2, hk2, hb2⟩ := hv.appended (by decide) hrow hWs hb.2.1 hown' hgrow; have hc1 := hv1.cell; have hf1 := hv1.frozen)
      obtain ⟨k1, k2⟩ := Col.add hb hno hng hv1 hv2 hr2 hb2 hgrow hat
      exact bodyPost_end (v := .tuple #[]) (results_none rfl _ _ _) rfl ⟨rfl, k1, by rw [E.out]; exact k2⟩
    · have E := Lib.hid (inR_no (fun h : a ≤ x ∧ x ≤ b => h2 h.2))
      have t1 : decide (a ≤ x) = true := decide_eq_true h1
      have t2 : decide (x ≤ b) = false := decide_eq_false h2
      have H := Lib.hid h
      clear h1 h2 h
      go_enter Tryz.func152, Tryz.ntmps152
      go_wp2
      exact bodyPost_end (v := .tuple #[]) (results_none rfl _ _ _) rfl ⟨rfl, KeepP.refl _, by rw [E.out, List.append_nil]; exact H.out⟩
  · have E := Lib.hid (inR_no (fun h : a ≤ x ∧ x ≤ b => h1 h.1))
    have t1 : decide (a ≤ x) = false := decide_eq_false h1
    have H := Lib.hid h
    clear h1 h
    go_enter Tryz.func152, Tryz.ntmps152
    go_wp2
    exact bodyPost_end (v := .tuple #[]) (results_none rfl _ _ _) rfl ⟨rfl, KeepP.refl _, by rw [E.out, List.append_nil]; exact H.out⟩

end Go.Proofs.YtgelojhpanbnaaaGreatDoor

namespace Go.Proofs.YtgelojhpanbnaaaGreatDoor
open Go.RowKit Go.Sort Go.Lib Go.Shelf
set_option linter.unusedSimpArgs false
set_option linter.unusedVariables false

theorem scont_same (v : Value) (N : List Int) (x : Int) (w : World) (h : IntsR w v N) :
    Calls Tryz.prog 155 #[v, .int .i64 x] w fun e w' => e = .returned (.bool (inB N x)) ∧ w = w' := by
  obtain ⟨a, cap, rfl, k1, k2, hc⟩ := intsR_open h
  by_cases h0 : N.length = 0
  · have : N = [] := List.length_eq_zero_iff.1 h0
    subst this
    exact (Tryz.slices_Contains_int_empty a cap x w).mono fun e w' ⟨e1, e2⟩ => ⟨e1, e2.symm⟩
  · obtain ⟨b, off, rfl, hcs⟩ := hc (by omega)
    refine (Tryz.slices_Contains_int b off N.length cap N x w (Nat.le_refl _) (by unfold maxLen at k2; omega) (fun j hj => by rw [hcs j hj]; simp [hj])).mono ?_
    rintro e w' ⟨rfl, rfl⟩
    exact ⟨by rw [List.take_length, inB, List.contains_eq_mem], rfl⟩

theorem ofnot_any (x : Int) (eb : Nat) (vN : Value) (N : List Int) (W : World) (hc : W.cell? ⟨eb, 14, none⟩ = some vN) (hN : IntsR W vN N) :
    Calls Tryz.prog 154 #[.int .i64 x, .pointer (some ⟨eb, 0, none⟩)] W fun e w' => e = .returned (.bool (inB N x)) ∧ W = w' := by
  obtain ⟨a, cap, rfl, k1, k2, -⟩ := intsR_open hN
  obtain ⟨q, hq⟩ : ∃ q, q = inB N x := ⟨_, rfl⟩
  have Q := Lib.hid hq
  rw [← hq]
  have HN := Lib.hid hN
  clear hq hN
  go_enter Tryz.func154, Tryz.ntmps154
  go_wp2_with fail
  refine (scont_same _ N x _ HN.out).mono ?_; rintro e w1 ⟨rfl, rfl⟩
  rw [← Q.out]
  go_wp2
  go_ret
  exact ⟨rfl, rfl⟩

def notIn (N L : List Int) : List Int := L.filter fun t => !inB N t

theorem notIn_le (N L : List Int) : (notIn N L).length ≤ L.length := List.length_filter_le ..

set_option maxHeartbeats 1000000 in
theorem del_own {base : Nat} (v : Value) (xs : List Int) (eb : Nat) (vN : Value) (N : List Int) (w : World) (hown : w.ownsRow base 3 1 v xs.length (xs.map (Value.int .i64))) (hlen : xs.length ≤ 9223372036854775807) (hbase : base ≤ w.heap.size)
    (hK : ∀ W, Below base w W → W.cell? ⟨eb, 14, none⟩ = some vN ∧ IntsR W vN N) :
    Calls Tryz.prog 153 #[v, .func (.func 154) #[] #[.pointer (some ⟨eb, 0, none⟩)]] w fun e w' => ∃ u, e = .returned u ∧ w'.ownsRow base 3 1 u (notIn N xs).length ((notIn N xs).map (Value.int .i64)) ∧ w.grownBy w' v.ownBlock := by
  have hown0 := hown
  have gives : ∀ (W : World) (x : Int), Below base w W → FnGives Tryz.prog 154 #[.pointer (some ⟨eb, 0, none⟩)] #[.int .i64 x] (.bool (inB N x)) W := fun W x hb => by
    show Calls Tryz.prog 154 #[.int .i64 x, .pointer (some ⟨eb, 0, none⟩)] W _
    refine (ofnot_any x eb vN N W (hK W hb).1 (hK W hb).2).mono ?_
    rintro e w' ⟨rfl, rfl⟩
    exact ⟨rfl, 0, rfl⟩
  rcases hown.2 with ⟨rfl, h0⟩ | ⟨g, cap, cur, rfl, hb, hg, hn, hc, hs, ht⟩
  · have hx : xs = [] := List.length_eq_zero_iff.1 h0
    subst hx
    clear hown hK gives
    have HO := Lib.hid hown0
    clear hown0
    go_enter Tryz.func153, Tryz.ntmps153
    go_wp2_with fail
    refine (Tryz.slices_IndexFunc_empty (α := Int) none 0 _ w).mono ?_; rintro e w1 ⟨rfl, h1⟩
    subst h1
    go_wp2
    go_ret
    exact ⟨_, rfl, HO.out, World.grownBy.refl _ _⟩
  · have hH : Holds (Value.int .i64) w g 0 xs.toArray := holds_of_blockI hg (by simpa using ht)
    have eg : ∀ args w, (callFunc 154 args).run Tryz.prog w = .ok (.enter 154 args) w := enters_of Tryz.func154 (by kernel_rfl) rfl
    have h := Tryz.slices_DeleteFunc (α := Int) (Value.int .i64) (fun _ => rfl) (inB N) 154 #[.pointer (some ⟨eb, 0, none⟩)] eg 0 Tryz.zeroValue3 g 0 cap xs.toArray w
      (fun W x hb' => gives W x (hb'.mono hbase))
      (fun n os dk x _ => gives _ x ((Below.refl base w).grown (grownBy_sortedI dk) hbase (fun k e => by cases e; exact hb)))
      hH (by simpa using hlen) (by simpa using hn)
    have hsz : xs.toArray.size = xs.length := by simp
    rw [hsz] at h
    refine h.mono fun e w' ⟨he, q, hw⟩ => ⟨_, he, ?_, ?_⟩
    · subst hw
      have h2 := ownsRow_putRow (q := q) (k := (notIn N xs).length) (ys := notIn N xs ++ List.replicate (xs.length - (notIn N xs).length) 0) hown0 (by have := notIn_le N xs; simp; omega) (notIn_le N xs)
      rw [List.take_left] at h2
      exact h2
    · subst hw
      have h2 := grownBy_sortedI (w := w) (g := g) (n := q) (os := #[]) (notIn N xs ++ List.replicate (xs.length - (notIn N xs).length) 0).toArray
      rw [grow_empty] at h2
      exact h2

end Go.Proofs.YtgelojhpanbnaaaGreatDoor

namespace Go.Proofs.YtgelojhpanbnaaaGreatDoor
open Go.RowKit Go.Shelf
set_option linter.unusedSimpArgs false
set_option linter.unusedVariables false

def evL (B M N : List Int) (a b : Int) : List Int := notIn N (Lib.compact (srt (inR a b B ++ inR a b M)))

def OwnI (B : Nat) (w : World) (v : Value) (L : List Int) : Prop := w.ownsRow B 3 1 v L.length (L.map (Value.int .i64))

theorem OwnI.ints {B : Nat} {w : World} {v : Value} {L : List Int} (h : OwnI B w v L) : IntsR w v L := intsR_of_owns h

theorem OwnI.none (B : Nat) (w : World) : OwnI B w (.slice none 0 0) [] := World.ownsRow_nil _ _ _ _

theorem OwnI.below {B : Nat} {w w' : World} {v : Value} {L : List Int} (h : OwnI B w v L) (hb : Below w.heap.size w w') : OwnI B w' v L := own_kept h hb

theorem compact_le (L : List Int) : (Lib.compact L).length ≤ L.length := Lib.compact_length_le L

theorem evL_len (B M N : List Int) (a b : Int) : (evL B M N a b).length ≤ B.length + M.length := by
  have h1 := notIn_le N (Lib.compact (srt (inR a b B ++ inR a b M)))
  have h2 := compact_le (srt (inR a b B ++ inR a b M))
  rw [srt_len, List.length_append] at h2
  have h3 : (inR a b B).length ≤ B.length := List.length_filter_le ..
  have h4 : (inR a b M).length ≤ M.length := List.length_filter_le ..
  unfold evL; omega

set_option maxRecDepth 100000 in
set_option maxHeartbeats 8000000 in
theorem evof_once (snm stx : ByteArray) (st ln : Int) (fr ev ct ti : Int) (vm vd vw vp vM vN vC vA : Value) (M N : List Int) (a b : Int) (w : World)
    (hvm : vm.oneCell' = true) (hvd : vd.oneCell' = true) (hvw : vw.oneCell' = true) (hvp : vp.oneCell' = true) (hvC : vC.oneCell' = true) (hvA : vA.oneCell' = true) (hM : IntsR w vM M) (hN : IntsR w vN N) (hMl : M.length ≤ 100) :
    Calls Tryz.prog 80 #[.agg #[.string snm, .string stx, .int .i64 st, .int .i64 ln, .bool false, .int .i64 fr, .int .i64 ev, .int .i64 ct, .int .i64 ti, vm, vd, vw, vp, vM, vN, vC, vA], .int .i64 a, .int .i64 b] w
      fun e w' => ∃ v, e = .returned v ∧ OwnI w.heap.size w' v (evL [st] M N a b) ∧ Below w.heap.size w w' := by
  obtain ⟨aM, kM, rfl, -, kM2, -⟩ := intsR_open hM
  obtain ⟨aN, kN, rfl, -, kN2, -⟩ := intsR_open hN
  obtain ⟨eb, heb⟩ : ∃ x, x = w.heap.size := ⟨_, rfl⟩
  obtain ⟨w0, hw0⟩ : ∃ x, x = w.alloc (.cells #[.string snm, .string stx, .int .i64 st, .int .i64 ln, .bool false, .int .i64 fr, .int .i64 ev, .int .i64 ct, .int .i64 ti, vm, vd, vw, vp, .slice aM M.length kM, .slice aN N.length kN, vC, vA] 29) := ⟨_, rfl⟩
  have hb0 : Below w.heap.size w w0 := by rw [hw0]; exact (Below.refl _ _).alloc (Nat.le_refl _) _
  have hs0 : w0.heap.size = w.heap.size + 1 := by rw [hw0]; simp
  have ec := hw0 ▸ evC_new w 29 snm stx st ln false fr ev ct ti vm vd vw vp (.slice aM M.length kM) (.slice aN N.length kN) vC vA
  obtain ⟨wa, hwa⟩ : ∃ x, x = w0.alloc (.cells #[.int .i64 a] 3) := ⟨_, rfl⟩
  have hba : Below w0.heap.size w0 wa := by rw [hwa]; exact (Below.refl _ _).alloc (Nat.le_refl _) _
  have hsa : wa.heap.size = w0.heap.size + 1 := by rw [hwa]; simp
  have ca : wa.cell? ⟨w0.heap.size, 0, none⟩ = some (.int .i64 a) := by rw [hwa]; simp
  obtain ⟨wb, hwb⟩ : ∃ x, x = wa.alloc (.cells #[.int .i64 b] 3) := ⟨_, rfl⟩
  have hbb : Below wa.heap.size wa wb := by rw [hwb]; exact (Below.refl _ _).alloc (Nat.le_refl _) _
  have hsb : wb.heap.size = wa.heap.size + 1 := by rw [hwb]; simp
  have cb : wb.cell? ⟨wa.heap.size, 0, none⟩ = some (.int .i64 b) := by rw [hwb]; simp
  have ca := cell_below hbb ca
  have ec := (ec.below hba).below hbb
  have hbwb : Below w.heap.size w wb := (hb0.trans (hba.mono hb0.size)).trans (hbb.mono (by omega))
  obtain ⟨wc, hwc⟩ : ∃ x, x = wb.alloc (.cells #[.slice none 0 0] 22) := ⟨_, rfl⟩
  have hsc : wc.heap.size = wb.heap.size + 1 := by rw [hwc]; simp
  have bO : Boxed wc wb.heap.size 22 (.slice none 0 0) := by rw [hwc]; exact Boxed.new wb 22 (.slice none 0 0)
  have hbc : Below wb.heap.size wb wc := by rw [hwc]; exact (Below.refl _ _).alloc (Nat.le_refl _) _
  obtain ⟨wd, hwd⟩ : ∃ x, x = wc.alloc (.cells #[.func (.func 152) #[] #[.pointer (some ⟨eb + 1, 0, none⟩), .pointer (some ⟨eb + 1 + 1, 0, none⟩), .pointer (some ⟨wb.heap.size, 0, none⟩)]] 149) := ⟨_, rfl⟩
  have bK : Boxed wd wc.heap.size 149 (.func (.func 152) #[] #[.pointer (some ⟨eb + 1, 0, none⟩), .pointer (some ⟨eb + 1 + 1, 0, none⟩), .pointer (some ⟨wb.heap.size, 0, none⟩)]) := by rw [hwd]; exact Boxed.new wc 149 _
  have hbd : Below wb.heap.size wb wd := by rw [hwd]; exact hbc.alloc (by omega) _
  have bO : Boxed wd wb.heap.size 22 (.slice none 0 0) := by rw [hwd]; exact (Below.heap_alloc _ _ _ (by omega)).trans bO
  have col : Col wb wb.heap.size 22 3 (fun k => k = wc.heap.size) [] wd := ⟨⟨hbd, Nat.le_refl _, by rintro k rfl; exact bK.lt⟩, _, bO, World.ownsRow_nil _ _ _ _, by omega, fun g h => by cases h⟩
  have CO := Lib.hid col; have BK := Lib.hid bK; have EC := Lib.hid ec; have CA := Lib.hid ca; have CB := Lib.hid cb; have BB := Lib.hid hbwb; have BD := Lib.hid hbd
  have RM := Lib.hid (hM.below hbwb); have RN := Lib.hid (hN.below hbwb)
  have W0 := Lib.hid hw0; have WA := Lib.hid hwa; have WB := Lib.hid hwb; have WC := Lib.hid hwc; have WD := Lib.hid hwd
  have EB := Lib.hid heb
  have q0 : w0.heap.size = eb + 1 := by omega
  have q1 : wa.heap.size = eb + 1 + 1 := by omega
  have q2 : wb.heap.size = eb + 1 + 1 + 1 := by omega
  have q3 : wc.heap.size = wb.heap.size + 1 := hsc
  rw [← heb] at EC
  rw [q0] at CA; rw [q1] at CB
  have Q2 := Lib.hid q2; have Q3 := Lib.hid q3
  clear hM hN hw0 hb0 hs0 ec hwa hba hsa ca hwb hbb hsb cb hbwb hwc hsc bO hbc hwd bK hbd col heb q0 q1 q2 q3
  go_enter Tryz.func80, Tryz.ntmps80
  go_upto_region 1 with fail
  rw [← W0.out, ← WA.out, ← WB.out]
  rw [← EB.out]
  go_upto_region 2 with fail
  rw [← WC.out]
  go_upto_region 3 with fail
  rw [← WD.out]
  have k2 := (EC.out.below BD.out).k2
  have k4 := (EC.out.below BD.out).k4
  have kk := BK.out.cell
  go_wp2_with fail
  refine (keep_col st a b _ _ wb.heap.size wb _ [] _ CO.out (cell_below BD.out CA.out) (cell_below BD.out CB.out) (by simp)).mono ?_; rintro e w5 ⟨rfl, hk5, hc5⟩
  have BK5 := Lib.hid (show Boxed w5 wc.heap.size 149 _ from (hk5.kept _ BK.out.lt rfl).trans BK.out)
  have CO5 := Lib.hid hc5
  have B5 := Lib.hid hc5.1.1
  clear hk5 hc5 k2 k4 kk
  rw [List.nil_append] at CO5
  obtain ⟨X0, hX0⟩ : ∃ x, x = inR a b [st] := ⟨_, rfl⟩
  rw [← hX0] at CO5
  have X0E := Lib.hid hX0
  have x0l : X0.length ≤ 1 := by rw [hX0]; exact List.length_filter_le ..
  clear hX0
  have k13 := (EC.out.below B5.out).k13
  go_wp2_with fail
  clear k13
  obtain ⟨a6, c6, e6, _, _, hds⟩ := intsR_open RM.out
  cases e6
  have HC := Lib.hid hds
  clear hds
  go_loopg [49] M.length (fun g iv wr => ∃ (k : Nat) (XS : List Int), k ≤ M.length ∧ iv = .int .i64 k ∧ g = M.length - k ∧ Hid (XS = X0 ++ inR a b (M.take k)) ∧ Col wb wb.heap.size 22 3 (fun k => k = wc.heap.size) XS wr ∧ Boxed wr wc.heap.size 149 (.func (.func 152) #[] #[.pointer (some ⟨eb + 1, 0, none⟩), .pointer (some ⟨eb + 1 + 1, 0, none⟩), .pointer (some ⟨wb.heap.size, 0, none⟩)]))
  case atStart => exact ⟨0, X0, Nat.zero_le _, rfl, rfl, Lib.hid (by simp [inR]), CO5.out, BK5.out⟩
  case round =>
    obtain ⟨k, XS, hk, rfl, hg, XE, hcol, hbk⟩ := hrel
    have G := Lib.hid hg
    have xl : XS.length ≤ 101 := by
      have h := congrArg List.length XE.out
      have h2 : (inR a b (M.take k)).length ≤ (M.take k).length := List.length_filter_le ..
      have h3 := List.length_take_le k M
      rw [List.length_append] at h; omega
    have hb := hcol.1.1
    have BW := Lib.hid hb
    have i1 : (0 : Int) ≤ (k : Int) := Int.natCast_nonneg _
    clear hg
    by_cases hlt : k < M.length
    · obtain ⟨mb, mo2, rfl, hcs⟩ := HC.out (by omega)
      have c0 := cell_below hb (hcs k hlt)
      obtain ⟨x, hx⟩ : ∃ x, x = M[k] := ⟨_, rfl⟩
      rw [← hx] at c0
      have X := Lib.hid (show inR a b (M.take (k + 1)) = inR a b (M.take k) ++ inR a b [x] by rw [List.take_succ_eq_append_getElem hlt, inR_append, hx])
      have kk := hbk.cell
      have CW := Lib.hid hcol; have BKW := Lib.hid hbk
      clear hx hcs hcol hbk hb
      have i2 : (k : Int) < (M.length : Int) := by omega
      go_wp2_with fail
      refine (keep_col x a b _ _ wb.heap.size wb _ XS _ CW.out (cell_below BW.out CA.out) (cell_below BW.out CB.out) (by omega)).mono ?_; rintro e w6 ⟨rfl, hk6, hc6⟩
      have BK6 := Lib.hid (show Boxed w6 wc.heap.size 149 _ from (hk6.kept _ BKW.out.lt rfl).trans BKW.out)
      have CO6 := Lib.hid hc6
      clear hk6 hc6 c0 kk
      go_wp2
      go_roundg (M.length - (k + 1))
      case measure => rw [G.out]; omega
      case rel => exact ⟨k + 1, _, by omega, by go_num, rfl, Lib.hid (by rw [X.out, XE.out, List.append_assoc]), CO6.out, BK6.out⟩
    · obtain rfl : k = M.length := by omega
      have i2 : ¬ (M.length : Int) < (M.length : Int) := by omega
      have XF := Lib.hid (show XS = inR a b [st] ++ inR a b M by have := XE.out; rw [List.take_length] at this; rw [this, X0E.out])
      obtain ⟨⟨_, _, _⟩, v, hv, hrow, hno, hng⟩ := hcol
      have hc := hv.cell
      have HV := Lib.hid hv; have HR := Lib.hid hrow
      clear hv hrow hno hng hbk hb
      go_wp2_with fail
      refine (sort_own v XS _ HR.out (by omega)).mono ?_; rintro e w7 ⟨rfl, hrow7, hg7⟩
      have hv7 : Boxed w7 wb.heap.size 22 v := HV.out.kept hg7 (HV.out.not_row (by decide) HR.out)
      have B7 := Lib.hid (BW.out.grown hg7 BW.out.size (ownBlock_ge HR.out))
      have hc7 := hv7.cell
      obtain ⟨ys, hys⟩ : ∃ ys, ys = srt XS := ⟨_, rfl⟩
      have yl : ys.length ≤ 101 := by rw [hys, srt_len]; exact xl
      have HR7 := Lib.hid (show w7.ownsRow wb.heap.size 3 1 v ys.length (ys.map (Value.int .i64)) by rw [hys, srt_len]; exact hrow7)
      have YE := Lib.hid hys
      clear hrow7 hg7 hv7 hc hys
      go_wp2_with fail
      refine (compact_own v ys _ HR7.out (by omega)).mono ?_; rintro e w8 ⟨u, rfl, hrow8, hg8⟩
      have B8 := Lib.hid (B7.out.grown hg8 B7.out.size (ownBlock_ge HR7.out))
      obtain ⟨zs, hzs⟩ : ∃ zs, zs = Lib.compact ys := ⟨_, rfl⟩
      rw [← hzs] at hrow8
      have zl : zs.length ≤ 101 := by rw [hzs]; exact Nat.le_trans (compact_le ys) yl
      have HR8 := Lib.hid hrow8
      have ZE := Lib.hid hzs
      clear hrow8 hg8 hc7 hzs
      go_wp2_with fail
      refine (del_own u zs eb _ N _ HR8.out (by omega) B8.out.size (fun W hbW => ⟨(EC.out.below (B8.out.trans hbW)).k14, RN.out.below (B8.out.trans hbW)⟩)).mono ?_; rintro e w9 ⟨u2, rfl, hrow9, hg9⟩
      have B9 := Lib.hid (B8.out.grown hg9 B8.out.size (ownBlock_ge HR8.out))
      have HR9 := Lib.hid hrow9
      have OE := Lib.hid (show notIn N zs = evL [st] M N a b by rw [evL, ZE.out, YE.out, XF.out])
      clear hrow9 hg9
      go_wp2
      go_ret
      exact ⟨_, rfl, by rw [← OE.out]; exact World.ownsRow.mono HR9.out BB.out.size, BB.out.trans (B9.out.mono BB.out.size)⟩

end Go.Proofs.YtgelojhpanbnaaaGreatDoor

namespace Go.Proofs.YtgelojhpanbnaaaGreatDoor
open Go.RowKit Go.Shelf
set_option linter.unusedSimpArgs false
set_option linter.unusedVariables false
attribute [local go_sem] Oper.semAt_some

def Var (ob : Nat) (T : TypeId) (v : Value) (Pr : Nat → Prop) (W : World) : Prop := Boxed W ob T v ∧ ¬ Pr ob

def Lay (w0 : World) (Pr : Nat → Prop) (W : World) : Prop := Below w0.heap.size w0 W ∧ ∀ k, Pr k → k < W.heap.size

theorem Lay.step {w0 : World} {Pr Pr' : Nat → Prop} {W W' : World} (h : Lay w0 Pr W) (hs : StepP w0.heap.size Pr W W') (hp : ∀ k, Pr' k → Pr k ∨ (W.heap.size ≤ k ∧ k < W'.heap.size)) : Lay w0 Pr' W' := by
  have hss := hs.below.size
  refine ⟨h.1.trans hs.below, fun k hk => ?_⟩
  rcases hp k hk with h' | h'
  · have := h.2 k h'; omega
  · exact h'.2

theorem Var.step {B ob : Nat} {T : TypeId} {v : Value} {Pr Pr' : Nat → Prop} {W W' : World} (h : Var ob T v Pr W) (hs : StepP B Pr W W') (hp : ∀ k, Pr' k → Pr k ∨ (W.heap.size ≤ k ∧ k < W'.heap.size)) : Var ob T v Pr' W' := by
  refine ⟨(hs.rest ob h.1.lt h.2).trans h.1, fun h' => ?_⟩
  rcases hp ob h' with h' | h'
  · exact h.2 h'
  · have := h.1.lt; omega

theorem Var.set {w0 : World} {ob : Nat} {T : TypeId} {v : Value} {Pr : Nat → Prop} {W : World} (v' : Value) (h : Var ob T v Pr W) (hl : Lay w0 Pr W) (hb : w0.heap.size ≤ ob) :
    KeepP w0.heap.size Pr W (W.setCell ⟨ob, 0, none⟩ v') ∧ Var ob T v' Pr (W.setCell ⟨ob, 0, none⟩ v') ∧ Lay w0 Pr (W.setCell ⟨ob, 0, none⟩ v') := by
  have hbl : Below w0.heap.size W (W.setCell ⟨ob, 0, none⟩ v') := (Below.refl _ _).setCell (p := ⟨ob, 0, none⟩) hb v'
  exact ⟨⟨hbl, fun k hk hp => setCell_block W ob k v' (fun e => h.2 (by rw [← e]; exact hp))⟩, ⟨h.1.set v', h.2⟩, hl.1.trans hbl, fun k hk => Nat.lt_of_lt_of_le (hl.2 k hk) hbl.size⟩

end Go.Proofs.YtgelojhpanbnaaaGreatDoor
