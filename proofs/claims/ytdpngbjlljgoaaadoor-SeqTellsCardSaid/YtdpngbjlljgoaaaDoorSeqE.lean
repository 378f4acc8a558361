/- seq.Each, seq.First: their walks. Conditions: the rule is right, it begins at a day. -/
import Derived.Test.YtdpngbjlljgoaaaDoorSeqD
import Derived.RangeFuncBox
import Derived.Maps.OwnIn
import Derived.Maps.AppendAt
import Derived.Outline
namespace Go.Proofs.YtdpngbjlljgoaaaDoor
open Go.RowKit Go.Shelf
set_option linter.unusedSimpArgs false
set_option linter.unusedVariables false
attribute [local go_sem] Oper.semAt_some

theorem ownsRow_block {W W' : World} {base : Nat} {e : TypeId} {size n : Nat} {v : Value} {xs : List Value} (h : W.ownsRow base e size v n xs) (hb : ∀ g, v.ownBlock = some g → W'.heap[g]? = W.heap[g]?) : W'.ownsRow base e size v n xs := by
  obtain ⟨hl, h2⟩ := h
  refine ⟨hl, ?_⟩
  rcases h2 with h | ⟨g, cap, cur, rfl, hb', hg, rest⟩
  · exact .inl h
  · exact .inr ⟨g, cap, cur, rfl, hb', (hb g rfl).trans hg, rest⟩

theorem ownsRow_lt {W : World} {base : Nat} {e : TypeId} {size n : Nat} {v : Value} {xs : List Value} (h : W.ownsRow base e size v n xs) : ∀ g, v.ownBlock = some g → base ≤ g ∧ g < W.heap.size := by
  intro g hg
  rcases h.2 with ⟨rfl, _⟩ | ⟨g', cap, cur, rfl, hb', hg', rest⟩
  · cases hg
  · obtain rfl : g' = g := by simpa [Value.ownBlock] using hg
    exact ⟨hb', (Array.getElem?_eq_some_iff.1 hg').1⟩

/-- what a function that collects days knows between two rounds: ob: the box of its list. -/
def Col (w0 : World) (ob : Nat) (T e : TypeId) (Pr : Nat → Prop) (xs : List Int) (W : World) : Prop :=
  (Below w0.heap.size w0 W ∧ w0.heap.size ≤ ob ∧ ∀ k, Pr k → k < W.heap.size) ∧ ∃ v, Boxed W ob T v ∧ W.ownsRow w0.heap.size e 1 v xs.length (xs.map (Value.int .i64)) ∧ ¬ Pr ob ∧ ∀ g, v.ownBlock = some g → ¬ Pr g

theorem Col.step {w0 : World} {ob : Nat} {T e : TypeId} {Pr Pr' : Nat → Prop} {xs : List Int} {W W' : World} (h : Col w0 ob T e Pr xs W) (hs : StepP w0.heap.size Pr W W') (hp : ∀ k, Pr' k → Pr k ∨ (W.heap.size ≤ k ∧ k < W'.heap.size)) : Col w0 ob T e Pr' xs W' := by
  obtain ⟨⟨hb, hob, hlt⟩, v, hv, hr, hn, hg⟩ := h
  have hss := hs.below.size
  refine ⟨⟨hb.trans hs.below, hob, fun k hk => ?_⟩, v, (hs.rest ob hv.lt hn).trans hv, ownsRow_block hr fun g e' => hs.rest g (ownsRow_lt hr g e').2 (hg g e'), fun h => ?_, fun g e' h => ?_⟩
  · rcases hp k hk with h | h
    · have := hlt k h; omega
    · exact h.2
  · rcases hp ob h with h | h
    · exact hn h
    · have := hv.lt; omega
  · rcases hp g h with h | h
    · exact hg g e' h
    · have := (ownsRow_lt hr g e').2; omega

/-- behind 'out = append(out, x)'. -/
theorem Col.add {w0 : World} {ob : Nat} {T e : TypeId} {Pr : Nat → Prop} {xs : List Int} {W w1 : World} {v v' : Value} {tmp : Obj} {x : Int}
    (hb : Below w0.heap.size w0 W ∧ w0.heap.size ≤ ob ∧ ∀ k, Pr k → k < W.heap.size) (hn : ¬ Pr ob) (hg : ∀ g, v.ownBlock = some g → ¬ Pr g)
    (hv1 : Boxed w1 ob T v) (hv2 : Boxed (w1.setCell ⟨ob, 0, none⟩ v') ob T v') (hr2 : (w1.setCell ⟨ob, 0, none⟩ v').ownsRow w0.heap.size e 1 v' (xs.length + 1) (xs.map (Value.int .i64) ++ [.int .i64 x]))
    (hb2 : Below w0.heap.size W (w1.setCell ⟨ob, 0, none⟩ v')) (hgrow : (W.alloc tmp).grownBy w1 v.ownBlock) (hat : v'.ownBlock = v.ownBlock ∨ v'.ownBlock = some (W.alloc tmp).heap.size) :
    KeepP w0.heap.size Pr W (w1.setCell ⟨ob, 0, none⟩ v') ∧ Col w0 ob T e Pr (xs ++ [x]) (w1.setCell ⟨ob, 0, none⟩ v') := by
  have hsz := hb2.size
  refine ⟨⟨hb2, fun k hk hp => ?_⟩, ⟨hb.1.trans hb2, hb.2.1, fun k hk => Nat.lt_of_lt_of_le (hb.2.2 k hk) hsz⟩, v', hv2, by simpa using hr2, hn, fun g e' h => ?_⟩
  · refine (setCell_block w1 ob k v' (fun e' => hn (by rw [← e']; exact hp))).trans ((hgrow.block k (by simp; omega) (fun e' => hg k e'.symm hp)).trans (Below.heap_alloc _ _ _ hk))
  · rcases hat with e2 | e2
    · exact hg g (e2.symm.trans e') h
    · rw [e2] at e'
      have := hb.2.2 g h
      simp at e'
      omega

/-- at the return behind the loop: the list is what it was. -/
theorem Col.fin {w0 W : World} {ob : Nat} {Pr : Nat → Prop} {e : TypeId} {v : Value} {xs : List Int} {D : Nat} {o : List Deferred} (hb : Below w0.heap.size w0 W ∧ w0.heap.size ≤ ob ∧ ∀ k, Pr k → k < W.heap.size)
    (hr : W.ownsRow w0.heap.size e 1 v xs.length (xs.map (Value.int .i64))) (hK : W.heap[D]? = some (.deferred (some o))) (hD : w0.heap.size ≤ D) :
    IntsR (W.putObj D (.deferred none)) v xs ∧ FreshV w0.heap.size v ∧ Below w0.heap.size w0 (W.putObj D (.deferred none)) := by
  refine ⟨intsR_of_owns (ownsRow_putObj hr (.deferred none) hK rfl), ?_, hb.1.trans (below_put W _ hD)⟩
  exact fun g e' => (ownsRow_lt hr g e').1

theorem FreshV.mono {a b : Nat} {v : Value} (h : FreshV b v) (hab : a ≤ b) : FreshV a v := fun g e' => Nat.le_trans hab (h g e')

theorem rlC_new (w : World) (t : TypeId) (fr ev ct ti : Int) (vm vd vw vp : Value) : RlC (w.alloc (.cells #[.int .i64 fr, .int .i64 ev, .int .i64 ct, .int .i64 ti, vm, vd, vw, vp] t)) w.heap.size fr ev ct ti vm vd vw vp := by
  have h := heap_alloc_new w (.cells #[.int .i64 fr, .int .i64 ev, .int .i64 ct, .int .i64 ti, vm, vd, vw, vp] t)
  refine ⟨?_, ?_, ?_, ?_, ?_, ?_, ?_, ?_⟩ <;> (simp only [World.cell?, h]; rfl)

set_option maxRecDepth 100000 in
set_option maxHeartbeats 1000000 in
theorem seach_any (fr ev ct ti st : Int) (vm vd vw vp : Value) (mo da : List Int) (we : List (Int × Int)) (pk : List Int) (w : World)
    (h1 : IntsR w vm mo) (h2 : IntsR w vd da) (h3 : PairsR w vw we) (h4 : IntsR w vp pk) :
    Calls Tryd.prog 65 #[.agg #[.int .i64 fr, .int .i64 ev, .int .i64 ct, .int .i64 ti, vm, vd, vw, vp], .int .i64 st] w
      fun e w' => e = .returned (.func (.func 107) #[] #[.pointer (some ⟨w.heap.size, 0, none⟩), .pointer (some ⟨w.heap.size + 1, 0, none⟩)]) ∧ (RlC w' w.heap.size fr ev ct ti vm vd vw vp ∧ w'.cell? ⟨w.heap.size + 1, 0, none⟩ = some (.int .i64 st)) ∧ Below w.heap.size w w' ∧ w'.heap.size = w.heap.size + 2 := by
  obtain ⟨am, km, rfl, _, _, _⟩ := intsR_open h1
  obtain ⟨ad, kd, rfl, _, _, _⟩ := intsR_open h2
  obtain ⟨aw, kw, rfl, _, _, _⟩ := pairsR_open h3
  obtain ⟨ap, kp, rfl, _, _, _⟩ := intsR_open h4
  go_enter Tryd.func65, Tryd.ntmps65
  go_wp2_with fail
  go_ret
  refine ⟨rfl, ⟨RlC.same (rlC_new w _ _ _ _ _ _ _ _ _) (Below.heap_alloc _ _ _ (by rw [World.size_alloc]; omega)), ?_⟩, ((Below.refl _ _).alloc (Nat.le_refl _) _).alloc (by rw [World.size_alloc]; omega) _, by rw [World.size_alloc, World.size_alloc]⟩
  have := (Boxed.new (w.alloc (.cells #[.int .i64 fr, .int .i64 ev, .int .i64 ct, .int .i64 ti, .slice am mo.length km, .slice ad da.length kd, .slice aw we.length kw, .slice ap pk.length kp] 25)) 3 (.int .i64 st)).cell
  rwa [World.size_alloc] at this

theorem take_pre {α : Type} {L p : List α} {x : α} (h : p ++ [x] <+: L) : p = L.take p.length := by
  obtain ⟨t, rfl⟩ := h
  simp

theorem intInfoS : (Tryd.prog.info? 3).map (fun i => (i.zero, i.size, i.bytes)) = some (some (.int .i64 0), 1, 8) := by kernel_rfl

theorem seqF_0 {n : Int} (h : 1 ≤ n ∧ n ≤ 109573) : seqF 0 n = 0 := by rw [seqF, if_neg (by decide), if_pos h]

set_option maxRecDepth 100000 in
set_option maxHeartbeats 2000000 in
theorem sfirst_in (m : Nat) (fr ev ct ti y mm d st n : Int) (vm vd vw vp : Value) (mo da : List Int) (we : List (Int × Int)) (pk : List Int) (w : World) (hw : Months w)
    (h1 : IntsR w vm mo) (h2 : IntsR w vd da) (h3 : PairsR w vw we) (h4 : IntsR w vp pk) (hd : Cal.dateB y mm d = true) (hst : Cal.num y mm d = st) (hF : ruleF fr ev ct ti mo da we pk = 0) (hn : 0 ≤ n ∧ n ≤ 200) :
    CallsIn Fence.wide (m + 1) Tryd.prog 11 #[.agg #[.int .i64 fr, .int .i64 ev, .int .i64 ct, .int .i64 ti, vm, vd, vw, vp], .int .i64 st, .int .i64 n] w
      fun e w' => ∃ v, e = .returned (.tuple #[v, .nilIface]) ∧ (IntsR w' v ((eachL fr ev ct ti y mm d mo da we pk st).take n.toNat) ∧ FreshV w.heap.size v) ∧ Below w.heap.size w w' := by
  obtain ⟨i0, hi, hz0, hz1, hz2⟩ := info_parts intInfoS
  obtain ⟨am, km, rfl, _, _, _⟩ := intsR_open h1
  obtain ⟨ad, kd, rfl, _, _, _⟩ := intsR_open h2
  obtain ⟨aw, kw, rfl, _, _, _⟩ := pairsR_open h3
  obtain ⟨ap, kp, rfl, _, _, _⟩ := intsR_open h4
  have hR := rlAt_new w 25 fr ev ct ti _ _ _ _ mo da we pk h1 h2 h3 h4
  obtain ⟨n1, n2⟩ := hn
  obtain ⟨E, hE⟩ : ∃ E, E = eachL fr ev ct ti y mm d mo da we pk st := ⟨_, rfl⟩
  rw [← hE]
  refine callsIn_of_wp_marks Tryd.func11 rfl trivial ?_ rfl
  simp only [Tryd.ntmps11, List.size_toArray, List.length_cons, List.length_nil, Nat.reduceAdd, Nat.reduceSub, Array.replicate_succ, Array.replicate_zero, List.push_toArray, List.append_toArray, List.nil_append, List.cons_append]
  gi_wp2_with fail
  refine ⟨trivial, ?_⟩
  have hb0 : Below w.heap.size w ((w.alloc (.cells #[.int .i64 fr, .int .i64 ev, .int .i64 ct, .int .i64 ti, .slice am mo.length km, .slice ad da.length kd, .slice aw we.length kw, .slice ap pk.length kp] 25)).alloc (.cells #[.int .i64 n] 3)) := ((Below.refl _ _).alloc (Nat.le_refl _) _).alloc (by rw [World.size_alloc]; omega) _
  have hst1 : 1 ≤ st ∧ st ≤ 109573 := hst ▸ (Cal.num_bd hd).2.2
  refine (callsIn_wide.2 (sready_any fr ev ct ti st _ _ _ _ mo da we pk _ (h1.below hb0) (h2.below hb0) (h3.below hb0) (h4.below hb0))).mono ?_; rintro e w1 ⟨rfl, hb1⟩
  rw [hF, seqF_0 hst1, errV_0]
  have hbw : Below w.heap.size w w1 := hb0.trans (hb1.mono hb0.size)
  have hsz1 : w.heap.size + 2 ≤ w1.heap.size := by have := hb1.size; rw [World.size_alloc, World.size_alloc] at this; exact this
  have hr1 : RlC w1 w.heap.size fr ev ct ti _ _ _ _ := ((rlC_new w 25 fr ev ct ti _ _ _ _).same (Below.heap_alloc _ _ _ (by rw [World.size_alloc]; omega))).same (hb1.block _ (by rw [World.size_alloc, World.size_alloc]; omega))
  obtain ⟨c0, c1, c2, c3, c4, c5, c6, c7⟩ := hr1
  have hn1 : w1.cell? ⟨w.heap.size + 1, 0, none⟩ = some (.int .i64 n) := (cell_block (hb1.block _ (by rw [World.size_alloc, World.size_alloc]; omega))).trans (by
    have := (Boxed.new (w.alloc (.cells #[.int .i64 fr, .int .i64 ev, .int .i64 ct, .int .i64 ti, .slice am mo.length km, .slice ad da.length kd, .slice aw we.length kw, .slice ap pk.length kp] 25)) 3 (.int .i64 n)).cell
    rwa [World.size_alloc] at this)
  have hbB : Below w1.heap.size w1 (w1.alloc (.cells #[.slice none 0 0] 22)) := (Below.refl _ _).alloc (Nat.le_refl _) _
  have HW := hw.below hbw; have I1 := h1.below hbw; have I2 := h2.below hbw; have I3 := h3.below hbw; have I4 := h4.below hbw
  have d0 := cell_below hbB c0; have d1 := cell_below hbB c1; have d2 := cell_below hbB c2; have d3 := cell_below hbB c3; have d4 := cell_below hbB c4; have d5 := cell_below hbB c5; have d6 := cell_below hbB c6; have d7 := cell_below hbB c7
  gi_wp2_with fail
  refine ⟨trivial, ?_⟩
  refine (callsIn_wide.2 (seach_any fr ev ct ti st _ _ _ _ mo da we pk _ (I1.below hbB) (I2.below hbB) (I3.below hbB) (I4.below hbB))).mono ?_; rintro e w3 ⟨rfl, ⟨hr3, hs3⟩, hb3, hz3⟩
  rw [World.size_alloc] at hr3 hs3 hz3
  have hb3' : Below w1.heap.size w1 w3 := hbB.trans (hb3.mono hbB.size)
  gi_wp2_with fail
  have bO : Boxed w3 w1.heap.size 22 (.slice none 0 0) := (hb3.block _ (by rw [World.size_alloc]; omega)).trans (Boxed.new w1 22 (.slice none 0 0))
  have HN := Lib.hid hn1; have EE := Lib.hid hE; have HF := Lib.hid hF; have HD := Lib.hid hd; have HS := Lib.hid hst; have BW := Lib.hid hbw; have B3 := Lib.hid hb3'; have R3 := Lib.hid hr3; have S3 := Lib.hid hs3; have Z3 := Lib.hid hz3
  refine wpIn_rangeP rfl (Nat.succ_le_succ (Nat.zero_le m)) (gf := 107) (lb := #[.pointer (some ⟨w1.heap.size + 1, 0, none⟩), .pointer (some ⟨w1.heap.size + 1 + 1, 0, none⟩)]) rfl trivial (enters_of Tryd.func107 (by kernel_rfl) rfl)
    (each_seq m fr ev ct ti y mm d st _ _ _ _ mo da we pk w1 w3 HW I1 I2 I3 I4 HD.out HS.out HF.out (w1.heap.size + 1) (w1.heap.size + 1 + 1) B3.out R3.out S3.out) B3.out.size (by rintro k (rfl | rfl) <;> omega) rfl
    (fun Pr pre W => Col w1 w1.heap.size 22 3 Pr pre W ∧ pre.length ≤ n.toNat)
    (fun c Pr pre W => c = .exit 0 ∧ ∃ p x, pre = p ++ [x] ∧ p.length = n.toNat ∧ Col w1 w1.heap.size 22 3 Pr p W)
    (fun Pr Pr' pre wa wb h hs hp => ⟨h.1.step hs hp, h.2⟩) (by rintro c Pr Pr' pre wa wb ⟨h1, p, x, h2, h3, h⟩ hs hp; exact ⟨h1, p, x, h2, h3, h.step hs hp⟩)
    ⟨⟨⟨B3.out, Nat.le_refl _, by rintro k (rfl | rfl) <;> omega⟩, _, bO, World.ownsRow_nil _ _ _ _, by rintro (h | h) <;> omega, fun g h => by cases h⟩, Nat.zero_le _⟩ ?a1 ?assign ?body ?done ?stop
  case assign =>
    intro l x W K hK
    gi_wp2
    exact hK
  case body =>
    clear hr3 hs3 hb3 hb3' bO d0 d1 d2 d3 d4 d5 d6 d7 c0 c1 c2 c3 c4 c5 c6 c7 hn1 hE hbB hb0 hb1 hbw hR hw h1 h2 h3 h4 hd hst hF HW I1 I2 I3 I4
    rintro l Pr pre x W ⟨⟨hb, v, hv, hrow, hno, hng⟩, hle⟩ hlt
    have hc := hv.cell
    have hcn : W.cell? ⟨w.heap.size + 1, 0, none⟩ = some (.int .i64 n) := (hb.1.cell (p := ⟨w.heap.size + 1, 0, none⟩) (show w.heap.size + 1 < w1.heap.size by omega)).trans HN.out
    obtain ⟨va, vc, rfl⟩ : ∃ va vc, v = .slice va pre.length vc := by
      rcases hrow.2 with ⟨e1, e2⟩ | ⟨g, cap, cur, e1, _⟩
      · exact ⟨none, 0, by rw [e1, e2]⟩
      · exact ⟨_, cap, e1⟩
    have hWs := hb.1.size
    by_cases hq : pre.length = n.toNat
    · have hqi : (pre.length : Int) = n := by omega
      have K := Lib.hid (show Col w1 w1.heap.size 22 3 Pr pre W from ⟨hb, _, hv, hrow, hno, hng⟩)
      have Q1 := Lib.hid hq
      clear hb hv hrow hno hng hq hlt
      rw [← hqi] at hcn
      gi_wp2
      exact ⟨⟨Below.refl _ _, fun _ _ _ => rfl⟩, rfl, pre, x, rfl, Q1.out, K.out⟩
    · have hqi : ¬ ((pre.length : Int) = n) := by omega
      gi_wp2_with (gi_at_builtin; refine wpListIn_append_own_at _ rfl _ _ 22 rfl w1.heap.size 3 i0 (.int .i64 0) 1 8 Tryd.underlying22 hi hz0 hz1 hz2 rfl (by decide) _ _ _ rfl (hrow.alloc _) ⟨W.heap.size, 0, none⟩ 1 1 [.int .i64 x] rfl rfl (cell_one_new _ _ _) (by simp [Value.oneCell']) (by unfold maxLen; omega) (by omega) (by rw [World.size_alloc]; omega) ?_; intro v' w2 hown' hgrow _ hat; obtain ⟨g', cap', rfl⟩ := ownsRow_succ hown'; obtain ⟨hv1, hv2, hr2, hk2, hb2⟩ := hv.appended (by decide) hrow hWs hb.2.1 hown' hgrow; have hc1 := hv1.cell; have hf1 := hv1.frozen)
      obtain ⟨k1, k2⟩ := Col.add hb hno hng hv1 hv2 hr2 hb2 hgrow hat
      exact ⟨k1, k2, by rw [List.length_append]; simp; omega⟩
  case done =>
    rintro D Pr xs W hD rfl ⟨⟨hb, v, hv, hrow, hno, hng⟩, hle⟩ hK
    have hc := hv.cell
    gi_wp2
    refine ⟨by simp, .inl ⟨_, _, rfl, run_takeDeferred hK, ?_⟩⟩
    obtain ⟨f1, f2, f3⟩ := Col.fin hb hrow hK (by have := B3.out.size; omega)
    rw [EE.out, List.take_of_length_le hle]
    exact ⟨_, results_tmp2 rfl _ _ _, v, rfl, ⟨f1, f2.mono BW.out.size⟩, BW.out.trans (f3.mono BW.out.size)⟩
  case stop =>
    rintro D c Pr pre W hD hpre ⟨rfl, p, x, rfl, hp, ⟨hb, v, hv, hrow, hno, hng⟩⟩ hK
    have hc := hv.cell
    gi_wp2
    refine ⟨by simp, .inl ⟨_, _, rfl, run_takeDeferred hK, ?_⟩⟩
    obtain ⟨f1, f2, f3⟩ := Col.fin hb hrow hK (by have := B3.out.size; omega)
    have hpE : p = E.take n.toNat := by rw [← hp, EE.out]; exact take_pre hpre
    rw [hpE] at f1
    exact ⟨_, results_tmp2 rfl _ _ _, v, rfl, ⟨f1, f2.mono BW.out.size⟩, BW.out.trans (f3.mono BW.out.size)⟩

end Go.Proofs.YtdpngbjlljgoaaaDoor
