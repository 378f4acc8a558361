/- seq.Next: its walk. Conditions: the rule is right, it begins at a day. -/
import Derived.Test.YtdpngbjlljgoaaaDoorSeqH
namespace Go.Proofs.YtdpngbjlljgoaaaDoor
open Go.RowKit Go.Shelf
set_option linter.unusedSimpArgs false
set_option linter.unusedVariables false
attribute [local go_sem] Oper.semAt_some

theorem results_next {tmps : Array Value} {W : World} {p q : Nat} {v1 v2 : Value} (h6 : tmps[6]?.getD undef = .pointer (some ⟨p, 0, none⟩)) (h7 : tmps[7]?.getD undef = .pointer (some ⟨q, 0, none⟩))
    (c6 : W.cell? ⟨p, 0, none⟩ = some v1) (c7 : W.cell? ⟨q, 0, none⟩ = some v2) : (results Tryd.f14 tmps).run Tryd.prog W = .ok (.tuple #[v1, v2]) W := by
  simp only [results, show Tryd.f14.results = #[.cell 6 3, .cell 7 27] from rfl]
  simp [Sem.run_bind, Result.andThen, h6, h7, asAddr, loadVar, isAgg, underlying, Tryd.underlying3, Tryd.underlying27, c6, c7]

/-- the first one behind a day: itself, and what is wrong. -/
def nextP (E : List Int) (af : Int) : Int × Int := match E.find? (fun x => decide (af < x)) with
  | some x => (x, 0)
  | none => (0, 5)

theorem next_none {E : List Int} {af : Int} (h : ∀ x ∈ E, x ≤ af) : nextP E af = (0, 5) := by
  unfold nextP
  rw [List.find?_eq_none.2 (fun x hx => by have := h x hx; simp; omega)]

theorem next_some {E p : List Int} {x af : Int} (h : p ++ [x] <+: E) (hx : af < x) (hp : ∀ z ∈ p, z ≤ af) : nextP E af = (x, 0) := by
  obtain ⟨r, rfl⟩ := h
  unfold nextP
  rw [List.append_assoc, List.find?_append, List.find?_eq_none.2 (fun z hz => by have := hp z hz; simp; omega)]
  simp [hx]

set_option maxRecDepth 100000 in
set_option maxHeartbeats 2000000 in
theorem snext_in (m : Nat) (fr ev ct ti y mm d st af : Int) (vm vd vw vp : Value) (mo da : List Int) (we : List (Int × Int)) (pk : List Int) (w : World) (hw : Months w)
    (h1 : IntsR w vm mo) (h2 : IntsR w vd da) (h3 : PairsR w vw we) (h4 : IntsR w vp pk) (hd : Cal.dateB y mm d = true) (hst : Cal.num y mm d = st) (hF : ruleF fr ev ct ti mo da we pk = 0) :
    CallsIn Fence.wide (m + 1) Tryd.prog 14 #[.agg #[.int .i64 fr, .int .i64 ev, .int .i64 ct, .int .i64 ti, vm, vd, vw, vp], .int .i64 st, .int .i64 af] w
      fun e w' => e = .returned (.tuple #[.int .i64 (nextP (eachL fr ev ct ti y mm d mo da we pk st) af).1, errV (nextP (eachL fr ev ct ti y mm d mo da we pk st) af).2]) ∧ Below w.heap.size w w' := by
  obtain ⟨i0, hi, hz0, hz1, hz2⟩ := info_parts intInfoS
  obtain ⟨am, km, rfl, _, _, _⟩ := intsR_open h1
  obtain ⟨ad, kd, rfl, _, _, _⟩ := intsR_open h2
  obtain ⟨aw, kw, rfl, _, _, _⟩ := pairsR_open h3
  obtain ⟨ap, kp, rfl, _, _, _⟩ := intsR_open h4
  obtain ⟨E, hE⟩ : ∃ E, E = eachL fr ev ct ti y mm d mo da we pk st := ⟨_, rfl⟩
  rw [← hE]
  refine callsIn_of_wp_marks Tryd.func14 rfl trivial ?_ rfl
  simp only [Tryd.ntmps14, List.size_toArray, List.length_cons, List.length_nil, Nat.reduceAdd, Nat.reduceSub, Array.replicate_succ, Array.replicate_zero, List.push_toArray, List.append_toArray, List.nil_append, List.cons_append]
  gi_wp2_with fail
  refine ⟨trivial, ?_⟩
  obtain ⟨wa, hwa⟩ : ∃ x, x = (w.alloc (.cells #[.int .i64 fr, .int .i64 ev, .int .i64 ct, .int .i64 ti, .slice am mo.length km, .slice ad da.length kd, .slice aw we.length kw, .slice ap pk.length kp] 25)) := ⟨_, rfl⟩
  have za : wa.heap.size = w.heap.size + 1 := by rw [hwa]; exact World.size_alloc _ _
  obtain ⟨wb, hwb⟩ : ∃ x, x = wa.alloc (.cells #[.int .i64 af] 3) := ⟨_, rfl⟩
  have zb : wb.heap.size = w.heap.size + 1 + 1 := by rw [hwb, World.size_alloc, za]
  obtain ⟨wc, hwc⟩ : ∃ x, x = wb.alloc (.cells #[.int .i64 0] 3) := ⟨_, rfl⟩
  have zc : wc.heap.size = w.heap.size + 1 + 1 + 1 := by rw [hwc, World.size_alloc, zb]
  obtain ⟨we2, hwe⟩ : ∃ x, x = wc.alloc (.cells #[.nilIface] 27) := ⟨_, rfl⟩
  have ze : we2.heap.size = w.heap.size + 1 + 1 + 1 + 1 := by rw [hwe, World.size_alloc, zc]
  have ba : Below w.heap.size w wa := by rw [hwa]; exact (Below.refl _ _).alloc (Nat.le_refl _) _
  have bb : Below wa.heap.size wa wb := by rw [hwb]; exact (Below.refl _ _).alloc (Nat.le_refl _) _
  have bc : Below wb.heap.size wb wc := by rw [hwc]; exact (Below.refl _ _).alloc (Nat.le_refl _) _
  have be : Below wc.heap.size wc we2 := by rw [hwe]; exact (Below.refl _ _).alloc (Nat.le_refl _) _
  have hb0 : Below w.heap.size w we2 := ((ba.trans (bb.mono (by omega))).trans (bc.mono (by omega))).trans (be.mono (by omega))
  have x5 : Boxed we2 (w.heap.size + 1) 3 (.int .i64 af) := ((be.block _ (by omega)).trans (bc.block _ (by omega))).trans (by rw [hwb, ← za]; exact Boxed.new wa _ _)
  have x6 : Boxed we2 (w.heap.size + 1 + 1) 3 (.int .i64 0) := (be.block _ (by omega)).trans (by rw [hwc, ← zb]; exact Boxed.new wb _ _)
  have x7 : Boxed we2 (w.heap.size + 1 + 1 + 1) 27 .nilIface := by rw [hwe, ← zc]; exact Boxed.new wc _ _
  have xr : RlC we2 w.heap.size fr ev ct ti _ _ _ _ := (((hwa ▸ rlC_new w 25 fr ev ct ti _ _ _ _ : RlC wa w.heap.size fr ev ct ti _ _ _ _).same (bb.block _ (by omega))).same (bc.block _ (by omega))).same (be.block _ (by omega))
  rw [← hwa, ← hwb, ← hwc, ← hwe]
  clear hwa hwb hwc hwe
  have hst1 : 1 ≤ st ∧ st ≤ 109573 := hst ▸ (Cal.num_bd hd).2.2
  refine (callsIn_wide.2 (sready_any fr ev ct ti st _ _ _ _ mo da we pk _ (h1.below hb0) (h2.below hb0) (h3.below hb0) (h4.below hb0))).mono ?_; rintro e w1 ⟨rfl, hb1⟩
  rw [hF, seqF_0 hst1, errV_0]
  have hbw : Below w.heap.size w w1 := hb0.trans (hb1.mono hb0.size)
  have hsz1 := hb1.size
  obtain ⟨c0, c1, c2, c3, c4, c5, c6, c7⟩ := xr.same (hb1.block _ (by omega))
  have y5 : Boxed w1 (w.heap.size + 1) 3 (.int .i64 af) := (hb1.block _ (by omega)).trans x5
  have y6 : Boxed w1 (w.heap.size + 1 + 1) 3 (.int .i64 0) := (hb1.block _ (by omega)).trans x6
  have y7 : Boxed w1 (w.heap.size + 1 + 1 + 1) 27 .nilIface := (hb1.block _ (by omega)).trans x7
  have I1 := h1.below hbw; have I2 := h2.below hbw; have I3 := h3.below hbw; have I4 := h4.below hbw
  gi_wp2_with fail
  refine ⟨trivial, ?_⟩
  refine (callsIn_wide.2 (seach_any fr ev ct ti st _ _ _ _ mo da we pk _ I1 I2 I3 I4)).mono ?_; rintro e w3 ⟨rfl, ⟨hr3, hs3⟩, hb3, hz3⟩
  have hb3' : Below w.heap.size w w3 := hbw.trans (hb3.mono hbw.size)
  gi_wp2_with fail
  have z5 : Boxed w3 (w.heap.size + 1) 3 (.int .i64 af) := (hb3.block _ (by omega)).trans y5
  have z6 : Boxed w3 (w.heap.size + 1 + 1) 3 (.int .i64 0) := (hb3.block _ (by omega)).trans y6
  have z7 : Boxed w3 (w.heap.size + 1 + 1 + 1) 27 .nilIface := (hb3.block _ (by omega)).trans y7
  have EE := Lib.hid hE; have HF := Lib.hid hF; have HD := Lib.hid hd; have HS := Lib.hid hst; have B3 := Lib.hid hb3'; have R3 := Lib.hid hr3; have S3 := Lib.hid hs3; have Z3 := Lib.hid hz3
  refine wpIn_rangeP rfl (Nat.succ_le_succ (Nat.zero_le m)) (gf := 107) (lb := #[.pointer (some ⟨w1.heap.size, 0, none⟩), .pointer (some ⟨w1.heap.size + 1, 0, none⟩)]) rfl trivial (enters_of Tryd.func107 (by kernel_rfl) rfl)
    (each_seq m fr ev ct ti y mm d st _ _ _ _ mo da we pk w w3 hw h1 h2 h3 h4 HD.out HS.out HF.out w1.heap.size (w1.heap.size + 1) B3.out R3.out S3.out) B3.out.size (by rintro k (rfl | rfl) <;> omega) rfl
    (fun Pr pre W => (Lay w Pr W ∧ Var (w.heap.size + 1) 3 (.int .i64 af) Pr W ∧ Var (w.heap.size + 1 + 1) 3 (.int .i64 0) Pr W ∧ Var (w.heap.size + 1 + 1 + 1) 27 .nilIface Pr W) ∧ ∀ x ∈ pre, x ≤ af)
    (fun c Pr pre W => (c = .ret ∧ ∃ p x, pre = p ++ [x] ∧ af < x ∧ (∀ z ∈ p, z ≤ af) ∧ Var (w.heap.size + 1 + 1) 3 (.int .i64 x) Pr W) ∧ Lay w Pr W ∧ Var (w.heap.size + 1 + 1 + 1) 27 .nilIface Pr W)
    (fun Pr Pr' pre wa wb h hs hp => ⟨⟨h.1.1.step hs hp, h.1.2.1.step hs hp, h.1.2.2.1.step hs hp, h.1.2.2.2.step hs hp⟩, h.2⟩)
    (by rintro c Pr Pr' pre wa wb ⟨⟨h1, p, x, h2, h3, h4, h5⟩, h6, h7⟩ hs hp; exact ⟨⟨h1, p, x, h2, h3, h4, h5.step hs hp⟩, h6.step hs hp, h7.step hs hp⟩)
    ⟨⟨⟨B3.out, by rintro k (rfl | rfl) <;> omega⟩, ⟨z5, by rintro (h | h) <;> omega⟩, ⟨z6, by rintro (h | h) <;> omega⟩, ⟨z7, by rintro (h | h) <;> omega⟩⟩, by simp⟩ ?a1 ?assign ?body ?done ?stop
  case assign =>
    intro l x W K hK
    gi_wp2
    exact hK
  case body =>
    clear hr3 hs3 hb3 hb3' x5 x6 x7 xr y5 y6 y7 z5 z6 z7 c0 c1 c2 c3 c4 c5 c6 c7 hE hb0 hb1 hbw hw h1 h2 h3 h4 hd hst hF I1 I2 I3 I4 ba bb bc be za zb zc ze
    rintro l Pr pre x W ⟨⟨hl, v5, v6, v7⟩, hle⟩ hlt
    have e5 := v5.1.cell
    have e6 := v6.1.cell
    have f6 := v6.1.frozen
    have e7 := v7.1.cell
    have f7 := v7.1.frozen
    by_cases hq : af < x
    · obtain ⟨k1, k2, k3⟩ := v6.set (.int .i64 x) hl (by omega)
      have q7 := v7.other (k := w.heap.size + 1 + 1) (.int .i64 x) (by omega)
      have e8 := q7.1.cell
      have f8 := q7.1.frozen
      obtain ⟨j1, j2, j3⟩ := q7.set .nilIface k3 (by omega)
      have q6 := k2.other (k := w.heap.size + 1 + 1 + 1) .nilIface (by omega)
      have P1 := Lib.hid (show KeepP w.heap.size Pr W ((W.setCell ⟨w.heap.size + 1 + 1, 0, none⟩ (.int .i64 x)).setCell ⟨w.heap.size + 1 + 1 + 1, 0, none⟩ .nilIface) from ⟨k1.below.trans j1.below, fun k hk hp => (j1.kept k (Nat.lt_of_lt_of_le hk k1.below.size) hp).trans (k1.kept k hk hp)⟩)
      have P2 := Lib.hid q6; have P3 := Lib.hid j2; have P4 := Lib.hid j3; have LE := Lib.hid hle
      clear k1 k2 k3 j1 j2 j3 q6 q7 v5 v6 v7 hl hlt hle
      gi_wp2
      exact ⟨P1.out, ⟨rfl, pre, x, rfl, hq, LE.out, P2.out⟩, P4.out, P3.out⟩
    · have P := Lib.hid (show Lay w Pr W ∧ Var (w.heap.size + 1) 3 (.int .i64 af) Pr W ∧ Var (w.heap.size + 1 + 1) 3 (.int .i64 0) Pr W ∧ Var (w.heap.size + 1 + 1 + 1) 27 .nilIface Pr W from ⟨hl, v5, v6, v7⟩)
      have LE := Lib.hid hle
      clear v5 v6 v7 hl hlt hle
      gi_wp2
      exact ⟨⟨Below.refl _ _, fun _ _ _ => rfl⟩, P.out, fun z hz => by rcases List.mem_append.1 hz with h | h; exact LE.out z h; (have : z = x := by simpa using h); omega⟩
  case done =>
    rintro D Pr xs W hD rfl ⟨⟨hl, v5, v6, v7⟩, hle⟩ hK
    have e6 := v6.1.cell
    have f6 := v6.1.frozen
    have e7 := v7.1.cell
    have f7 := v7.1.frozen
    have hD2 : w.heap.size + 1 + 1 + 1 < D := by omega
    obtain ⟨k1, k2, k3⟩ := v6.set (.int .i64 0) hl (by omega)
    have q7 := v7.other (k := w.heap.size + 1 + 1) (.int .i64 0) (by omega)
    have e8 := q7.1.cell
    have f8 := q7.1.frozen
    obtain ⟨j1, j2, j3⟩ := q7.set (.iface 113 (.int .i64 5)) k3 (by omega)
    have q6 := (k2.other (k := w.heap.size + 1 + 1 + 1) (.iface 113 (.int .i64 5)) (by omega)).1.cell
    have q8 := j2.1.cell
    have hK2 := (setCell_block (W.setCell ⟨w.heap.size + 1 + 1, 0, none⟩ (.int .i64 0)) (w.heap.size + 1 + 1 + 1) D (.iface 113 (.int .i64 5)) (by omega)).trans ((setCell_block W (w.heap.size + 1 + 1) D (.int .i64 0) (by omega)).trans hK)
    have hfin := j3.1.trans (below_put _ (.deferred none) (l := D) (by omega))
    have FE := Lib.hid (show nextP E af = (0, 5) by rw [EE.out]; exact next_none hle)
    have r6 := (cell_block (World.putObj_heap_other (o := .deferred none) (show w.heap.size + 1 + 1 ≠ D by omega))).trans q6
    have r7 := (cell_block (World.putObj_heap_other (o := .deferred none) (show w.heap.size + 1 + 1 + 1 ≠ D by omega))).trans q8
    clear k1 k2 k3 j1 j2 j3 q6 q8 v5 v6 v7 hl q7
    gi_wp2
    refine ⟨by simp, .inl ⟨_, _, rfl, run_takeDeferred hK2, ?_⟩⟩
    exact ⟨_, results_next rfl rfl r6 r7, by (try rw [← EE.out]); rw [FE.out]; rfl, hfin⟩
  case stop =>
    rintro D c Pr pre W hD hpre ⟨⟨rfl, p, x, rfl, hx, hp, v6⟩, hl, v7⟩ hK
    have e6 := v6.1.cell
    have e7 := v7.1.cell
    have hD2 : w.heap.size + 1 + 1 + 1 < D := by omega
    have hfin := hl.1.trans (below_put W (.deferred none) (l := D) (by omega))
    have FE := Lib.hid (show nextP E af = (x, 0) by rw [EE.out]; exact next_some hpre hx hp)
    have r6 : (W.putObj D (.deferred none)).cell? ⟨w.heap.size + 1 + 1, 0, none⟩ = some (.int .i64 x) := (cell_block (World.putObj_heap_other (by omega))).trans e6
    have r7 : (W.putObj D (.deferred none)).cell? ⟨w.heap.size + 1 + 1 + 1, 0, none⟩ = some .nilIface := (cell_block (World.putObj_heap_other (by omega))).trans e7
    gi_wp2
    refine ⟨by simp, .inl ⟨_, _, rfl, run_takeDeferred hK, ?_⟩⟩
    exact ⟨_, results_next rfl rfl r6 r7, by (try rw [← EE.out]); rw [FE.out, errV_0], hfin⟩

end Go.Proofs.YtdpngbjlljgoaaaDoor
