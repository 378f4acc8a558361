/- seq.Between: its walk. Conditions: the rule is right, it begins at a day. -/
import Derived.Test.YtkpmddlinlcobaaGreatDoorQ13
namespace Go.Proofs.YtkpmddlinlcobaaGreatDoor
open Go.RowKit Go.Shelf
set_option linter.unusedSimpArgs false
set_option linter.unusedVariables false
attribute [local go_sem] Oper.semAt_some

/-- those of a list from one day to another. -/
def btwL (E : List Int) (from_ up : Int) : List Int := E.filter fun x => decide (from_ ≤ x) && decide (x ≤ up)

theorem btw_all {E : List Int} {f t : Int} (h : ∀ x ∈ E, x ≤ t) : E.filter (fun x => decide (f ≤ x)) = btwL E f t := by
  unfold btwL
  exact List.filter_congr fun x hx => by simp [h x hx]

theorem btw_stop {E p : List Int} {x f t : Int} (hE : E.Pairwise (· < ·)) (h : p ++ [x] <+: E) (hx : t < x) (hp : ∀ z ∈ p, z ≤ t) : p.filter (fun x => decide (f ≤ x)) = btwL E f t := by
  obtain ⟨r, rfl⟩ := h
  rw [btw_all (t := t) hp]
  unfold btwL
  rw [List.append_assoc, List.filter_append]
  have : ([x] ++ r).filter (fun x => decide (f ≤ x) && decide (x ≤ t)) = [] := by
    rw [List.filter_eq_nil_iff]
    intro z hz
    have hpx := (List.pairwise_append.1 hE).1
    have h3 := (List.pairwise_append.1 hE).2.2
    rcases List.mem_append.1 hz with hz | hz
    · have : z = x := by simpa using hz
      subst this; simp; omega
    · have := h3 x (by simp) z hz
      simp; omega
  rw [this, List.append_nil]

/-- too many? -/
def fullF (L : List Int) : Int := if 200 < L.length then 4 else 0
def cutL (L : List Int) : List Int := if 200 < L.length then [] else L

set_option maxRecDepth 100000 in
set_option maxHeartbeats 2000000 in
theorem sbetween_in (m : Nat) (fr ev ct ti y mm d st fo up : Int) (vm vd vw vp : Value) (mo da : List Int) (we : List (Int × Int)) (pk : List Int) (w : World) (hw : Months w)
    (h1 : IntsR w vm mo) (h2 : IntsR w vd da) (h3 : PairsR w vw we) (h4 : IntsR w vp pk) (hd : Cal.dateB y mm d = true) (hst : Cal.num y mm d = st) (hF : ruleF fr ev ct ti mo da we pk = 0) :
    CallsIn Fence.wide (m + 1) Tryz.prog 55 #[.agg #[.int .i64 fr, .int .i64 ev, .int .i64 ct, .int .i64 ti, vm, vd, vw, vp], .int .i64 st, .int .i64 fo, .int .i64 up] w
      fun e w' => ∃ v, e = .returned (.tuple #[v, errV (fullF (btwL (eachL fr ev ct ti y mm d mo da we pk st) fo up))]) ∧ (IntsR w' v (cutL (btwL (eachL fr ev ct ti y mm d mo da we pk st) fo up)) ∧ FreshV w.heap.size v) ∧ Below w.heap.size w w' := by
  obtain ⟨i0, hi, hz0, hz1, hz2⟩ := info_parts intInfoS
  obtain ⟨am, km, rfl, _, _, _⟩ := intsR_open h1
  obtain ⟨ad, kd, rfl, _, _, _⟩ := intsR_open h2
  obtain ⟨aw, kw, rfl, _, _, _⟩ := pairsR_open h3
  obtain ⟨ap, kp, rfl, _, _, _⟩ := intsR_open h4
  have hR := rlAt_new w 25 fr ev ct ti _ _ _ _ mo da we pk h1 h2 h3 h4
  have hEl := eachL_len hd hst (ruleF_0 hF).2.1 (fr := fr) (ct := ct) (ti := ti) (mo := mo) (da := da) (we := we) (pk := pk)
  have hEu := (eachL_up hd hst (ruleF_0 hF).2.1 (fr := fr) (ct := ct) (ti := ti) (mo := mo) (da := da) (we := we) (pk := pk)).1
  obtain ⟨E, hE⟩ : ∃ E, E = eachL fr ev ct ti y mm d mo da we pk st := ⟨_, rfl⟩
  rw [← hE]
  refine callsIn_of_wp_marks Tryz.func55 rfl trivial ?_ rfl
  simp only [Tryz.ntmps55, List.size_toArray, List.length_cons, List.length_nil, Nat.reduceAdd, Nat.reduceSub, Array.replicate_succ, Array.replicate_zero, List.push_toArray, List.append_toArray, List.nil_append, List.cons_append]
  gi_wp2_with fail
  refine ⟨trivial, ?_⟩
  have hb0 : Below w.heap.size w (((w.alloc (.cells #[.int .i64 fr, .int .i64 ev, .int .i64 ct, .int .i64 ti, .slice am mo.length km, .slice ad da.length kd, .slice aw we.length kw, .slice ap pk.length kp] 25)).alloc (.cells #[.int .i64 fo] 3)).alloc (.cells #[.int .i64 up] 3)) := (((Below.refl _ _).alloc (Nat.le_refl _) _).alloc (by rw [World.size_alloc]; omega) _).alloc (by rw [World.size_alloc, World.size_alloc]; omega) _
  have hst1 : 1 ≤ st ∧ st ≤ 109573 := hst ▸ (Cal.num_bd hd).2.2
  refine (callsIn_wide.2 (sready_any fr ev ct ti st _ _ _ _ mo da we pk _ (h1.below hb0) (h2.below hb0) (h3.below hb0) (h4.below hb0))).mono ?_; rintro e w1 ⟨rfl, hb1⟩
  rw [hF, seqF_0 hst1, errV_0]
  have hbw : Below w.heap.size w w1 := hb0.trans (hb1.mono hb0.size)
  have hsz1 : w.heap.size + 3 ≤ w1.heap.size := by have := hb1.size; rw [World.size_alloc, World.size_alloc, World.size_alloc] at this; exact this
  have hr1 : RlC w1 w.heap.size fr ev ct ti _ _ _ _ := (((rlC_new w 25 fr ev ct ti _ _ _ _).same (Below.heap_alloc _ _ _ (by rw [World.size_alloc]; omega))).same (Below.heap_alloc _ _ _ (by rw [World.size_alloc, World.size_alloc]; omega))).same (hb1.block _ (by rw [World.size_alloc, World.size_alloc, World.size_alloc]; omega))
  obtain ⟨c0, c1, c2, c3, c4, c5, c6, c7⟩ := hr1
  have hn1 : w1.cell? ⟨w.heap.size + 1, 0, none⟩ = some (.int .i64 fo) := (cell_block (hb1.block _ (by rw [World.size_alloc, World.size_alloc, World.size_alloc]; omega))).trans ((cell_block (Below.heap_alloc _ _ _ (by rw [World.size_alloc, World.size_alloc]; omega))).trans (by
    have := (Boxed.new (w.alloc (.cells #[.int .i64 fr, .int .i64 ev, .int .i64 ct, .int .i64 ti, .slice am mo.length km, .slice ad da.length kd, .slice aw we.length kw, .slice ap pk.length kp] 25)) 3 (.int .i64 fo)).cell
    rwa [World.size_alloc] at this))
  have hn2 : w1.cell? ⟨w.heap.size + 1 + 1, 0, none⟩ = some (.int .i64 up) := (cell_block (hb1.block _ (by rw [World.size_alloc, World.size_alloc, World.size_alloc]; omega))).trans (by
    have := (Boxed.new ((w.alloc (.cells #[.int .i64 fr, .int .i64 ev, .int .i64 ct, .int .i64 ti, .slice am mo.length km, .slice ad da.length kd, .slice aw we.length kw, .slice ap pk.length kp] 25)).alloc (.cells #[.int .i64 fo] 3)) 3 (.int .i64 up)).cell
    rwa [World.size_alloc, World.size_alloc] at this)
  have hbB : Below w1.heap.size w1 (w1.alloc (.cells #[.slice none 0 0] 22)) := (Below.refl _ _).alloc (Nat.le_refl _) _
  have HW := hw.below hbw; have I1 := h1.below hbw; have I2 := h2.below hbw; have I3 := h3.below hbw; have I4 := h4.below hbw
  have d0 := cell_below hbB c0; have d1 := cell_below hbB c1; have d2 := cell_below hbB c2; have d3 := cell_below hbB c3; have d4 := cell_below hbB c4; have d5 := cell_below hbB c5; have d6 := cell_below hbB c6; have d7 := cell_below hbB c7
  gi_wp2_with fail
  refine ⟨trivial, ?_⟩
  refine (callsIn_wide.2 (seach_any fr ev ct ti st _ _ _ _ mo da we pk _ (I1.below hbB) (I2.below hbB) (I3.below hbB) (I4.below hbB))).mono ?_; rintro e w3 ⟨rfl, ⟨hr3, hs3⟩, hb3, hz3⟩
  rw [World.size_alloc] at hr3 hs3 hz3
  have hb3' : Below w1.heap.size w1 w3 := hbB.trans (hb3.mono hbB.size)
  gi_wp2_with fail
  have bO : Boxed w3 w1.heap.size 22 (.slice none 0 0) := (hb3.block _ (by rw [World.size_alloc]; omega)).trans (Boxed.new w1 22 (.slice none 0 0))
  have HN := Lib.hid hn1; have HN2 := Lib.hid hn2; have EL := Lib.hid hEl; have EU := Lib.hid hEu; have EE := Lib.hid hE; have HF := Lib.hid hF; have HD := Lib.hid hd; have HS := Lib.hid hst; have BW := Lib.hid hbw; have B3 := Lib.hid hb3'; have R3 := Lib.hid hr3; have S3 := Lib.hid hs3; have Z3 := Lib.hid hz3
  refine wpIn_rangeP rfl (Nat.succ_le_succ (Nat.zero_le m)) (gf := 155) (lb := #[.pointer (some ⟨w1.heap.size + 1, 0, none⟩), .pointer (some ⟨w1.heap.size + 1 + 1, 0, none⟩)]) rfl trivial (enters_of Tryz.func155 (by kernel_rfl) rfl)
    (each_seq m fr ev ct ti y mm d st _ _ _ _ mo da we pk w1 w3 HW I1 I2 I3 I4 HD.out HS.out HF.out (w1.heap.size + 1) (w1.heap.size + 1 + 1) B3.out R3.out S3.out) B3.out.size (by rintro k (rfl | rfl) <;> omega) rfl
    (fun Pr pre W => Col w1 w1.heap.size 22 3 Pr (pre.filter fun x => decide (fo ≤ x)) W ∧ ∀ x ∈ pre, x ≤ up)
    (fun c Pr pre W => c = .exit 0 ∧ ∃ p x, pre = p ++ [x] ∧ (up < x ∧ ∀ x ∈ p, x ≤ up) ∧ Col w1 w1.heap.size 22 3 Pr (p.filter fun x => decide (fo ≤ x)) W)
    (fun Pr Pr' pre wa wb h hs hp => ⟨h.1.step hs hp, h.2⟩) (by rintro c Pr Pr' pre wa wb ⟨h1, p, x, h2, h3, h⟩ hs hp; exact ⟨h1, p, x, h2, h3, h.step hs hp⟩)
    ⟨⟨⟨B3.out, Nat.le_refl _, by rintro k (rfl | rfl) <;> omega⟩, _, bO, World.ownsRow_nil _ _ _ _, by rintro (h | h) <;> omega, fun g h => by cases h⟩, by simp⟩ ?a1 ?assign ?body ?done ?stop
  case assign =>
    intro l x W K hK
    gi_wp2
    exact hK
  case body =>
    clear hr3 hs3 hb3 hb3' bO d0 d1 d2 d3 d4 d5 d6 d7 c0 c1 c2 c3 c4 c5 c6 c7 hn1 hn2 hE hEl hEu hbB hb0 hb1 hbw hR hw h1 h2 h3 h4 hd hst hF HW I1 I2 I3 I4
    rintro l Pr pre x W ⟨⟨hb, v, hv, hrow, hno, hng⟩, hle⟩ hlt
    have hc := hv.cell
    have hcn : W.cell? ⟨w.heap.size + 1, 0, none⟩ = some (.int .i64 fo) := (hb.1.cell (p := ⟨w.heap.size + 1, 0, none⟩) (show w.heap.size + 1 < w1.heap.size by omega)).trans HN.out
    have hct : W.cell? ⟨w.heap.size + 1 + 1, 0, none⟩ = some (.int .i64 up) := (hb.1.cell (p := ⟨w.heap.size + 1 + 1, 0, none⟩) (show w.heap.size + 1 + 1 < w1.heap.size by omega)).trans HN2.out
    obtain ⟨xs, hxs⟩ : ∃ xs, xs = pre.filter fun x => decide (fo ≤ x) := ⟨_, rfl⟩
    have hxl : xs.length ≤ 109573 := by have := List.length_filter_le (fun x => decide (fo ≤ x)) pre; have := EL.out; rw [hxs]; omega
    rw [← hxs] at hrow
    have XS := Lib.hid hxs
    clear hxs
    obtain ⟨va, vc, rfl⟩ : ∃ va vc, v = .slice va xs.length vc := by
      rcases hrow.2 with ⟨e1, e2⟩ | ⟨g, cap, cur, e1, _⟩
      · exact ⟨none, 0, by rw [e1, e2]⟩
      · exact ⟨_, cap, e1⟩
    have hWs := hb.1.size
    have LE := Lib.hid hle
    by_cases hq : up < x
    · have K := Lib.hid (show Col w1 w1.heap.size 22 3 Pr xs W from ⟨hb, _, hv, hrow, hno, hng⟩)
      clear hb hv hrow hno hng hlt hle
      gi_wp2
      exact ⟨⟨Below.refl _ _, fun _ _ _ => rfl⟩, rfl, pre, x, rfl, ⟨hq, LE.out⟩, by rw [← XS.out]; exact K.out⟩
    · by_cases hq2 : fo ≤ x
      · clear hle hlt
        gi_wp2_with (gi_at_builtin; refine wpListIn_append_own_at _ rfl _ _ 22 rfl w1.heap.size 3 i0 (.int .i64 0) 1 8 Tryz.underlying22 hi hz0 hz1 hz2 rfl (by decide) _ _ _ rfl (hrow.alloc _) ⟨W.heap.size, 0, none⟩ 1 1 [.int .i64 x] rfl rfl (cell_one_new _ _ _) (by simp [Value.oneCell']) (by unfold maxLen; omega) (by omega) (by rw [World.size_alloc]; omega) ?_; intro v' w2 hown' hgrow _ hat; obtain ⟨g', cap', rfl⟩ := ownsRow_succ hown'; obtain ⟨hv1, hv2, hr2, hk2, hb2⟩ := hv.appended (by decide) hrow hWs hb.2.1 hown' hgrow; have hc1 := hv1.cell; have hf1 := hv1.frozen)
        obtain ⟨k1, k2⟩ := Col.add hb hno hng hv1 hv2 hr2 hb2 hgrow hat
        exact ⟨k1, by rw [List.filter_append, ← XS.out, List.filter_cons_of_pos (by simpa using hq2)]; exact k2, fun z hz => by rcases List.mem_append.1 hz with h | h; exact LE.out z h; (have : z = x := by simpa using h); omega⟩
      · have K := Lib.hid (show Col w1 w1.heap.size 22 3 Pr xs W from ⟨hb, _, hv, hrow, hno, hng⟩)
        clear hb hv hrow hno hng hlt hle
        gi_wp2
        exact ⟨⟨Below.refl _ _, fun _ _ _ => rfl⟩, by rw [List.filter_append, ← XS.out, List.filter_cons_of_neg (by simpa using hq2), List.filter_nil, List.append_nil]; exact K.out, fun z hz => by rcases List.mem_append.1 hz with h | h; exact LE.out z h; (have : z = x := by simpa using h); omega⟩
  case done =>
    rintro D Pr xs W hD rfl ⟨⟨hb, v, hv, hrow, hno, hng⟩, hle⟩ hK
    rw [btw_all (t := up) hle, ← EE.out] at hrow
    have hc := hv.cell
    obtain ⟨xs, hxs⟩ : ∃ xs, xs = btwL E fo up := ⟨_, rfl⟩
    rw [← hxs] at hrow
    have XS := Lib.hid hxs
    clear hxs
    obtain ⟨va, vc, rfl⟩ : ∃ va vc, v = .slice va xs.length vc := by
      rcases hrow.2 with ⟨e1, e2⟩ | ⟨g, cap, cur, e1, _⟩
      · exact ⟨none, 0, by rw [e1, e2]⟩
      · exact ⟨_, cap, e1⟩
    obtain ⟨f1, f2, f3⟩ := Col.fin hb hrow hK (by have := B3.out.size; omega)
    by_cases hq : 200 < xs.length
    · have hq2 : (200 : Int) < (xs.length : Int) := by omega
      have FE := Lib.hid (show fullF xs = 4 ∧ cutL xs = [] by rw [fullF, cutL, if_pos hq, if_pos hq]; exact ⟨rfl, rfl⟩)
      clear hq hb hv hrow hno hng
      gi_wp2
      refine ⟨by simp, .inl ⟨_, _, rfl, run_takeDeferred hK, ?_⟩⟩
      exact ⟨_, results_tmp2 rfl _ _ _, .slice none 0 0, by (try rw [← EE.out]); rw [← XS.out, FE.out.1]; rfl, ⟨by (try rw [← EE.out]); rw [← XS.out, FE.out.2]; exact intsR_nil _, fun g h => by cases h⟩, BW.out.trans (f3.mono BW.out.size)⟩
    · have hq2 : ¬ (200 : Int) < (xs.length : Int) := by omega
      have FE := Lib.hid (show fullF xs = 0 ∧ cutL xs = xs by rw [fullF, cutL, if_neg hq, if_neg hq]; exact ⟨rfl, rfl⟩)
      clear hq hb hv hrow hno hng
      gi_wp2
      refine ⟨by simp, .inl ⟨_, _, rfl, run_takeDeferred hK, ?_⟩⟩
      exact ⟨_, results_tmp2 rfl _ _ _, _, by (try rw [← EE.out]); rw [← XS.out, FE.out.1, errV_0]; rfl, ⟨by (try rw [← EE.out]); rw [← XS.out, FE.out.2]; exact f1, f2.mono BW.out.size⟩, BW.out.trans (f3.mono BW.out.size)⟩
  case stop =>
    rintro D c Pr pre W hD hpre ⟨rfl, p, x, rfl, ⟨hx, hp⟩, ⟨hb, v, hv, hrow, hno, hng⟩⟩ hK
    rw [btw_stop EU.out hpre hx hp, ← EE.out] at hrow
    have hc := hv.cell
    obtain ⟨xs, hxs⟩ : ∃ xs, xs = btwL E fo up := ⟨_, rfl⟩
    rw [← hxs] at hrow
    have XS := Lib.hid hxs
    clear hxs
    obtain ⟨va, vc, rfl⟩ : ∃ va vc, v = .slice va xs.length vc := by
      rcases hrow.2 with ⟨e1, e2⟩ | ⟨g, cap, cur, e1, _⟩
      · exact ⟨none, 0, by rw [e1, e2]⟩
      · exact ⟨_, cap, e1⟩
    obtain ⟨f1, f2, f3⟩ := Col.fin hb hrow hK (by have := B3.out.size; omega)
    by_cases hq : 200 < xs.length
    · have hq2 : (200 : Int) < (xs.length : Int) := by omega
      have FE := Lib.hid (show fullF xs = 4 ∧ cutL xs = [] by rw [fullF, cutL, if_pos hq, if_pos hq]; exact ⟨rfl, rfl⟩)
      clear hq hb hv hrow hno hng
      gi_wp2
      refine ⟨by simp, .inl ⟨_, _, rfl, run_takeDeferred hK, ?_⟩⟩
      exact ⟨_, results_tmp2 rfl _ _ _, .slice none 0 0, by (try rw [← EE.out]); rw [← XS.out, FE.out.1]; rfl, ⟨by (try rw [← EE.out]); rw [← XS.out, FE.out.2]; exact intsR_nil _, fun g h => by cases h⟩, BW.out.trans (f3.mono BW.out.size)⟩
    · have hq2 : ¬ (200 : Int) < (xs.length : Int) := by omega
      have FE := Lib.hid (show fullF xs = 0 ∧ cutL xs = xs by rw [fullF, cutL, if_neg hq, if_neg hq]; exact ⟨rfl, rfl⟩)
      clear hq hb hv hrow hno hng
      gi_wp2
      refine ⟨by simp, .inl ⟨_, _, rfl, run_takeDeferred hK, ?_⟩⟩
      exact ⟨_, results_tmp2 rfl _ _ _, _, by (try rw [← EE.out]); rw [← XS.out, FE.out.1, errV_0]; rfl, ⟨by (try rw [← EE.out]); rw [← XS.out, FE.out.2]; exact f1, f2.mono BW.out.size⟩, BW.out.trans (f3.mono BW.out.size)⟩

end Go.Proofs.YtkpmddlinlcobaaGreatDoor
