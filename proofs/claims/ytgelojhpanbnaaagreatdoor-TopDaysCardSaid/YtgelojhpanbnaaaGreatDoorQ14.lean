/- Texts joined into one (a claim has at most 60 files): seq.Between: its walk; event.Of of an event that repeats: plain facts about its times; The times of an event, plainly: which they are; they rise; in two parts they are the same; Times of an event in a zone, plainly: which they are, in which order; in two parts they are the same; slices.BinarySearchFunc at an event's changes; event.Really: their contracts; Times of an event in a zone without shifts that is more ahead: the same, so much earlier; The law TimesHold, plainly: the next time is the next one of a list; the fact. -/
import Derived.Test.YtgelojhpanbnaaaGreatDoorQ13
import Derived.Test.YtgelojhpanbnaaaGreatDoorQ08
import Derived.Test.YtgelojhpanbnaaaGreatDoorQ10
namespace Go.Proofs.YtgelojhpanbnaaaGreatDoor
open Go.RowKit Go.Shelf
set_option linter.unusedSimpArgs false
set_option linter.unusedVariables false
attribute [local go_sem] Oper.semAt_some

/-- those of a list from one day to another. -/
def btwL (E : List Int) (from_ up : Int) : List Int := E.filter fun x => decide (from_ ≤ x) && decide (x ≤ up)

theorem btw_all {E : List Int} {f t : Int} (h : ∀ x ∈ E, x ≤ t) : E.filter (fun x => decide (f ≤ x)) = btwL E f t := by
  unfold btwL
  exact List.filter_congr fun x hx => by simp [h x hx]

theorem btw_stop {E p : List Int} {x f t : Int} (hE : E.Pairwise (· < ·)) (h : p ++ [x] <+: E) (hx : t < x) (hp : ∀ z ∈ p, z ≤ t) : p.filter (fun x => decide (f ≤ x)) = btwL E f t := by
  obtain ⟨r, rfl⟩ := h
  rw [btw_all (t := t) hp]
  unfold btwL
  rw [List.append_assoc, List.filter_append]
  have : ([x] ++ r).filter (fun x => decide (f ≤ x) && decide (x ≤ t)) = [] := by
    rw [List.filter_eq_nil_iff]
    intro z hz
    have hpx := (List.pairwise_append.1 hE).1
    have h3 := (List.pairwise_append.1 hE).2.2
    rcases List.mem_append.1 hz with hz | hz
    · have : z = x := by simpa using hz
      subst this; simp; omega
    · have := h3 x (by simp) z hz
      simp; omega
  rw [this, List.append_nil]

/-- too many? -/
def fullF (L : List Int) : Int := if 200 < L.length then 4 else 0
def cutL (L : List Int) : List Int := if 200 < L.length then [] else L

set_option maxRecDepth 100000 in
set_option maxHeartbeats 2000000 in
theorem sbetween_in (m : Nat) (fr ev ct ti y mm d st fo up : Int) (vm vd vw vp : Value) (mo da : List Int) (we : List (Int × Int)) (pk : List Int) (w : World) (hw : Months w)
    (h1 : IntsR w vm mo) (h2 : IntsR w vd da) (h3 : PairsR w vw we) (h4 : IntsR w vp pk) (hd : Cal.dateB y mm d = true) (hst : Cal.num y mm d = st) (hF : ruleF fr ev ct ti mo da we pk = 0) :
    CallsIn Fence.wide (m + 1) Tryz.prog 16 #[.agg #[.int .i64 fr, .int .i64 ev, .int .i64 ct, .int .i64 ti, vm, vd, vw, vp], .int .i64 st, .int .i64 fo, .int .i64 up] w
      fun e w' => ∃ v, e = .returned (.tuple #[v, errV (fullF (btwL (eachL fr ev ct ti y mm d mo da we pk st) fo up))]) ∧ (IntsR w' v (cutL (btwL (eachL fr ev ct ti y mm d mo da we pk st) fo up)) ∧ FreshV w.heap.size v) ∧ Below w.heap.size w w' := by
  obtain ⟨i0, hi, hz0, hz1, hz2⟩ := info_parts intInfoS
  obtain ⟨am, km, rfl, _, _, _⟩ := intsR_open h1
  obtain ⟨ad, kd, rfl, _, _, _⟩ := intsR_open h2
  obtain ⟨aw, kw, rfl, _, _, _⟩ := pairsR_open h3
  obtain ⟨ap, kp, rfl, _, _, _⟩ := intsR_open h4
  have hR := rlAt_new w 25 fr ev ct ti _ _ _ _ mo da we pk h1 h2 h3 h4
  have hEl := eachL_len hd hst (ruleF_0 hF).2.1 (fr := fr) (ct := ct) (ti := ti) (mo := mo) (da := da) (we := we) (pk := pk)
  have hEu := (eachL_up hd hst (ruleF_0 hF).2.1 (fr := fr) (ct := ct) (ti := ti) (mo := mo) (da := da) (we := we) (pk := pk)).1
  obtain ⟨E, hE⟩ : ∃ E, E = eachL fr ev ct ti y mm d mo da we pk st := ⟨_, rfl⟩
  rw [← hE]
  refine callsIn_of_wp_marks Tryz.func16 rfl trivial ?_ rfl
  simp only [Tryz.ntmps16, List.size_toArray, List.length_cons, List.length_nil, Nat.reduceAdd, Nat.reduceSub, Array.replicate_succ, Array.replicate_zero, List.push_toArray, List.append_toArray, List.nil_append, List.cons_append]
  gi_wp2_with fail
  refine ⟨trivial, ?_⟩
  have hb0 : Below w.heap.size w (((w.alloc (.cells #[.int .i64 fr, .int .i64 ev, .int .i64 ct, .int .i64 ti, .slice am mo.length km, .slice ad da.length kd, .slice aw we.length kw, .slice ap pk.length kp] 25)).alloc (.cells #[.int .i64 fo] 3)).alloc (.cells #[.int .i64 up] 3)) := (((Below.refl _ _).alloc (Nat.le_refl _) _).alloc (by rw [World.size_alloc]; omega) _).alloc (by rw [World.size_alloc, World.size_alloc]; omega) _
  have hst1 : 1 ≤ st ∧ st ≤ 109573 := hst ▸ (Cal.num_bd hd).2.2
  refine (callsIn_wide.2 (sready_any fr ev ct ti st _ _ _ _ mo da we pk _ (h1.below hb0) (h2.below hb0) (h3.below hb0) (h4.below hb0))).mono ?_; rintro e w1 ⟨rfl, hb1⟩
  rw [hF, seqF_0 hst1, errV_0]
  have hbw : Below w.heap.size w w1 := hb0.trans (hb1.mono hb0.size)
  have hsz1 : w.heap.size + 3 ≤ w1.heap.size := by have := hb1.size; rw [World.size_alloc, World.size_alloc, World.size_alloc] at this; exact this
  have hr1 : RlC w1 w.heap.size fr ev ct ti _ _ _ _ := (((rlC_new w 25 fr ev ct ti _ _ _ _).same (Below.heap_alloc _ _ _ (by rw [World.size_alloc]; omega))).same (Below.heap_alloc _ _ _ (by rw [World.size_alloc, World.size_alloc]; omega))).same (hb1.block _ (by rw [World.size_alloc, World.size_alloc, World.size_alloc]; omega))
  obtain ⟨c0, c1, c2, c3, c4, c5, c6, c7⟩ := hr1
  have hn1 : w1.cell? ⟨w.heap.size + 1, 0, none⟩ = some (.int .i64 fo) := (cell_block (hb1.block _ (by rw [World.size_alloc, World.size_alloc, World.size_alloc]; omega))).trans ((cell_block (Below.heap_alloc _ _ _ (by rw [World.size_alloc, World.size_alloc]; omega))).trans (by
    have := (Boxed.new (w.alloc (.cells #[.int .i64 fr, .int .i64 ev, .int .i64 ct, .int .i64 ti, .slice am mo.length km, .slice ad da.length kd, .slice aw we.length kw, .slice ap pk.length kp] 25)) 3 (.int .i64 fo)).cell
    rwa [World.size_alloc] at this))
  have hn2 : w1.cell? ⟨w.heap.size + 1 + 1, 0, none⟩ = some (.int .i64 up) := (cell_block (hb1.block _ (by rw [World.size_alloc, World.size_alloc, World.size_alloc]; omega))).trans (by
    have := (Boxed.new ((w.alloc (.cells #[.int .i64 fr, .int .i64 ev, .int .i64 ct, .int .i64 ti, .slice am mo.length km, .slice ad da.length kd, .slice aw we.length kw, .slice ap pk.length kp] 25)).alloc (.cells #[.int .i64 fo] 3)) 3 (.int .i64 up)).cell
    rwa [World.size_alloc, World.size_alloc] at this)
  have hbB : Below w1.heap.size w1 (w1.alloc (.cells #[.slice none 0 0] 22)) := (Below.refl _ _).alloc (Nat.le_refl _) _
  have HW := hw.below hbw; have I1 := h1.below hbw; have I2 := h2.below hbw; have I3 := h3.below hbw; have I4 := h4.below hbw
  have d0 := cell_below hbB c0; have d1 := cell_below hbB c1; have d2 := cell_below hbB c2; have d3 := cell_below hbB c3; have d4 := cell_below hbB c4; have d5 := cell_below hbB c5; have d6 := cell_below hbB c6; have d7 := cell_below hbB c7
  gi_wp2_with fail
  refine ⟨trivial, ?_⟩
  refine (callsIn_wide.2 (seach_any fr ev ct ti st _ _ _ _ mo da we pk _ (I1.below hbB) (I2.below hbB) (I3.below hbB) (I4.below hbB))).mono ?_; rintro e w3 ⟨rfl, ⟨hr3, hs3⟩, hb3, hz3⟩
  rw [World.size_alloc] at hr3 hs3 hz3
  have hb3' : Below w1.heap.size w1 w3 := hbB.trans (hb3.mono hbB.size)
  gi_wp2_with fail
  have bO : Boxed w3 w1.heap.size 22 (.slice none 0 0) := (hb3.block _ (by rw [World.size_alloc]; omega)).trans (Boxed.new w1 22 (.slice none 0 0))
  have HN := Lib.hid hn1; have HN2 := Lib.hid hn2; have EL := Lib.hid hEl; have EU := Lib.hid hEu; have EE := Lib.hid hE; have HF := Lib.hid hF; have HD := Lib.hid hd; have HS := Lib.hid hst; have BW := Lib.hid hbw; have B3 := Lib.hid hb3'; have R3 := Lib.hid hr3; have S3 := Lib.hid hs3; have Z3 := Lib.hid hz3
  refine wpIn_rangeP rfl (Nat.succ_le_succ (Nat.zero_le m)) (gf := 144) (lb := #[.pointer (some ⟨w1.heap.size + 1, 0, none⟩), .pointer (some ⟨w1.heap.size + 1 + 1, 0, none⟩)]) rfl trivial (enters_of Tryz.func144 (by kernel_rfl) rfl)
    (each_seq m fr ev ct ti y mm d st _ _ _ _ mo da we pk w1 w3 HW I1 I2 I3 I4 HD.out HS.out HF.out (w1.heap.size + 1) (w1.heap.size + 1 + 1) B3.out R3.out S3.out) B3.out.size (by rintro k (rfl | rfl) <;> omega) rfl
    (fun Pr pre W => Col w1 w1.heap.size 22 3 Pr (pre.filter fun x => decide (fo ≤ x)) W ∧ ∀ x ∈ pre, x ≤ up)
    (fun c Pr pre W => c = .exit 0 ∧ ∃ p x, pre = p ++ [x] ∧ (up < x ∧ ∀ x ∈ p, x ≤ up) ∧ Col w1 w1.heap.size 22 3 Pr (p.filter fun x => decide (fo ≤ x)) W)
    (fun Pr Pr' pre wa wb h hs hp => ⟨h.1.step hs hp, h.2⟩) (by rintro c Pr Pr' pre wa wb ⟨h1, p, x, h2, h3, h⟩ hs hp; exact ⟨h1, p, x, h2, h3, h.step hs hp⟩)
    ⟨⟨⟨B3.out, Nat.le_refl _, by rintro k (rfl | rfl) <;> omega⟩, _, bO, World.ownsRow_nil _ _ _ _, by rintro (h | h) <;> omega, fun g h => by cases h⟩, by simp⟩ ?a1 ?assign ?body ?done ?stop
  case assign =>
    intro l x W K hK
    gi_wp2
    exact hK
  case body =>
    clear hr3 hs3 hb3 hb3' bO d0 d1 d2 d3 d4 d5 d6 d7 c0 c1 c2 c3 c4 c5 c6 c7 hn1 hn2 hE hEl hEu hbB hb0 hb1 hbw hR hw h1 h2 h3 h4 hd hst hF HW I1 I2 I3 I4
    rintro l Pr pre x W ⟨⟨hb, v, hv, hrow, hno, hng⟩, hle⟩ hlt
    have hc := hv.cell
    have hcn : W.cell? ⟨w.heap.size + 1, 0, none⟩ = some (.int .i64 fo) := (hb.1.cell (p := ⟨w.heap.size + 1, 0, none⟩) (show w.heap.size + 1 < w1.heap.size by omega)).trans HN.out
    have hct : W.cell? ⟨w.heap.size + 1 + 1, 0, none⟩ = some (.int .i64 up) := (hb.1.cell (p := ⟨w.heap.size + 1 + 1, 0, none⟩) (show w.heap.size + 1 + 1 < w1.heap.size by omega)).trans HN2.out
    obtain ⟨xs, hxs⟩ : ∃ xs, xs = pre.filter fun x => decide (fo ≤ x) := ⟨_, rfl⟩
    have hxl : xs.length ≤ 109573 := by have := List.length_filter_le (fun x => decide (fo ≤ x)) pre; have := EL.out; rw [hxs]; omega
    rw [← hxs] at hrow
    have XS := Lib.hid hxs
    clear hxs
    obtain ⟨va, vc, rfl⟩ : ∃ va vc, v = .slice va xs.length vc := by
      rcases hrow.2 with ⟨e1, e2⟩ | ⟨g, cap, cur, e1, _⟩
      · exact ⟨none, 0, by rw [e1, e2]⟩
      · exact ⟨_, cap, e1⟩
    have hWs := hb.1.size
    have LE := Lib.hid hle
    by_cases hq : up < x
    · have K := Lib.hid (show Col w1 w1.heap.size 22 3 Pr xs W from ⟨hb, _, hv, hrow, hno, hng⟩)
      clear hb hv hrow hno hng hlt hle
      gi_wp2
      exact ⟨⟨Below.refl _ _, fun _ _ _ => rfl⟩, rfl, pre, x, rfl, ⟨hq, LE.out⟩, by rw [← XS.out]; exact K.out⟩
    · by_cases hq2 : fo ≤ x
      · clear hle hlt
        gi_wp2_with (gi_at_builtin; refine wpListIn_append_own_at _ rfl _ _ 22 rfl w1.heap.size 3 i0 (.int .i64 0) 1 8 Tryz.underlying22 hi hz0 hz1 hz2 rfl (by decide) _ _ _ rfl (hrow.alloc _) ⟨W.heap.size, 0, none⟩ 1 1 [.int .i64 x] rfl rfl (cell_one_new _ _ _) (by simp [Value.oneCell']) (by unfold maxLen; omega) (by omega) (by rw [World.size_alloc]; omega) ?_; intro v' w2 hown' hgrow _ hat; obtain ⟨g', cap', rfl⟩ := ownsRow_succ hown'; obtain ⟨hv1, hv2, hr2, hk2, hb2⟩ := hv.appended (by decide) hrow hWs hb.2.1 hown' hgrow; have hc1 := hv1.cell; have hf1 := hv1.frozen)
        obtain ⟨k1, k2⟩ := Col.add hb hno hng hv1 hv2 hr2 hb2 hgrow hat
        exact ⟨k1, by rw [List.filter_append, ← XS.out, List.filter_cons_of_pos (by simpa using hq2)]; exact k2, fun z hz => by rcases List.mem_append.1 hz with h | h; exact LE.out z h; (have : z = x := by simpa using h); omega⟩
      · have K := Lib.hid (show Col w1 w1.heap.size 22 3 Pr xs W from ⟨hb, _, hv, hrow, hno, hng⟩)
        clear hb hv hrow hno hng hlt hle
        gi_wp2
        exact ⟨⟨Below.refl _ _, fun _ _ _ => rfl⟩, by rw [List.filter_append, ← XS.out, List.filter_cons_of_neg (by simpa using hq2), List.filter_nil, List.append_nil]; exact K.out, fun z hz => by rcases List.mem_append.1 hz with h | h; exact LE.out z h; (have : z = x := by simpa using h); omega⟩
  case done =>
    rintro D Pr xs W hD rfl ⟨⟨hb, v, hv, hrow, hno, hng⟩, hle⟩ hK
    rw [btw_all (t := up) hle, ← EE.out] at hrow
    have hc := hv.cell
    obtain ⟨xs, hxs⟩ : ∃ xs, xs = btwL E fo up := ⟨_, rfl⟩
    rw [← hxs] at hrow
    have XS := Lib.hid hxs
    clear hxs
    obtain ⟨va, vc, rfl⟩ : ∃ va vc, v = .slice va xs.length vc := by
      rcases hrow.2 with ⟨e1, e2⟩ | ⟨g, cap, cur, e1, _⟩
      · exact ⟨none, 0, by rw [e1, e2]⟩
      · exact ⟨_, cap, e1⟩
    obtain ⟨f1, f2, f3⟩ := Col.fin hb hrow hK (by have := B3.out.size; omega)
    by_cases hq : 200 < xs.length
    · have hq2 : (200 : Int) < (xs.length : Int) := by omega
      have FE := Lib.hid (show fullF xs = 4 ∧ cutL xs = [] by rw [fullF, cutL, if_pos hq, if_pos hq]; exact ⟨rfl, rfl⟩)
      clear hq hb hv hrow hno hng
      gi_wp2
      refine ⟨by simp, .inl ⟨_, _, rfl, run_takeDeferred hK, ?_⟩⟩
      exact ⟨_, results_tmp2 rfl _ _ _, .slice none 0 0, by (try rw [← EE.out]); rw [← XS.out, FE.out.1]; rfl, ⟨by (try rw [← EE.out]); rw [← XS.out, FE.out.2]; exact intsR_nil _, fun g h => by cases h⟩, BW.out.trans (f3.mono BW.out.size)⟩
    · have hq2 : ¬ (200 : Int) < (xs.length : Int) := by omega
      have FE := Lib.hid (show fullF xs = 0 ∧ cutL xs = xs by rw [fullF, cutL, if_neg hq, if_neg hq]; exact ⟨rfl, rfl⟩)
      clear hq hb hv hrow hno hng
      gi_wp2
      refine ⟨by simp, .inl ⟨_, _, rfl, run_takeDeferred hK, ?_⟩⟩
      exact ⟨_, results_tmp2 rfl _ _ _, _, by (try rw [← EE.out]); rw [← XS.out, FE.out.1, errV_0]; rfl, ⟨by (try rw [← EE.out]); rw [← XS.out, FE.out.2]; exact f1, f2.mono BW.out.size⟩, BW.out.trans (f3.mono BW.out.size)⟩
  case stop =>
    rintro D c Pr pre W hD hpre ⟨rfl, p, x, rfl, ⟨hx, hp⟩, ⟨hb, v, hv, hrow, hno, hng⟩⟩ hK
    rw [btw_stop EU.out hpre hx hp, ← EE.out] at hrow
    have hc := hv.cell
    obtain ⟨xs, hxs⟩ : ∃ xs, xs = btwL E fo up := ⟨_, rfl⟩
    rw [← hxs] at hrow
    have XS := Lib.hid hxs
    clear hxs
    obtain ⟨va, vc, rfl⟩ : ∃ va vc, v = .slice va xs.length vc := by
      rcases hrow.2 with ⟨e1, e2⟩ | ⟨g, cap, cur, e1, _⟩
      · exact ⟨none, 0, by rw [e1, e2]⟩
      · exact ⟨_, cap, e1⟩
    obtain ⟨f1, f2, f3⟩ := Col.fin hb hrow hK (by have := B3.out.size; omega)
    by_cases hq : 200 < xs.length
    · have hq2 : (200 : Int) < (xs.length : Int) := by omega
      have FE := Lib.hid (show fullF xs = 4 ∧ cutL xs = [] by rw [fullF, cutL, if_pos hq, if_pos hq]; exact ⟨rfl, rfl⟩)
      clear hq hb hv hrow hno hng
      gi_wp2
      refine ⟨by simp, .inl ⟨_, _, rfl, run_takeDeferred hK, ?_⟩⟩
      exact ⟨_, results_tmp2 rfl _ _ _, .slice none 0 0, by (try rw [← EE.out]); rw [← XS.out, FE.out.1]; rfl, ⟨by (try rw [← EE.out]); rw [← XS.out, FE.out.2]; exact intsR_nil _, fun g h => by cases h⟩, BW.out.trans (f3.mono BW.out.size)⟩
    · have hq2 : ¬ (200 : Int) < (xs.length : Int) := by omega
      have FE := Lib.hid (show fullF xs = 0 ∧ cutL xs = xs by rw [fullF, cutL, if_neg hq, if_neg hq]; exact ⟨rfl, rfl⟩)
      clear hq hb hv hrow hno hng
      gi_wp2
      refine ⟨by simp, .inl ⟨_, _, rfl, run_takeDeferred hK, ?_⟩⟩
      exact ⟨_, results_tmp2 rfl _ _ _, _, by (try rw [← EE.out]); rw [← XS.out, FE.out.1, errV_0]; rfl, ⟨by (try rw [← EE.out]); rw [← XS.out, FE.out.2]; exact f1, f2.mono BW.out.size⟩, BW.out.trans (f3.mono BW.out.size)⟩

end Go.Proofs.YtgelojhpanbnaaaGreatDoor

namespace Go.Proofs.YtgelojhpanbnaaaGreatDoor
open Go.RowKit Go.Shelf
set_option linter.unusedSimpArgs false
set_option linter.unusedVariables false

/-- a day's time at a minute, as the program reckons it. -/
def evT (mi x : Int) : Int := wrap64 (wrap64 (wrap64 (x - 1) * 1440) + mi)

theorem evT_in {mi x : Int} (h1 : 1 ≤ x) (h2 : x ≤ 109573) (h3 : 0 ≤ mi) (h4 : mi < 1440) : evT mi x = (x - 1) * 1440 + mi := by
  unfold evT
  rw [IntWalk.wrap64_in (x - 1) (by omega), IntWalk.wrap64_in ((x - 1) * 1440) (by omega), IntWalk.wrap64_in ((x - 1) * 1440 + mi) (by omega)]

/-- the times of the days E at a minute. -/
def tmsL (mi : Int) (E : List Int) : List Int := E.map (evT mi)

theorem tmsL_append (mi : Int) (E F : List Int) : tmsL mi (E ++ F) = tmsL mi E ++ tmsL mi F := List.map_append ..

theorem tms_next (mi a b : Int) (p : List Int) (x : Int) : inR a b (tmsL mi (p ++ [x])) = inR a b (tmsL mi p) ++ inR a b [evT mi x] := by
  rw [tmsL_append, inR_append]; rfl

theorem tms_len (mi a b : Int) (E : List Int) : (inR a b (tmsL mi E)).length ≤ E.length := by
  have h : (inR a b (tmsL mi E)).length ≤ (tmsL mi E).length := List.length_filter_le ..
  simpa [tmsL] using h

theorem tms_stop {E p : List Int} {x mi a b : Int} (hE : E.Pairwise (· < ·)) (hb : ∀ z ∈ E, 1 ≤ z ∧ z ≤ 109573) (h3 : 0 ≤ mi) (h4 : mi < 1440) (h : p ++ [x] <+: E) (hx : b < evT mi x) : inR a b (tmsL mi p) = inR a b (tmsL mi E) := by
  obtain ⟨r, rfl⟩ := h
  have hxb := hb x (by simp)
  rw [evT_in hxb.1 hxb.2 h3 h4] at hx
  rw [List.append_assoc, tmsL_append, inR_append]
  have : inR a b (tmsL mi ([x] ++ r)) = [] := by
    unfold inR tmsL
    rw [List.filter_eq_nil_iff]
    intro t ht
    obtain ⟨z, hz, rfl⟩ := List.mem_map.1 ht
    have h3' := (List.pairwise_append.1 hE).1
    have h4' := (List.pairwise_append.1 h3').2.2
    have hzb := hb z (by rw [List.append_assoc]; exact List.mem_append.2 (.inr hz))
    rw [evT_in hzb.1 hzb.2 h3 h4]
    have hle : x ≤ z := by
      rcases List.mem_append.1 hz with hz | hz
      · have : z = x := by simpa using hz
        omega
      · have := (List.pairwise_append.1 hE).2.2 x (by simp) z hz
        omega
    simp; omega
  rw [this, List.append_nil]

/-- what event.Of knows between two rounds over its rule's days. -/
def EvI (a b mi : Int) (w0 : World) (ob mb kb : Nat) (kv : Value) (Pr : Nat → Prop) (pre : List Int) (W : World) : Prop :=
  Col w0 ob 22 3 (fun k => Pr k ∨ k = mb ∨ k = kb) (inR a b (tmsL mi pre)) W ∧ Var mb 3 (.int .i64 mi) Pr W ∧ Var kb 149 kv Pr W

theorem EvI.step {a b mi : Int} {w0 : World} {ob mb kb : Nat} {kv : Value} {Pr Pr' : Nat → Prop} {pre : List Int} {W W' : World} (h : EvI a b mi w0 ob mb kb kv Pr pre W) (hs : StepP w0.heap.size Pr W W') (hp : ∀ k, Pr' k → Pr k ∨ (W.heap.size ≤ k ∧ k < W'.heap.size)) : EvI a b mi w0 ob mb kb kv Pr' pre W' :=
  ⟨h.1.step (hs.widen fun _ => .inl) (fun k hk => by
    rcases hk with hk | hk
    · rcases hp k hk with h1 | h1
      · exact .inl (.inl h1)
      · exact .inr h1
    · exact .inl (.inr hk)), h.2.1.step hs hp, h.2.2.step hs hp⟩

/-- the list that is gathered, beside the keep cell and a range's record. -/
theorem Col.swap {w0 : World} {ob kb D : Nat} {T e tk : TypeId} {kv : Value} {Pr : Nat → Prop} {xs : List Int} {W : World} {o : Option (List Deferred)} (h : Col w0 ob T e Pr xs W) (hk : Boxed W kb tk kv) (hte : tk ≠ e) (hok : ob ≠ kb) (hD : W.heap[D]? = some (.deferred o)) :
    Col w0 ob T e (fun k => k = kb ∨ k = D) xs W := by
  obtain ⟨⟨hb, hob, _⟩, v, hv, hr, _, _⟩ := h
  refine ⟨⟨hb, hob, ?_⟩, v, hv, hr, ?_, ?_⟩
  · rintro k (rfl | rfl)
    · exact hk.lt
    · exact (Array.getElem?_eq_some_iff.1 hD).1
  · rintro (h | h)
    · exact hok h
    · subst h
      have := (show W.heap[ob]? = _ from hv).symm.trans hD
      simp at this
  · rintro g hg (h | h)
    · subst h
      exact hk.not_row hte hr hg.symm
    · subst h
      rcases hr.2 with ⟨rfl, _⟩ | ⟨g', cap, cur, rfl, _, hgb, _⟩
      · cases hg
      · obtain rfl : g' = g := by simpa [Value.ownBlock] using hg
        have := hgb.symm.trans hD
        simp at this

/-- a range's record outlives what happens to a row. -/
theorem grown_rec {w w' : World} {base n cw D : Nat} {e : TypeId} {v : Value} {xs : List Value} {o : Option (List Deferred)} (hr : w.ownsRow base e cw v n xs) (hg : w.grownBy w' v.ownBlock) (hD : w.heap[D]? = some (.deferred o)) : w'.heap[D]? = some (.deferred o) := by
  refine (hg.block D (Array.getElem?_eq_some_iff.1 hD).1 ?_).trans hD
  intro h
  rcases hr.2 with ⟨rfl, _⟩ | ⟨g', cap, cur, rfl, _, hgb, _⟩
  · cases h
  · obtain rfl : D = g' := by simpa [Value.ownBlock] using h
    have := hgb.symm.trans hD
    simp at this

end Go.Proofs.YtgelojhpanbnaaaGreatDoor

namespace Go.Proofs.YtgelojhpanbnaaaGreatDoor
open Go.RowKit Go.Shelf
set_option linter.unusedSimpArgs false
set_option linter.unusedVariables false

theorem evL_up (B M N : List Int) (a b : Int) : (evL B M N a b).Pairwise (· < ·) := by
  unfold evL notIn srt
  exact (sortC_rises _).sublist List.filter_sublist

theorem evL_mem {B M N : List Int} {a b x : Int} : x ∈ evL B M N a b ↔ (x ∈ B ∨ x ∈ M) ∧ a ≤ x ∧ x ≤ b ∧ inB N x = false := by
  unfold evL notIn srt
  rw [List.mem_filter, sortC_mem, List.mem_append]
  simp only [inR, List.mem_filter, Bool.and_eq_true, decide_eq_true_eq, Bool.not_eq_true']
  constructor
  · rintro ⟨h | h, h2⟩
    · exact ⟨.inl h.1, h.2.1, h.2.2, h2⟩
    · exact ⟨.inr h.1, h.2.1, h.2.2, h2⟩
  · rintro ⟨h | h, h1, h2, h3⟩
    · exact ⟨.inl ⟨h, h1, h2⟩, h3⟩
    · exact ⟨.inr ⟨h, h1, h2⟩, h3⟩

theorem rise_append {L K : List Int} (h1 : L.Pairwise (· < ·)) (h2 : K.Pairwise (· < ·)) (h : ∀ x ∈ L, ∀ y ∈ K, x < y) : (L ++ K).Pairwise (· < ·) := List.pairwise_append.2 ⟨h1, h2, h⟩

theorem evL_split {B M N : List Int} {a b c : Int} (h1 : a ≤ c) (h2 : c < b) : evL B M N a c ++ evL B M N (c + 1) b = evL B M N a b := by
  refine rise_ext _ _ (rise_append (evL_up ..) (evL_up ..) fun x hx y hy => ?_) (evL_up ..) fun x => ?_
  · have := (evL_mem.1 hx).2; have := (evL_mem.1 hy).2; omega
  · rw [List.mem_append, evL_mem, evL_mem, evL_mem]
    constructor
    · rintro (h | h)
      · exact ⟨h.1, h.2.1, by omega, h.2.2.2⟩
      · exact ⟨h.1, by omega, h.2.2.1, h.2.2.2⟩
    · rintro ⟨h, k1, k2, k3⟩
      by_cases hc : x ≤ c
      · exact .inl ⟨h, k1, hc, k3⟩
      · exact .inr ⟨h, by omega, k2, k3⟩

/-- the days that a rule asks for, from a day on. -/
noncomputable def daysAt (fr ev ct ti n : Int) (mo da : List Int) (we : List (Int × Int)) (pk : List Int) : List Int :=
  open Classical in if h : ∃ p : Int × Int × Int, Cal.dateB p.1 p.2.1 p.2.2 = true ∧ Cal.num p.1 p.2.1 p.2.2 = n then eachL fr ev ct ti h.choose.1 h.choose.2.1 h.choose.2.2 mo da we pk n else []

theorem daysAt_eq {fr ev ct ti n y m d : Int} {mo da : List Int} {we : List (Int × Int)} {pk : List Int} (hd : Cal.dateB y m d = true) (hn : Cal.num y m d = n) : daysAt fr ev ct ti n mo da we pk = eachL fr ev ct ti y m d mo da we pk n := by
  have h : ∃ p : Int × Int × Int, Cal.dateB p.1 p.2.1 p.2.2 = true ∧ Cal.num p.1 p.2.1 p.2.2 = n := ⟨(y, m, d), hd, hn⟩
  have hc := h.choose_spec
  obtain ⟨e1, e2, e3⟩ := Cal.num_inj hc.1 hd (hc.2.trans hn.symm)
  unfold daysAt
  rw [dif_pos h, e1, e2, e3]

/-- the times of an event's start and rule. -/
noncomputable def ruleT (rp : Bool) (st fr ev ct ti : Int) (mo da : List Int) (we : List (Int × Int)) (pk : List Int) : List Int :=
  if rp = true then tmsL (st % 1440) (daysAt fr ev ct ti (st / 1440 + 1) mo da we pk) else [st]

/-- an event that may be asked for its times. -/
def EvOk (rp : Bool) (st fr ev ct ti : Int) (mo da : List Int) (we : List (Int × Int)) (pk M : List Int) : Prop :=
  timeB st = true ∧ (rp = true → ruleF fr ev ct ti mo da we pk = 0) ∧ M.length ≤ 100

theorem evF_ok {nm tx : List UInt8} {st ln : Int} {rp : Bool} {fr ev ct ti : Int} {mo da : List Int} {we : List (Int × Int)} {pk M N : List Int} {C : List (Int × Int)} {A : List Alm} (h : evF nm tx st ln rp fr ev ct ti mo da we pk M N C A = 0) :
    evA nm tx = false ∧ evB st ln = false ∧ evG rp fr ev ct ti mo.length da.length we.length pk.length = false ∧ (rp = true → ruleF fr ev ct ti mo da we pk = 0) ∧ evD M.length N.length C.length A.length = false ∧ evE M N C = false ∧ evR M N C = false ∧ A.any almBad = false := by
  unfold evF at h
  by_cases h1 : evA nm tx = true
  · rw [if_pos h1] at h; cases h
  rw [if_neg h1] at h
  by_cases h2 : evB st ln = true
  · rw [if_pos h2] at h; cases h
  rw [if_neg h2] at h
  by_cases h3 : evG rp fr ev ct ti mo.length da.length we.length pk.length = true
  · rw [if_pos h3] at h; cases h
  rw [if_neg h3] at h
  by_cases h4 : rp = true ∧ ruleF fr ev ct ti mo da we pk ≠ 0
  · rw [if_pos h4] at h; exact absurd h h4.2
  rw [if_neg h4] at h
  by_cases h5 : evD M.length N.length C.length A.length = true
  · rw [if_pos h5] at h; cases h
  rw [if_neg h5] at h
  by_cases h6 : evE M N C = true
  · rw [if_pos h6] at h; cases h
  rw [if_neg h6] at h
  by_cases h7 : evR M N C = true
  · rw [if_pos h7] at h; cases h
  rw [if_neg h7] at h
  by_cases h8 : A.any almBad = true
  · rw [if_pos h8] at h; cases h
  refine ⟨by simpa using h1, by simpa using h2, by simpa using h3, fun hr => ?_, by simpa using h5, by simpa using h6, by simpa using h7, by simpa using h8⟩
  by_cases hq : ruleF fr ev ct ti mo da we pk = 0
  · exact hq
  · exact absurd ⟨hr, hq⟩ h4

theorem badT_no {t : Int} (h : badT t = false) : timeB t = true := by
  simpa [badT] using h

theorem evF_EvOk {nm tx : List UInt8} {st ln : Int} {rp : Bool} {fr ev ct ti : Int} {mo da : List Int} {we : List (Int × Int)} {pk M N : List Int} {C : List (Int × Int)} {A : List Alm} (h : evF nm tx st ln rp fr ev ct ti mo da we pk M N C A = 0) :
    EvOk rp st fr ev ct ti mo da we pk M := by
  obtain ⟨-, h2, -, h4, h5, -⟩ := evF_ok h
  refine ⟨badT_no ?_, h4, ?_⟩
  · unfold evB at h2; simp only [Bool.or_eq_false_iff] at h2; exact h2.1.1
  · unfold evD at h5; simp only [Bool.or_eq_false_iff, decide_eq_false_iff_not] at h5; omega

/-- the fault of a stretch. -/
def spanE (a b : Int) : Int := if timeB a = true ∧ timeB b = true ∧ a ≤ b ∧ b - a ≤ 1000000 then 0 else 1

def eventE (F a b : Int) : Int := if F ≠ 0 then F else spanE a b

/-- the fault of a list that is too long. -/
def fullE (E : Int) (R : List Int) : Int := if E = 0 ∧ 200 < R.length then 4 else E

theorem fullE_no {E : Int} {R : List Int} (h : E ≠ 0) : fullE E R = E := by rw [fullE, if_neg (fun k => h k.1)]

theorem eventE_0 {F a b : Int} (h : eventE F a b = 0) : F = 0 ∧ timeB a = true ∧ timeB b = true ∧ a ≤ b ∧ b - a ≤ 1000000 := by
  unfold eventE at h
  by_cases h0 : F ≠ 0
  · rw [if_pos h0] at h; exact absurd h h0
  · rw [if_neg h0] at h
    unfold spanE at h
    by_cases h1 : timeB a = true ∧ timeB b = true ∧ a ≤ b ∧ b - a ≤ 1000000
    · exact ⟨by omega, h1⟩
    · rw [if_neg h1] at h; cases h

theorem fullE_0 {E : Int} {R : List Int} (h : fullE E R = 0) : E = 0 ∧ R.length ≤ 200 := by
  unfold fullE at h
  by_cases h1 : E = 0 ∧ 200 < R.length
  · rw [if_pos h1] at h; cases h
  · rw [if_neg h1] at h; exact ⟨h, by omega⟩

theorem eventE_mk {F a b : Int} (h0 : F = 0) (h1 : timeB a = true) (h2 : timeB b = true) (h3 : a ≤ b) (h4 : b - a ≤ 1000000) : eventE F a b = 0 := by
  rw [eventE, if_neg (by omega), spanE, if_pos ⟨h1, h2, h3, h4⟩]

theorem timeB_mid {a b c : Int} (h1 : timeB a = true) (h2 : timeB b = true) (h3 : a ≤ c) (h4 : c ≤ b) : timeB c = true := by
  obtain ⟨x1, x2⟩ := timeB_yes h1
  obtain ⟨y1, y2⟩ := timeB_yes h2
  exact timeB_mk (by omega) (by omega)

end Go.Proofs.YtgelojhpanbnaaaGreatDoor

namespace Go.Proofs.YtgelojhpanbnaaaGreatDoor
open Go.RowKit Go.Shelf
set_option linter.unusedSimpArgs false
set_option linter.unusedVariables false

/-- when a time is really, and whether it is called off. -/
def reallyC (C : List (Int × Int)) (t : Int) : Int × Bool := match C.find? (fun c => c.1 == t) with
  | none => (t, false)
  | some c => (c.2, c.2 == 0)

/-- is a number one of an event's times? -/
def IsT (B M N : List Int) (t : Int) : Prop := (t ∈ B ∨ t ∈ M) ∧ inB N t = false

theorem evL_is {B M N : List Int} {a b x : Int} : x ∈ evL B M N a b ↔ IsT B M N x ∧ a ≤ x ∧ x ≤ b := by
  rw [evL_mem, IsT]
  exact ⟨fun h => ⟨⟨h.1, h.2.2.2⟩, h.2.1, h.2.2.1⟩, fun h => ⟨h.1.1, h.2.1, h.2.2, h.1.2⟩⟩

/-- from the first change to the last one. -/
def chgA (B M N : List Int) (C : List (Int × Int)) : List Int := evL B M N (C.head?.getD (0, 0)).1 (C.getLast?.getD (0, 0)).1

/-- the changes that are of times that an event has. -/
def chgL (B M N : List Int) (C : List (Int × Int)) : List (Int × Int) := C.filter fun c => inB (chgA B M N C) c.1

theorem rises_at {C : List (Int × Int)} (h : C.Pairwise (fun x y => x.1 < y.1)) {c : Int × Int} (hc : c ∈ C) : (C.head?.getD (0, 0)).1 ≤ c.1 ∧ c.1 ≤ (C.getLast?.getD (0, 0)).1 := by
  obtain ⟨i, hi, rfl⟩ := List.mem_iff_getElem.1 hc
  have hp := List.pairwise_iff_getElem.1 h
  rw [List.head?_eq_getElem?, List.getLast?_eq_getElem?, List.getElem?_eq_getElem (show 0 < C.length by omega), List.getElem?_eq_getElem (show C.length - 1 < C.length by omega)]
  simp only [Option.getD_some]
  constructor
  · by_cases h0 : i = 0
    · subst h0; exact Int.le_refl _
    · exact Int.le_of_lt (hp 0 i (by omega) hi (by omega))
  · by_cases h0 : i = C.length - 1
    · subst h0; exact Int.le_refl _
    · exact Int.le_of_lt (hp i (C.length - 1) hi (by omega) (by omega))

theorem chgL_mem {B M N : List Int} {C : List (Int × Int)} (h : C.Pairwise (fun x y => x.1 < y.1)) {c : Int × Int} : c ∈ chgL B M N C ↔ c ∈ C ∧ IsT B M N c.1 := by
  rw [chgL, List.mem_filter]
  constructor
  · rintro ⟨h1, h2⟩
    exact ⟨h1, (evL_is.1 (of_decide_eq_true h2)).1⟩
  · rintro ⟨h1, h2⟩
    exact ⟨h1, decide_eq_true (evL_is.2 ⟨h2, rises_at h h1⟩)⟩

/-- a time, if it is one: which, and from when. -/
def oneT (ah : Int) (Z C : List (Int × Int)) (ln t : Int) : Option (Int × Int) :=
  if (reallyC C t).2 = true then none else match zoneAll ah Z (reallyC C t).1 with
    | [] => none
    | x :: _ => if timeB (x + ln) = true then some (t, x) else none

theorem oneT_which {ah : Int} {Z C : List (Int × Int)} {ln t : Int} {x : Int × Int} (h : oneT ah Z C ln t = some x) : x.1 = t ∧ timeB x.2 = true ∧ timeB (x.2 + ln) = true ∧ (reallyC C t).2 = false ∧ x.2 ∈ zoneAll ah Z (reallyC C t).1 := by
  unfold oneT at h
  by_cases h1 : (reallyC C t).2 = true
  · rw [if_pos h1] at h; cases h
  rw [if_neg h1] at h
  cases hz : zoneAll ah Z (reallyC C t).1 with
  | nil => rw [hz] at h; cases h
  | cons y r =>
    rw [hz] at h
    simp only at h
    by_cases h2 : timeB (y + ln) = true
    · rw [if_pos h2] at h
      cases h
      have hm : y ∈ zoneAll ah Z (reallyC C t).1 := by rw [hz]; exact List.mem_cons_self
      exact ⟨rfl, (zoneAll_mem.1 hm).1, h2, by simpa using h1, by simp⟩
    · rw [if_neg h2] at h; cases h

/-- .. that begins from one to below another one. -/
def winT (ah : Int) (Z C : List (Int × Int)) (ln a b t : Int) : Option (Int × Int) := (oneT ah Z C ln t).filter fun x => decide (a ≤ x.2) && decide (x.2 < b)

theorem winT_mem {ah : Int} {Z C : List (Int × Int)} {ln a b t : Int} {x : Int × Int} : winT ah Z C ln a b t = some x ↔ oneT ah Z C ln t = some x ∧ a ≤ x.2 ∧ x.2 < b := by
  rw [winT, Option.filter_eq_some_iff]
  simp only [Bool.and_eq_true, decide_eq_true_eq]

/-- what is known of an event that is right. -/
structure EvFacts (st ln : Int) (rp : Bool) (fr ev ct ti : Int) (mo da : List Int) (we : List (Int × Int)) (pk M N : List Int) (C : List (Int × Int)) (A : List Alm) : Prop where
  ok : EvOk rp st fr ev ct ti mo da we pk M
  ln : 0 ≤ ln ∧ ln ≤ 100000
  lenM : M.length ≤ 100
  lenN : N.length ≤ 100
  lenC : C.length ≤ 100
  lenA : A.length ≤ 4
  tM : ∀ t ∈ M, timeB t = true
  tC : ∀ c ∈ C, timeB c.1 = true ∧ (c.2 = 0 ∨ timeB c.2 = true)
  upC : C.Pairwise (fun x y => x.1 < y.1)
  alm : ∀ a ∈ A, almBad a = false

theorem evF_facts {nm tx : List UInt8} {st ln : Int} {rp : Bool} {fr ev ct ti : Int} {mo da : List Int} {we : List (Int × Int)} {pk M N : List Int} {C : List (Int × Int)} {A : List Alm} (h : evF nm tx st ln rp fr ev ct ti mo da we pk M N C A = 0) :
    EvFacts st ln rp fr ev ct ti mo da we pk M N C A := by
  obtain ⟨-, h2, -, h4, h5, h6, h7, h8⟩ := evF_ok h
  unfold evB at h2; simp only [Bool.or_eq_false_iff, decide_eq_false_iff_not] at h2
  unfold evD at h5; simp only [Bool.or_eq_false_iff, decide_eq_false_iff_not] at h5
  unfold evE at h6; simp only [Bool.or_eq_false_iff, List.any_eq_false] at h6
  unfold evR at h7; simp only [Bool.or_eq_false_iff, Bool.not_eq_false'] at h7
  refine ⟨evF_EvOk h, by omega, by omega, by omega, by omega, by omega, fun t ht => ?_, fun c hc => ⟨?_, ?_⟩, ?_, fun a ha => ?_⟩
  · have := h6.1 t (by simp [ht])
    exact badT_no (by simpa using this)
  · have := h6.1 c.1 (by simp only [List.mem_append, List.mem_map]; exact .inr ⟨c, hc, rfl⟩)
    exact badT_no (by simpa using this)
  · have := h6.2 c hc
    unfold badC at this
    by_cases h0 : c.2 = 0
    · exact .inl h0
    · right
      simpa [h0] using this
  · have h9 := h7.2
    unfold risesB at h9
    have h10 := of_decide_eq_true h9
    exact List.pairwise_map.1 h10
  · have := List.any_eq_false.1 h8 a ha
    simpa using this

theorem really_time {C : List (Int × Int)} {t : Int} (h : ∀ c ∈ C, timeB c.1 = true ∧ (c.2 = 0 ∨ timeB c.2 = true)) (ht : timeB t = true) : 0 ≤ (reallyC C t).1 ∧ (reallyC C t).1 < 157785120 := by
  unfold reallyC
  cases hf : C.find? (fun c => c.1 == t) with
  | none => have := timeB_yes ht; simp only; omega
  | some c =>
    have h1 := List.mem_of_find?_eq_some hf
    rcases (h c h1).2 with h2 | h2
    · simp only; omega
    · have := timeB_yes h2; simp only; omega

theorem tms_time {mi : Int} {E : List Int} (h : ∀ z ∈ E, 1 ≤ z ∧ z ≤ 109573) (h1 : 0 ≤ mi) (h2 : mi < 1440) {x : Int} (hx : x ∈ tmsL mi E) : 0 ≤ x ∧ x < 157785120 := by
  obtain ⟨z, hz, rfl⟩ := List.mem_map.1 hx
  have := h z hz
  rw [evT_in this.1 this.2 h1 h2]
  omega

/-- all times of an event are some, or 0. -/
theorem ruleT_time {rp : Bool} {st fr ev ct ti : Int} {mo da : List Int} {we : List (Int × Int)} {pk M : List Int} (h : EvOk rp st fr ev ct ti mo da we pk M) {x : Int} (hx : x ∈ ruleT rp st fr ev ct ti mo da we pk) : 0 ≤ x ∧ x < 157785120 := by
  obtain ⟨h1, h2, h3⟩ := h
  obtain ⟨t1, t2⟩ := timeB_yes h1
  unfold ruleT at hx
  cases rp
  · simp at hx; omega
  · rw [if_pos rfl] at hx
    obtain ⟨y, m, d, hd, hn⟩ := Cal.ex_date (st / 1440 + 1) (by omega) (by omega)
    rw [daysAt_eq hd hn] at hx
    exact tms_time (eachL_up hd hn (ruleF_0 (h2 rfl)).2.1).2 (by omega) (by omega) hx

theorem ruleT_len {rp : Bool} {st fr ev ct ti : Int} {mo da : List Int} {we : List (Int × Int)} {pk M : List Int} (h : EvOk rp st fr ev ct ti mo da we pk M) : (ruleT rp st fr ev ct ti mo da we pk).length ≤ 109573 := by
  obtain ⟨h1, h2, h3⟩ := h
  obtain ⟨t1, t2⟩ := timeB_yes h1
  unfold ruleT
  cases rp
  · simp
  · rw [if_pos rfl]
    obtain ⟨y, m, d, hd, hn⟩ := Cal.ex_date (st / 1440 + 1) (by omega) (by omega)
    rw [daysAt_eq hd hn, tmsL, List.length_map]
    exact eachL_len hd hn (ruleF_0 (h2 rfl)).2.1

/-- one time begins ahead of another one. -/
def Lt2 (x y : Int × Int) : Prop := x.2 < y.2 ∨ (x.2 = y.2 ∧ x.1 < y.1)

theorem lt2_irr (x : Int × Int) : ¬ Lt2 x x := by unfold Lt2; omega
theorem lt2_trans {x y z : Int × Int} (h1 : Lt2 x y) (h2 : Lt2 y z) : Lt2 x z := by unfold Lt2 at *; omega
theorem lt2_tot {x y : Int × Int} (h1 : ¬ Lt2 y x) (h2 : x ≠ y) : Lt2 x y := by
  unfold Lt2 at *
  by_cases h : x.1 = y.1
  · by_cases h3 : x.2 = y.2
    · exact absurd (Prod.ext h h3) h2
    · omega
  · omega

/-- Two lists in one strict order that have the same members are one. -/
theorem ord_ext {α : Type} {R : α → α → Prop} (irr : ∀ x, ¬ R x x) (tr : ∀ {x y z}, R x y → R y z → R x z) : ∀ (a b : List α), a.Pairwise R → b.Pairwise R → (∀ x, x ∈ a ↔ x ∈ b) → a = b
  | [], [], _, _, _ => rfl
  | [], y :: b, _, _, h => absurd ((h y).2 List.mem_cons_self) (by simp)
  | x :: a, [], _, _, h => absurd ((h x).1 List.mem_cons_self) (by simp)
  | x :: a, y :: b, ha, hb, h => by
    rw [List.pairwise_cons] at ha hb
    have hxy : x = y := by
      rcases List.mem_cons.1 ((h x).1 List.mem_cons_self) with h1 | h1
      · exact h1
      · rcases List.mem_cons.1 ((h y).2 List.mem_cons_self) with h2 | h2
        · exact h2.symm
        · exact absurd (tr (ha.1 y h2) (hb.1 x h1)) (irr _)
    subst hxy
    refine congrArg _ (ord_ext irr tr a b ha.2 hb.2 fun z => ⟨fun hz => ?_, fun hz => ?_⟩)
    · rcases List.mem_cons.1 ((h z).1 (List.mem_cons_of_mem _ hz)) with rfl | h1
      · exact absurd (ha.1 z hz) (irr _)
      · exact h1
    · rcases List.mem_cons.1 ((h z).2 (List.mem_cons_of_mem _ hz)) with rfl | h1
      · exact absurd (hb.1 z hz) (irr _)
      · exact h1

/-- is the second not ahead of the first? -/
def leT (x y : Int × Int) : Bool := decide (x.2 < y.2) || (decide (x.2 = y.2) && decide (x.1 ≤ y.1))

/-- times in order. -/
def srtT (L : List (Int × Int)) : List (Int × Int) := L.mergeSort leT

theorem srtT_len (L : List (Int × Int)) : (srtT L).length = L.length := List.length_mergeSort L

theorem leT_iff {x y : Int × Int} : leT x y = true ↔ ¬ Lt2 y x := by
  simp only [leT, Lt2, Bool.or_eq_true, Bool.and_eq_true, decide_eq_true_eq]; omega

theorem srtT_ord {L : List (Int × Int)} (hn : L.Nodup) : (srtT L).Pairwise Lt2 := by
  have h := List.pairwise_mergeSort (le := leT) (fun a b c h1 h2 => by simp only [leT, Bool.or_eq_true, Bool.and_eq_true, decide_eq_true_eq] at *; omega) (fun a b => by simp only [leT, Bool.or_eq_true, Bool.and_eq_true, decide_eq_true_eq]; omega) L
  have h2 : (L.mergeSort leT).Nodup := (List.mergeSort_perm L leT).nodup_iff.2 hn
  refine (h.and h2).imp ?_
  rintro x y ⟨h3, h4⟩
  exact lt2_tot (leT_iff.1 h3) h4

/-- which may be one in a stretch. -/
def whichL (B M N : List Int) (C : List (Int × Int)) (a b : Int) : List Int := Lib.compact (srt (evL B M N (a - 2000) (b + 2000) ++ (chgL B M N C).map (·.1)))

/-- the times that begin from one to below another one, in order. -/
def tmsOf (ah : Int) (Z : List (Int × Int)) (B M N : List Int) (C : List (Int × Int)) (ln a b : Int) : List (Int × Int) := srtT ((whichL B M N C a b).filterMap (winT ah Z C ln a b))

theorem whichL_up (B M N : List Int) (C : List (Int × Int)) (a b : Int) : (whichL B M N C a b).Pairwise (· < ·) := by unfold whichL srt; exact sortC_rises _

theorem win_nodup {ah : Int} {Z C : List (Int × Int)} {ln a b : Int} : ∀ {K : List Int}, K.Pairwise (· < ·) → (K.filterMap (winT ah Z C ln a b)).Nodup
  | [], _ => by simp
  | t :: K, h => by
    rw [List.pairwise_cons] at h
    cases hw : winT ah Z C ln a b t with
    | none => rw [List.filterMap_cons_none hw]; exact win_nodup h.2
    | some x =>
      rw [List.filterMap_cons_some hw, List.nodup_cons]
      refine ⟨fun hm => ?_, win_nodup h.2⟩
      obtain ⟨s, hs, he⟩ := List.mem_filterMap.1 hm
      have h1 := (oneT_which (winT_mem.1 hw).1).1
      have h2 := (oneT_which (winT_mem.1 he).1).1
      have := h.1 s hs
      omega

theorem tmsOf_ord (ah : Int) (Z : List (Int × Int)) (B M N : List Int) (C : List (Int × Int)) (ln a b : Int) : (tmsOf ah Z B M N C ln a b).Pairwise Lt2 := srtT_ord (win_nodup (whichL_up ..))

/-- a zone is never more ahead, or behind. -/
def MayZ (ah : Int) (Z : List (Int × Int)) : Prop := ∀ t, -900 ≤ zoneOf ah Z t ∧ zoneOf ah Z t ≤ 900

theorem tmsOf_mem {ah : Int} {Z : List (Int × Int)} {B M N : List Int} {C : List (Int × Int)} {ln a b : Int} (hz : MayZ ah Z) (hC : C.Pairwise (fun x y => x.1 < y.1)) {x : Int × Int} :
    x ∈ tmsOf ah Z B M N C ln a b ↔ IsT B M N x.1 ∧ oneT ah Z C ln x.1 = some x ∧ a ≤ x.2 ∧ x.2 < b := by
  unfold tmsOf srtT
  rw [List.mem_mergeSort, List.mem_filterMap]
  constructor
  · rintro ⟨t, ht, hw⟩
    obtain ⟨h1, h2, h3⟩ := winT_mem.1 hw
    have e := (oneT_which h1).1
    rw [e]
    refine ⟨?_, h1, h2, h3⟩
    unfold whichL srt at ht
    rw [sortC_mem, List.mem_append] at ht
    rcases ht with ht | ht
    · exact (evL_is.1 ht).1
    · obtain ⟨c, hc, rfl⟩ := List.mem_map.1 ht
      exact ((chgL_mem hC).1 hc).2
  · rintro ⟨h1, h2, h3, h4⟩
    refine ⟨x.1, ?_, winT_mem.2 ⟨h2, h3, h4⟩⟩
    unfold whichL srt
    rw [sortC_mem, List.mem_append]
    cases hf : C.find? (fun c => c.1 == x.1) with
    | none =>
      left
      have hm := (oneT_which h2).2.2.2.2
      rw [reallyC, hf] at hm
      have := (zoneAll_mem.1 hm).2
      have := hz x.2
      simp only at *
      exact evL_is.2 ⟨h1, by omega, by omega⟩
    | some c =>
      right
      have h5 := List.mem_of_find?_eq_some hf
      have h6 : c.1 = x.1 := by simpa using List.find?_some hf
      exact List.mem_map.2 ⟨c, (chgL_mem hC).2 ⟨h5, by rw [h6]; exact h1⟩, h6⟩

theorem tmsOf_split {ah : Int} {Z : List (Int × Int)} {B M N : List Int} {C : List (Int × Int)} {ln a b c : Int} (hz : MayZ ah Z) (hC : C.Pairwise (fun x y => x.1 < y.1)) (h1 : a ≤ c) (h2 : c ≤ b) :
    tmsOf ah Z B M N C ln a c ++ tmsOf ah Z B M N C ln c b = tmsOf ah Z B M N C ln a b := by
  refine ord_ext lt2_irr lt2_trans _ _ (List.pairwise_append.2 ⟨tmsOf_ord .., tmsOf_ord .., fun x hx y hy => ?_⟩) (tmsOf_ord ..) fun x => ?_
  · have h3 := (tmsOf_mem hz hC).1 hx
    have h4 := (tmsOf_mem hz hC).1 hy
    unfold Lt2; omega
  · rw [List.mem_append, tmsOf_mem hz hC, tmsOf_mem hz hC, tmsOf_mem hz hC]
    constructor
    · rintro (h | h)
      · exact ⟨h.1, h.2.1, h.2.2.1, by omega⟩
      · exact ⟨h.1, h.2.1, by omega, h.2.2.2⟩
    · rintro ⟨h3, h4, h5, h6⟩
      by_cases h7 : x.2 < c
      · exact .inl ⟨h3, h4, h5, h7⟩
      · exact .inr ⟨h3, h4, by omega, h6⟩

end Go.Proofs.YtgelojhpanbnaaaGreatDoor

namespace Go.Proofs.YtgelojhpanbnaaaGreatDoor
open Go.RowKit Go.Shelf
set_option linter.unusedSimpArgs false
set_option linter.unusedVariables false

/-- where a time is among the changes, and whether. -/
def FoundAt (C : List (Int × Int)) (t : Int) (k : Nat) (b : Bool) : Prop := (b = true ∧ ∃ h : k < C.length, C[k].1 = t) ∨ (b = false ∧ ∀ c ∈ C, c.1 ≠ t)

def SearchP (C : List (Int × Int)) (t : Int) (w : World) (e : Ending) (w' : World) : Prop := ∃ (k : Nat) (b : Bool), e = .returned (.tuple #[.int .i64 k, .bool b]) ∧ FoundAt C t k b ∧ Below w.heap.size w w'

theorem found_yes {C : List (Int × Int)} {t : Int} {k : Nat} (hp : C.Pairwise (fun x y => x.1 < y.1)) (h : k < C.length) (he : C[k].1 = t) : reallyC C t = (C[k].2, C[k].2 == 0) := by
  have hf : C.find? (fun c => c.1 == t) = some C[k] := by
    rw [List.find?_eq_some_iff_getElem]
    refine ⟨by simpa using he, k, h, rfl, fun j hj => ?_⟩
    have := List.pairwise_iff_getElem.1 hp j k (by omega) h hj
    simp; omega
  rw [reallyC, hf]

theorem found_no {C : List (Int × Int)} {t : Int} (h : ∀ c ∈ C, c.1 ≠ t) : reallyC C t = (t, false) := by
  have hf : C.find? (fun c => c.1 == t) = none := by
    rw [List.find?_eq_none]; intro c hc; simpa using h c hc
  rw [reallyC, hf]

theorem chcmp_any (x y t : Int) (w : World) :
    Calls Tryz.prog 157 #[.agg #[.int .i64 x, .int .i64 y], .int .i64 t] w fun e w' => e = .returned (.int .i64 (cmpQ x t)) ∧ Below w.heap.size w w' := by
  have hb : Below w.heap.size w (w.alloc (.cells #[.int .i64 x, .int .i64 y] 134)) := (Below.refl _ _).alloc (Nat.le_refl _) _
  have HB := Lib.hid hb
  clear hb
  go_enter Tryz.func157, Tryz.ntmps157
  go_wp2_with fail
  refine (cmpq_any x t _).mono ?_; rintro e w1 ⟨rfl, rfl⟩
  go_wp2
  go_ret
  exact ⟨rfl, HB.out⟩

set_option maxRecDepth 100000 in
set_option maxHeartbeats 4000000 in
theorem csearch_any (v : Value) (C : List (Int × Int)) (t : Int) (w : World) (hC : PairsR w v C) (hp : C.Pairwise (fun x y => x.1 < y.1)) (hl : C.length ≤ 1000) :
    Calls Tryz.prog 156 #[v, .int .i64 t, .func (.func 157) #[] #[]] w (SearchP C t w) := by
  obtain ⟨a, cap, rfl, k1, k2, hds⟩ := pairsR_open hC
  have HC := Lib.hid hds; have HP := Lib.hid hp
  clear hds hC hp
  unfold maxLen at k2
  have eg : ∀ args w, (callFunc 157 args).run Tryz.prog w = .ok (.enter 157 args) w := enters_of Tryz.func157 (by kernel_rfl) rfl
  go_enter Tryz.func156, Tryz.ntmps156
  go_wp2
  go_loopg [9, 10] C.length (fun g s9 s10 wr => ∃ lo hi : Nat, s9 = .int .i64 lo ∧ s10 = .int .i64 hi ∧ lo ≤ hi ∧ hi ≤ C.length ∧ hi - lo ≤ g ∧ Hid (Below w.heap.size w wr) ∧ Hid (∀ i (h : i < C.length), (i < lo → C[i].1 < t) ∧ (hi ≤ i → t ≤ C[i].1)))
  case atStart => exact ⟨0, C.length, rfl, rfl, Nat.zero_le _, Nat.le_refl _, by omega, Lib.hid (Below.refl _ _), Lib.hid (fun i h => ⟨fun h1 => by omega, fun h1 => by omega⟩)⟩
  case round =>
    obtain ⟨lo, hi, rfl, rfl, hlh, hin, hg, B, I⟩ := hrel
    have G := Lib.hid hg
    clear hg
    by_cases hlt : lo < hi
    · obtain ⟨b, off, rfl, hcs⟩ := HC.out (by omega)
      obtain ⟨m, hm⟩ : ∃ m, m = (lo + hi) / 2 := ⟨_, rfl⟩
      have hml : m < C.length := by omega
      obtain ⟨x, hx⟩ : ∃ x, x = C[m].1 := ⟨_, rfl⟩
      obtain ⟨y, hy⟩ : ∃ y, y = C[m].2 := ⟨_, rfl⟩
      obtain ⟨c0, c1⟩ := hcs m hml
      rw [← hx] at c0
      rw [← hy] at c1
      have c0 := cell_below B.out c0
      have c1 := cell_below B.out c1
      rw [hm] at c0 c1
      have X := Lib.hid hx; have M := Lib.hid hm
      clear hcs hx hy hm
      go_wp2_with fail
      refine (chcmp_any x y t _).mono ?_; rintro e w1 ⟨rfl, hb1⟩
      have B1 := Lib.hid (B.out.trans (hb1.mono B.out.size))
      clear hb1 c0 c1
      have hq : x < t ∨ t ≤ x := by omega
      rcases hq with hq | hq
      · have d1 : decide (cmpQ x t < 0) = true := decide_eq_true (by unfold cmpQ; rw [if_pos hq]; decide)
        have Q := Lib.hid hq
        clear hq
        go_wp2
        go_roundg (hi - (m + 1))
        case measure => have := G.out; have := M.out; omega
        case rel =>
          have hM := M.out
          exact ⟨m + 1, hi, by rw [hM, show ((lo : Int) + (hi : Int)) / 2 + 1 = (((lo + hi) / 2 + 1 : Nat) : Int) by omega], rfl, by omega, hin, Nat.le_refl _, B1, Lib.hid (fun i h => ⟨fun h1 => by
            by_cases hi2 : i = m
            · subst hi2; rw [← X.out]; exact Q.out
            · have := List.pairwise_iff_getElem.1 HP.out i m h hml (by omega); rw [← X.out] at this; have := Q.out; omega, (I.out i h).2⟩)⟩
      · have d1 : decide (cmpQ x t < 0) = false := decide_eq_false (by unfold cmpQ; rw [if_neg (by omega)]; split <;> omega)
        have Q := Lib.hid hq
        clear hq
        go_wp2
        go_roundg (m - lo)
        case measure => have := G.out; have := M.out; omega
        case rel =>
          have hM := M.out
          exact ⟨lo, m, rfl, by rw [hM, show ((lo : Int) + (hi : Int)) / 2 = (((lo + hi) / 2 : Nat) : Int) by omega], by omega, by omega, Nat.le_refl _, B1, Lib.hid (fun i h => ⟨(I.out i h).1, fun h1 => by
            by_cases hi2 : i = m
            · subst hi2; rw [← X.out]; exact Q.out
            · have := List.pairwise_iff_getElem.1 HP.out m i hml h (by omega); rw [← X.out] at this; have := Q.out; omega⟩)⟩
    · obtain rfl : hi = lo := by omega
      by_cases hn : hi < C.length
      · obtain ⟨b, off, rfl, hcs⟩ := HC.out (by omega)
        obtain ⟨c0, c1⟩ := hcs hi hn
        have c0 := cell_below B.out c0
        have c1 := cell_below B.out c1
        obtain ⟨x, hx⟩ : ∃ x, x = C[hi].1 := ⟨_, rfl⟩
        obtain ⟨y, hy⟩ : ∃ y, y = C[hi].2 := ⟨_, rfl⟩
        rw [← hx] at c0
        rw [← hy] at c1
        have X := Lib.hid hx
        have hxt : t ≤ x := by rw [hx]; exact (I.out hi hn).2 (Nat.le_refl _)
        clear hcs hx hy
        have i2 : (hi : Int) < (C.length : Int) := by omega
        go_wp2_with fail
        refine (chcmp_any x y t _).mono ?_; rintro e w1 ⟨rfl, hb1⟩
        have B1 := Lib.hid (B.out.trans (hb1.mono B.out.size))
        clear hb1 c0 c1
        by_cases hq : x = t
        · have d1 : (cmpQ x t == 0) = true := by simp [cmpQ, hq]
          have Q := Lib.hid hq
          clear hq
          go_wp2
          go_ret2
          exact ⟨hi, true, by first | rfl | simp [*], .inl ⟨rfl, hn, by rw [← X.out]; exact Q.out⟩, B1.out⟩
        · have d1 : (cmpQ x t == 0) = false := by
            have : cmpQ x t = 1 := by unfold cmpQ; rw [if_neg (by omega), if_pos (by omega)]
            rw [this]; rfl
          have Q := Lib.hid hq
          clear hq
          go_wp2
          go_ret2
          refine ⟨hi, false, by first | rfl | simp [*], .inr ⟨rfl, fun c hc he => ?_⟩, B1.out⟩
          obtain ⟨i, hi2, rfl⟩ := List.mem_iff_getElem.1 hc
          have h1 := I.out i hi2
          rcases Nat.lt_trichotomy i hi with h | h | h
          · have := h1.1 h; omega
          · subst h; exact Q.out (X.out.trans he)
          · have := List.pairwise_iff_getElem.1 HP.out hi i hn hi2 h; rw [← X.out] at this; omega
      · have i2 : ¬ (hi : Int) < (C.length : Int) := by omega
        go_wp2
        go_ret2
        refine ⟨hi, false, by first | rfl | simp [*], .inr ⟨rfl, fun c hc he => ?_⟩, B.out⟩
        obtain ⟨i, hi2, rfl⟩ := List.mem_iff_getElem.1 hc
        have := (I.out i hi2).1 (by omega); omega

end Go.Proofs.YtgelojhpanbnaaaGreatDoor

namespace Go.Proofs.YtgelojhpanbnaaaGreatDoor
open Go.RowKit Go.Shelf
set_option linter.unusedSimpArgs false
set_option linter.unusedVariables false

theorem zoneOf_nil (ah t : Int) : zoneOf ah [] t = ah := rfl

theorem zoneAll_nil (ah t : Int) : zoneAll ah [] t = if timeB (t - ah) = true then [t - ah] else [] := by
  by_cases h : timeB (t - ah) = true
  · rw [if_pos h]
    refine rise_ext _ _ (sortC_rises _) (by simp) fun x => ?_
    rw [zoneAll_mem, zoneOf_nil, List.mem_singleton]
    constructor
    · rintro ⟨_, h2⟩; omega
    · rintro rfl; exact ⟨h, by omega⟩
  · rw [if_neg h]
    refine rise_ext _ _ (sortC_rises _) (by simp) fun x => ?_
    rw [zoneAll_mem, zoneOf_nil]
    constructor
    · rintro ⟨h1, h2⟩
      exact absurd (by rw [show t - ah = x by omega]; exact h1) h
    · intro h2; cases h2

theorem oneT_nil {ah : Int} {C : List (Int × Int)} {ln t : Int} {x : Int × Int} : oneT ah [] C ln t = some x ↔ (reallyC C t).2 = false ∧ x.1 = t ∧ x.2 = (reallyC C t).1 - ah ∧ timeB x.2 = true ∧ timeB (x.2 + ln) = true := by
  unfold oneT
  rw [zoneAll_nil]
  cases hr : (reallyC C t).2 with
  | true => simp
  | false =>
    rw [if_neg (by simp)]
    by_cases h : timeB ((reallyC C t).1 - ah) = true
    · rw [if_pos h]
      simp only
      by_cases h2 : timeB ((reallyC C t).1 - ah + ln) = true
      · rw [if_pos h2]
        constructor
        · rintro h3; cases h3; exact ⟨by simp, rfl, rfl, h, h2⟩
        · rintro ⟨_, h3, h4, _, _⟩
          exact congrArg some (Prod.ext h3.symm h4.symm)
      · rw [if_neg h2]
        constructor
        · intro h3; cases h3
        · rintro ⟨_, h3, h4, _, h5⟩
          rw [h4] at h5; exact absurd h5 h2
    · rw [if_neg h]
      constructor
      · intro h3; cases h3
      · rintro ⟨_, h3, h4, h5, _⟩
        rw [h4] at h5; exact absurd h5 h

theorem mayZ_nil {ah : Int} (h : -900 ≤ ah ∧ ah ≤ 900) : MayZ ah [] := fun t => by rw [zoneOf_nil]; exact h

theorem ahead_tms {ah more : Int} {B M N : List Int} {C : List (Int × Int)} {ln a b : Int} (hC : C.Pairwise (fun x y => x.1 < y.1)) (h1 : -900 ≤ ah ∧ ah ≤ 900) (h2 : -900 ≤ ah + more ∧ ah + more ≤ 900) (h3 : -900 ≤ more ∧ more ≤ 900) (ha : 2000 ≤ a) (hb : b ≤ 150000000) (hl : 0 ≤ ln ∧ ln ≤ 100000) :
    tmsOf (ah + more) [] B M N C ln (a - more) (b - more) = (tmsOf ah [] B M N C ln a b).map fun x => (x.1, x.2 - more) := by
  refine ord_ext lt2_irr lt2_trans _ _ (tmsOf_ord ..) (List.pairwise_map.2 ((tmsOf_ord ..).imp fun {x y} h => by unfold Lt2 at *; simp only; omega)) fun x => ?_
  rw [tmsOf_mem (mayZ_nil h2) hC, List.mem_map]
  constructor
  · rintro ⟨k1, k2, k3, k4⟩
    obtain ⟨q1, q2, q3, q4, q5⟩ := oneT_nil.1 k2
    refine ⟨(x.1, x.2 + more), (tmsOf_mem (mayZ_nil h1) hC).2 ⟨k1, oneT_nil.2 ⟨q1, rfl, ?_, ?_, ?_⟩, ?_, ?_⟩, ?_⟩
    · show x.2 + more = (reallyC C x.1).1 - ah; omega
    · exact timeB_mk (show 1 ≤ x.2 + more by omega) (show x.2 + more < 157785120 by omega)
    · exact timeB_mk (show 1 ≤ x.2 + more + ln by omega) (show x.2 + more + ln < 157785120 by omega)
    · show a ≤ x.2 + more; omega
    · show x.2 + more < b; omega
    · exact Prod.ext rfl (show x.2 + more - more = x.2 by omega)
  · rintro ⟨y, hy, rfl⟩
    obtain ⟨k1, k2, k3, k4⟩ := (tmsOf_mem (mayZ_nil h1) hC).1 hy
    obtain ⟨q1, q2, q3, q4, q5⟩ := oneT_nil.1 k2
    refine ⟨k1, oneT_nil.2 ⟨q1, rfl, ?_, ?_, ?_⟩, ?_, ?_⟩
    · show y.2 - more = (reallyC C y.1).1 - (ah + more); omega
    · exact timeB_mk (show 1 ≤ y.2 - more by omega) (show y.2 - more < 157785120 by omega)
    · exact timeB_mk (show 1 ≤ y.2 - more + ln by omega) (show y.2 - more + ln < 157785120 by omega)
    · show a - more ≤ y.2 - more; omega
    · show y.2 - more < b - more; omega

theorem isT_one {st t : Int} : IsT [st] [] [] t ↔ t = st := by simp [IsT, inB]

theorem tmsOf_one {ah : Int} {Z C : List (Int × Int)} {ln a b st : Int} {x : Int × Int} (hz : MayZ ah Z) (hC : C.Pairwise (fun x y => x.1 < y.1)) (hx : oneT ah Z C ln st = some x) (h1 : a ≤ x.2) (h2 : x.2 < b) : tmsOf ah Z [st] [] [] C ln a b = [x] := by
  refine ord_ext lt2_irr lt2_trans _ _ (tmsOf_ord ..) (by simp) fun y => ?_
  rw [tmsOf_mem hz hC, isT_one, List.mem_singleton]
  constructor
  · rintro ⟨h3, h4, _, _⟩
    rw [h3, hx] at h4
    exact (Option.some.inj h4).symm
  · rintro rfl
    have h3 := (oneT_which hx).1
    exact ⟨h3, by rw [h3]; exact hx, h1, h2⟩

theorem ahead_fact : evF [97] [] 5000 0 false 0 0 0 0 [] [] [] [] [] [] [] [] = 0 := by decide +kernel

theorem ahead_times : tmsOf 60 [] [5000] [] [] [] 0 101 500101 = [(5000, 4940)] :=
  tmsOf_one (mayZ_nil (by decide)) (by simp) (oneT_nil.2 ⟨rfl, rfl, by decide, by decide, by decide⟩) (by decide) (by decide)

theorem thold_fact : evF [97] [] 66729179 60 false 0 0 0 0 [] [] [] [] [] [] [(66729179, 66729300)] [] = 0 := by decide +kernel

theorem thold_times : tmsOf 100 [] [66729179] [] [] [(66729179, 66729300)] 60 66729000 66730000 = [(66729179, 66729200)] :=
  tmsOf_one (mayZ_nil (by decide)) (by simp) (oneT_nil.2 ⟨by decide, rfl, by decide, by decide, by decide⟩) (by decide) (by decide)

end Go.Proofs.YtgelojhpanbnaaaGreatDoor

namespace Go.Proofs.YtgelojhpanbnaaaGreatDoor
open Go.RowKit Go.Shelf
set_option linter.unusedSimpArgs false
set_option linter.unusedVariables false

theorem tms_next1 {ah : Int} {Z : List (Int × Int)} {B M N : List Int} {C : List (Int × Int)} {ln a b : Int} (hz : MayZ ah Z) (hC : C.Pairwise (fun x y => x.1 < y.1)) {i : Nat} (hi : i + 1 < (tmsOf ah Z B M N C ln a b).length)
    (h1 : (tmsOf ah Z B M N C ln a b)[i].2 < (tmsOf ah Z B M N C ln a b)[i + 1].2) (h2 : (tmsOf ah Z B M N C ln a b)[i + 1].2 - (tmsOf ah Z B M N C ln a b)[i].2 ≤ 500000) :
    ∃ r, tmsOf ah Z B M N C ln ((tmsOf ah Z B M N C ln a b)[i].2 + 1) ((tmsOf ah Z B M N C ln a b)[i].2 + 500000 + 1) = (tmsOf ah Z B M N C ln a b)[i + 1] :: r := by
  have hm := fun {x} => tmsOf_mem hz hC (B := B) (M := M) (N := N) (ln := ln) (a := a) (b := b) (x := x)
  have ho := tmsOf_ord ah Z B M N C ln a b
  obtain ⟨R, hR⟩ : ∃ R, R = tmsOf ah Z B M N C ln a b := ⟨_, rfl⟩
  simp only [← hR] at hi h1 h2 hm ho ⊢
  obtain ⟨x, hx⟩ : ∃ x, x = R[i] := ⟨_, rfl⟩
  obtain ⟨y, hy⟩ : ∃ y, y = R[i + 1] := ⟨_, rfl⟩
  rw [← hx] at h1 h2 ⊢
  rw [← hy] at h1 h2 ⊢
  have hym : y ∈ R := by rw [hy]; exact List.getElem_mem _
  have hxm : x ∈ R := by rw [hx]; exact List.getElem_mem _
  have hyL := (tmsOf_mem hz hC (B := B) (M := M) (N := N) (ln := ln) (a := x.2 + 1) (b := x.2 + 500000 + 1) (x := y)).2 ⟨(hm.1 hym).1, (hm.1 hym).2.1, by omega, by omega⟩
  have hoL := tmsOf_ord ah Z B M N C ln (x.2 + 1) (x.2 + 500000 + 1)
  have hmL := fun {u} => tmsOf_mem hz hC (B := B) (M := M) (N := N) (ln := ln) (a := x.2 + 1) (b := x.2 + 500000 + 1) (x := u)
  obtain ⟨L, hL⟩ : ∃ L, L = tmsOf ah Z B M N C ln (x.2 + 1) (x.2 + 500000 + 1) := ⟨_, rfl⟩
  rw [← hL] at hyL hoL hmL ⊢
  cases L with
  | nil => cases hyL
  | cons u r =>
    refine ⟨r, ?_⟩
    rcases List.mem_cons.1 hyL with h3 | h3
    · rw [h3]
    · exfalso
      have h4 := (List.pairwise_cons.1 hoL).1 y h3
      have h5 := (hmL (u := u)).1 List.mem_cons_self
      have h6 : u.2 ≤ y.2 := by unfold Lt2 at h4; omega
      have h7 : u ∈ R := hm.2 ⟨h5.1, h5.2.1, by have := (hm.1 hxm).2.2.1; omega, by have := (hm.1 hym).2.2.2; omega⟩
      obtain ⟨j, hj, rfl⟩ := List.mem_iff_getElem.1 h7
      have hp := List.pairwise_iff_getElem.1 ho
      rcases Nat.lt_trichotomy j i with h | h | h
      · have := hp j i hj (by omega) h
        rw [← hx] at this
        unfold Lt2 at this; omega
      · subst h; rw [← hx] at h5; omega
      · rcases Nat.lt_trichotomy j (i + 1) with h8 | h8 | h8
        · omega
        · subst h8; rw [← hy] at h4; exact lt2_irr _ h4
        · have := hp (i + 1) j hi hj h8
          rw [← hy] at this
          exact lt2_irr _ (lt2_trans h4 this)

theorem tms_up {ah : Int} {Z : List (Int × Int)} {B M N : List Int} {C : List (Int × Int)} {ln a b : Int} {i : Nat} (hi : i + 1 < (tmsOf ah Z B M N C ln a b).length) : (tmsOf ah Z B M N C ln a b)[i].2 ≤ (tmsOf ah Z B M N C ln a b)[i + 1].2 := by
  have := List.pairwise_iff_getElem.1 (tmsOf_ord ah Z B M N C ln a b) i (i + 1) (by omega) hi (by omega)
  unfold Lt2 at this; omega

end Go.Proofs.YtgelojhpanbnaaaGreatDoor
