/- seq.Count: its walk. Conditions: the rule is right, it begins at a day. -/
import Derived.Test.YtdpngbjlljgoaaaDoorSeqE
namespace Go.Proofs.YtdpngbjlljgoaaaDoor
open Go.RowKit Go.Shelf
set_option linter.unusedSimpArgs false
set_option linter.unusedVariables false
attribute [local go_sem] Oper.semAt_some

/-- what a function that loops over the days knows of a variable of its own. -/
def Var (ob : Nat) (T : TypeId) (v : Value) (Pr : Nat → Prop) (W : World) : Prop := Boxed W ob T v ∧ ¬ Pr ob

def Lay (w0 : World) (Pr : Nat → Prop) (W : World) : Prop := Below w0.heap.size w0 W ∧ ∀ k, Pr k → k < W.heap.size

theorem Lay.step {w0 : World} {Pr Pr' : Nat → Prop} {W W' : World} (h : Lay w0 Pr W) (hs : StepP w0.heap.size Pr W W') (hp : ∀ k, Pr' k → Pr k ∨ (W.heap.size ≤ k ∧ k < W'.heap.size)) : Lay w0 Pr' W' := by
  have hss := hs.below.size
  refine ⟨h.1.trans hs.below, fun k hk => ?_⟩
  rcases hp k hk with h' | h'
  · have := h.2 k h'; omega
  · exact h'.2

theorem Var.step {B ob : Nat} {T : TypeId} {v : Value} {Pr Pr' : Nat → Prop} {W W' : World} (h : Var ob T v Pr W) (hs : StepP B Pr W W') (hp : ∀ k, Pr' k → Pr k ∨ (W.heap.size ≤ k ∧ k < W'.heap.size)) : Var ob T v Pr' W' := by
  refine ⟨(hs.rest ob h.1.lt h.2).trans h.1, fun h' => ?_⟩
  rcases hp ob h' with h' | h'
  · exact h.2 h'
  · have := h.1.lt; omega

/-- a variable is set: what is of Pr is kept, and any other variable. -/
theorem Var.set {w0 : World} {ob : Nat} {T : TypeId} {v : Value} {Pr : Nat → Prop} {W : World} (v' : Value) (h : Var ob T v Pr W) (hl : Lay w0 Pr W) (hb : w0.heap.size ≤ ob) :
    KeepP w0.heap.size Pr W (W.setCell ⟨ob, 0, none⟩ v') ∧ Var ob T v' Pr (W.setCell ⟨ob, 0, none⟩ v') ∧ Lay w0 Pr (W.setCell ⟨ob, 0, none⟩ v') := by
  have hbl : Below w0.heap.size W (W.setCell ⟨ob, 0, none⟩ v') := (Below.refl _ _).setCell (p := ⟨ob, 0, none⟩) hb v'
  exact ⟨⟨hbl, fun k hk hp => setCell_block W ob k v' (fun e => h.2 (by rw [← e]; exact hp))⟩, ⟨h.1.set v', h.2⟩, hl.1.trans hbl, fun k hk => Nat.lt_of_lt_of_le (hl.2 k hk) hbl.size⟩

theorem Var.other {ob k : Nat} {T : TypeId} {v : Value} {Pr : Nat → Prop} {W : World} (v' : Value) (h : Var ob T v Pr W) (hk : ob ≠ k) : Var ob T v Pr (W.setCell ⟨k, 0, none⟩ v') :=
  ⟨(setCell_block W k ob v' hk).trans h.1, h.2⟩

set_option maxRecDepth 100000 in
set_option maxHeartbeats 2000000 in
theorem scount_in (m : Nat) (fr ev ct ti y mm d st : Int) (vm vd vw vp : Value) (mo da : List Int) (we : List (Int × Int)) (pk : List Int) (w : World) (hw : Months w)
    (h1 : IntsR w vm mo) (h2 : IntsR w vd da) (h3 : PairsR w vw we) (h4 : IntsR w vp pk) (hd : Cal.dateB y mm d = true) (hst : Cal.num y mm d = st) (hF : ruleF fr ev ct ti mo da we pk = 0) :
    CallsIn Fence.wide (m + 1) Tryd.prog 12 #[.agg #[.int .i64 fr, .int .i64 ev, .int .i64 ct, .int .i64 ti, vm, vd, vw, vp], .int .i64 st] w
      fun e w' => e = .returned (.tuple #[.int .i64 ((min (eachL fr ev ct ti y mm d mo da we pk st).length 201 : Nat) : Int), .nilIface]) ∧ Below w.heap.size w w' := by
  obtain ⟨i0, hi, hz0, hz1, hz2⟩ := info_parts intInfoS
  obtain ⟨am, km, rfl, _, _, _⟩ := intsR_open h1
  obtain ⟨ad, kd, rfl, _, _, _⟩ := intsR_open h2
  obtain ⟨aw, kw, rfl, _, _, _⟩ := pairsR_open h3
  obtain ⟨ap, kp, rfl, _, _, _⟩ := intsR_open h4
  obtain ⟨E, hE⟩ : ∃ E, E = eachL fr ev ct ti y mm d mo da we pk st := ⟨_, rfl⟩
  rw [← hE]
  refine callsIn_of_wp_marks Tryd.func12 rfl trivial ?_ rfl
  simp only [Tryd.ntmps12, List.size_toArray, List.length_cons, List.length_nil, Nat.reduceAdd, Nat.reduceSub, Array.replicate_succ, Array.replicate_zero, List.push_toArray, List.append_toArray, List.nil_append, List.cons_append]
  gi_wp2_with fail
  refine ⟨trivial, ?_⟩
  have hb0 : Below w.heap.size w (w.alloc (.cells #[.int .i64 fr, .int .i64 ev, .int .i64 ct, .int .i64 ti, .slice am mo.length km, .slice ad da.length kd, .slice aw we.length kw, .slice ap pk.length kp] 25)) := (Below.refl _ _).alloc (Nat.le_refl _) _
  have hst1 : 1 ≤ st ∧ st ≤ 109573 := hst ▸ (Cal.num_bd hd).2.2
  refine (callsIn_wide.2 (sready_any fr ev ct ti st _ _ _ _ mo da we pk _ (h1.below hb0) (h2.below hb0) (h3.below hb0) (h4.below hb0))).mono ?_; rintro e w1 ⟨rfl, hb1⟩
  rw [hF, seqF_0 hst1, errV_0]
  have hbw : Below w.heap.size w w1 := hb0.trans (hb1.mono hb0.size)
  have hsz1 : w.heap.size + 1 ≤ w1.heap.size := by have := hb1.size; rw [World.size_alloc] at this; exact this
  obtain ⟨c0, c1, c2, c3, c4, c5, c6, c7⟩ : RlC w1 w.heap.size fr ev ct ti _ _ _ _ := (rlC_new w 25 fr ev ct ti _ _ _ _).same (hb1.block _ (by rw [World.size_alloc]; omega))
  have hbB : Below w1.heap.size w1 (w1.alloc (.cells #[.int .i64 0] 3)) := (Below.refl _ _).alloc (Nat.le_refl _) _
  have HW := hw.below hbw; have I1 := h1.below hbw; have I2 := h2.below hbw; have I3 := h3.below hbw; have I4 := h4.below hbw
  have d0 := cell_below hbB c0; have d1 := cell_below hbB c1; have d2 := cell_below hbB c2; have d3 := cell_below hbB c3; have d4 := cell_below hbB c4; have d5 := cell_below hbB c5; have d6 := cell_below hbB c6; have d7 := cell_below hbB c7
  gi_wp2_with fail
  refine ⟨trivial, ?_⟩
  refine (callsIn_wide.2 (seach_any fr ev ct ti st _ _ _ _ mo da we pk _ (I1.below hbB) (I2.below hbB) (I3.below hbB) (I4.below hbB))).mono ?_; rintro e w3 ⟨rfl, ⟨hr3, hs3⟩, hb3, hz3⟩
  have hz2 : (w1.alloc (.cells #[.int .i64 0] 3)).heap.size = w1.heap.size + 1 := World.size_alloc _ _
  rw [hz2] at hr3 hs3 hz3
  have hb3' : Below w1.heap.size w1 w3 := hbB.trans (hb3.mono hbB.size)
  gi_wp2_with fail
  have bO : Boxed w3 w1.heap.size 3 (.int .i64 0) := (hb3.block _ (by rw [hz2]; omega)).trans (Boxed.new w1 3 (.int .i64 0))
  have EE := Lib.hid hE; have HF := Lib.hid hF; have HD := Lib.hid hd; have HS := Lib.hid hst; have BW := Lib.hid hbw; have B3 := Lib.hid hb3'; have R3 := Lib.hid hr3; have S3 := Lib.hid hs3; have Z3 := Lib.hid hz3
  refine wpIn_rangeP rfl (Nat.succ_le_succ (Nat.zero_le m)) (gf := 107) (lb := #[.pointer (some ⟨w1.heap.size + 1, 0, none⟩), .pointer (some ⟨w1.heap.size + 1 + 1, 0, none⟩)]) rfl trivial (enters_of Tryd.func107 (by kernel_rfl) rfl)
    (each_seq m fr ev ct ti y mm d st _ _ _ _ mo da we pk w1 w3 HW I1 I2 I3 I4 HD.out HS.out HF.out (w1.heap.size + 1) (w1.heap.size + 1 + 1) B3.out R3.out S3.out) B3.out.size (by rintro k (rfl | rfl) <;> omega) rfl
    (fun Pr pre W => (Lay w1 Pr W ∧ Var w1.heap.size 3 (.int .i64 pre.length) Pr W) ∧ pre.length ≤ 200)
    (fun c Pr pre W => c = .exit 0 ∧ pre.length = 201 ∧ (Lay w1 Pr W ∧ Var w1.heap.size 3 (.int .i64 201) Pr W))
    (fun Pr Pr' pre wa wb h hs hp => ⟨⟨h.1.1.step hs hp, h.1.2.step hs hp⟩, h.2⟩) (by rintro c Pr Pr' pre wa wb ⟨h1, h2, h3, h4⟩ hs hp; exact ⟨h1, h2, h3.step hs hp, h4.step hs hp⟩)
    ⟨⟨⟨B3.out, by rintro k (rfl | rfl) <;> omega⟩, bO, by rintro (h | h) <;> omega⟩, Nat.zero_le _⟩ ?a1 ?assign ?body ?done ?stop
  case assign =>
    intro l x W K hK
    gi_wp2
    exact hK
  case body =>
    clear hr3 hs3 hb3 hb3' bO d0 d1 d2 d3 d4 d5 d6 d7 c0 c1 c2 c3 c4 c5 c6 c7 hE hbB hb0 hb1 hbw hw h1 h2 h3 h4 hd hst hF HW I1 I2 I3 I4
    rintro l Pr pre x W ⟨⟨hl, hv⟩, hle⟩ hlt
    have hc := hv.1.cell
    have hf := hv.1.frozen
    obtain ⟨k1, k2, k3⟩ := hv.set (.int .i64 ((pre.length : Int) + 1)) hl (Nat.le_refl _)
    have hc2 := k2.1.cell
    by_cases hq : pre.length = 200
    · have hqi : (200 : Int) < (pre.length : Int) + 1 := by omega
      have e1 : (pre.length : Int) + 1 = 201 := by omega
      rw [e1] at k1 k2 k3
      clear e1
      have K1 := Lib.hid k1; have K2 := Lib.hid k2; have K3 := Lib.hid k3
      clear k1 k2 k3 hv hl hlt
      gi_wp2
      exact ⟨K1.out, rfl, by simp [hq], K3.out, K2.out⟩
    · have hqi : ¬ (200 : Int) < (pre.length : Int) + 1 := by omega
      have K1 := Lib.hid k1; have K2 := Lib.hid k2; have K3 := Lib.hid k3
      clear k1 k2 k3 hv hl hlt
      gi_wp2
      refine ⟨K1.out, ⟨K3.out, ?_⟩, by simp; omega⟩
      have := K2.out
      rw [List.length_append]
      exact this
  case done =>
    rintro D Pr xs W hD rfl ⟨⟨hl, hv⟩, hle⟩ hK
    have hc := hv.1.cell
    have hfin := hl.1.trans (below_put W (.deferred none) (l := D) (by have := B3.out.size; omega))
    have FE := Lib.hid (show min E.length 201 = E.length by rw [EE.out]; omega)
    gi_wp2
    refine ⟨by simp, .inl ⟨_, _, rfl, run_takeDeferred hK, ?_⟩⟩
    exact ⟨_, results_tmp2 rfl _ _ _, by rw [FE.out, EE.out]; rfl, BW.out.trans (hfin.mono BW.out.size)⟩
  case stop =>
    rintro D c Pr pre W hD hpre ⟨rfl, hp, hl, hv⟩ hK
    have hc := hv.1.cell
    have hfin := hl.1.trans (below_put W (.deferred none) (l := D) (by have := B3.out.size; omega))
    have FE := Lib.hid (show min E.length 201 = 201 by rw [EE.out]; have := hpre.length_le; omega)
    gi_wp2
    refine ⟨by simp, .inl ⟨_, _, rfl, run_takeDeferred hK, ?_⟩⟩
    exact ⟨_, results_tmp2 rfl _ _ _, by rw [FE.out]; rfl, BW.out.trans (hfin.mono BW.out.size)⟩

end Go.Proofs.YtdpngbjlljgoaaaDoor
