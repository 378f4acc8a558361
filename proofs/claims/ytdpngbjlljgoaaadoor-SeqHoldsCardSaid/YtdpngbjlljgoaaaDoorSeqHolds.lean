/- The law SeqHolds: the walk where nothing is wrong. (printed by gen_seqholdsb.py) -/
import Derived.Test.YtdpngbjlljgoaaaDoorSeqHoldsA
namespace Go.Proofs.YtdpngbjlljgoaaaDoor
open Go.RowKit Go.Shelf
set_option linter.unusedSimpArgs false
set_option linter.unusedVariables false

/-- what stays true from call to call. -/
structure HoldSt (w W : World) (rb : Nat) (fr ev ct ti : Int) (vm vd vw vp vl : Value) (mo da : List Int) (we : List (Int × Int)) (pk L : List Int) : Prop where
  below : Below w.heap.size w W
  months : Months W
  i1 : IntsR W vm mo
  i2 : IntsR W vd da
  i3 : PairsR W vw we
  i4 : IntsR W vp pk
  list : IntsR W vl L
  rule : RlC W rb fr ev ct ti vm vd vw vp

theorem HoldSt.next {w W W' : World} {rb : Nat} {fr ev ct ti : Int} {vm vd vw vp vl : Value} {mo da : List Int} {we : List (Int × Int)} {pk L : List Int} (h : HoldSt w W rb fr ev ct ti vm vd vw vp vl mo da we pk L) (hb : Below W.heap.size W W') : HoldSt w W' rb fr ev ct ti vm vd vw vp vl mo da we pk L :=
  ⟨h.below.trans (hb.mono h.below.size), h.months.below hb, h.i1.below hb, h.i2.below hb, h.i3.below hb, h.i4.below hb, h.list.below hb, h.rule.same (hb.block _ (World.block_lt_of_cell? W _ h.rule.1))⟩

theorem HoldSt.at {w W : World} {rb : Nat} {fr ev ct ti : Int} {vm vd vw vp : Value} {lb lo vc : Nat} {mo da : List Int} {we : List (Int × Int)} {pk L : List Int} (h : HoldSt w W rb fr ev ct ti vm vd vw vp (.slice (some ⟨lb, lo, none⟩) L.length vc) mo da we pk L) (k : Nat) (hk : k < L.length) : W.cell? ⟨lb, lo + k, none⟩ = some (.int .i64 L[k]) := by
  obtain ⟨a, cap, e, _, _, h4⟩ := intsR_open h.list
  obtain ⟨b, off, e2, hc⟩ := h4 (by omega)
  cases e; cases e2
  exact hc k hk

theorem HoldSt.drew {w W : World} {rb : Nat} {fr ev ct ti : Int} {vm vd vw vp vl : Value} {mo da : List Int} {we : List (Int × Int)} {pk L : List Int} (h : HoldSt w W rb fr ev ct ti vm vd vw vp vl mo da we pk L) : HoldSt w W.drew rb fr ev ct ti vm vd vw vp vl mo da we pk L := h.next ((Below.refl _ _).drew)

theorem shas_hold {fr ev ct ti y mm d st x : Int} {vm vd vw vp vl : Value} {mo da : List Int} {we : List (Int × Int)} {pk L E : List Int} {w W : World} {rb : Nat} (h : HoldSt w W rb fr ev ct ti vm vd vw vp vl mo da we pk L)
    (hd : Cal.dateB y mm d = true) (hst : Cal.num y mm d = st) (hF : ruleF fr ev ct ti mo da we pk = 0) (hE : E = eachL fr ev ct ti y mm d mo da we pk st) (hx : x ∈ E) :
    Calls Tryd.prog 13 #[.agg #[.int .i64 fr, .int .i64 ev, .int .i64 ct, .int .i64 ti, vm, vd, vw, vp], .int .i64 st, .int .i64 x] W
      fun e w' => e = .returned (.tuple #[.bool true, .nilIface]) ∧ Below W.heap.size W w' :=
  (shas_ok fr ev ct ti y mm d st x vm vd vw vp mo da we pk W h.months h.i1 h.i2 h.i3 h.i4 hd hst hF).mono fun e w' ⟨h1, h2⟩ => ⟨by rw [h1, ← hE, show inB E x = true from decide_eq_true hx], h2⟩

theorem snext_hold {fr ev ct ti y mm d st x n1 n2 : Int} {vm vd vw vp vl : Value} {mo da : List Int} {we : List (Int × Int)} {pk L E : List Int} {w W : World} {rb : Nat} (h : HoldSt w W rb fr ev ct ti vm vd vw vp vl mo da we pk L)
    (hd : Cal.dateB y mm d = true) (hst : Cal.num y mm d = st) (hF : ruleF fr ev ct ti mo da we pk = 0) (hE : E = eachL fr ev ct ti y mm d mo da we pk st) (hx : nextP E x = (n1, n2)) :
    Calls Tryd.prog 14 #[.agg #[.int .i64 fr, .int .i64 ev, .int .i64 ct, .int .i64 ti, vm, vd, vw, vp], .int .i64 st, .int .i64 x] W
      fun e w' => e = .returned (.tuple #[.int .i64 n1, errV n2]) ∧ Below W.heap.size W w' :=
  (snext_ok fr ev ct ti y mm d st x vm vd vw vp mo da we pk W h.months h.i1 h.i2 h.i3 h.i4 hd hst hF).mono fun e w' ⟨h1, h2⟩ => ⟨by rw [h1, ← hE, hx], h2⟩

theorem sbetween_hold {fr ev ct ti y mm d st x : Int} {vm vd vw vp vl : Value} {mo da : List Int} {we : List (Int × Int)} {pk L E : List Int} {w W : World} {rb : Nat} (h : HoldSt w W rb fr ev ct ti vm vd vw vp vl mo da we pk L)
    (hd : Cal.dateB y mm d = true) (hst : Cal.num y mm d = st) (hF : ruleF fr ev ct ti mo da we pk = 0) (hE : E = eachL fr ev ct ti y mm d mo da we pk st) (hx : btwL E st x = L) (hL : L.length ≤ 60) :
    Calls Tryd.prog 15 #[.agg #[.int .i64 fr, .int .i64 ev, .int .i64 ct, .int .i64 ti, vm, vd, vw, vp], .int .i64 st, .int .i64 st, .int .i64 x] W
      fun e w' => ∃ v, e = .returned (.tuple #[v, .nilIface]) ∧ IntsR w' v L ∧ Below W.heap.size W w' :=
  (sbetween_ok fr ev ct ti y mm d st st x vm vd vw vp mo da we pk W h.months h.i1 h.i2 h.i3 h.i4 hd hst hF).mono fun e w' ⟨v, h1, ⟨h2, _⟩, h3⟩ => by
    rw [← hE, hx] at h1 h2
    refine ⟨v, ?_, ?_, h3⟩
    · rw [h1, show fullF L = 0 by rw [fullF, if_neg (by omega)], errV_0]
    · rwa [show cutL L = L by rw [cutL, if_neg (by omega)]] at h2

set_option maxRecDepth 100000 in
set_option maxHeartbeats 4000000 in
theorem seqHolds_ok (fr ev ct ti st n y mm d : Int) (vm vd vw vp : Value) (mo da : List Int) (we : List (Int × Int)) (pk : List Int) (w : World) (hw : Months w)
    (h1 : IntsR w vm mo) (h2 : IntsR w vd da) (h3 : PairsR w vw we) (h4 : IntsR w vp pk) (hd : Cal.dateB y mm d = true) (hst : Cal.num y mm d = st) (hF : ruleF fr ev ct ti mo da we pk = 0) (hn : 0 ≤ n ∧ n ≤ 60) :
    Calls Tryd.prog 3 #[.agg #[.int .i64 fr, .int .i64 ev, .int .i64 ct, .int .i64 ti, vm, vd, vw, vp], .int .i64 st, .int .i64 n] w fun e w' => e = .returned (.bool true) ∧ Below w.heap.size w w' := by
  obtain ⟨am, km, rfl, _, _, _⟩ := intsR_open h1
  obtain ⟨ad, kd, rfl, _, _, _⟩ := intsR_open h2
  obtain ⟨aw, kw, rfl, _, _, _⟩ := pairsR_open h3
  obtain ⟨ap, kp, rfl, _, _, _⟩ := intsR_open h4
  have tl := thu_laid (w.alloc (.cells #[.int .i64 fr, .int .i64 ev, .int .i64 ct, .int .i64 ti, .slice am mo.length km, .slice ad da.length kd, .slice aw we.length kw, .slice ap pk.length kp] 25))
  rw [World.size_alloc] at tl
  have hb0 : Below w.heap.size w (((w.alloc (.cells #[.int .i64 fr, .int .i64 ev, .int .i64 ct, .int .i64 ti, .slice am mo.length km, .slice ad da.length kd, .slice aw we.length kw, .slice ap pk.length kp] 25)).alloc (.cells #[.int .i64 11] 3)).alloc (.cells #[.int .i64 4, .int .i64 4] 31)) := (((Below.refl _ _).alloc (Nat.le_refl _) _).alloc (by rw [World.size_alloc]; omega) _).alloc (by rw [World.size_alloc, World.size_alloc]; omega) _
  have xr : RlC (((w.alloc (.cells #[.int .i64 fr, .int .i64 ev, .int .i64 ct, .int .i64 ti, .slice am mo.length km, .slice ad da.length kd, .slice aw we.length kw, .slice ap pk.length kp] 25)).alloc (.cells #[.int .i64 11] 3)).alloc (.cells #[.int .i64 4, .int .i64 4] 31)) w.heap.size fr ev ct ti _ _ _ _ := ((rlC_new w 25 fr ev ct ti _ _ _ _).same (Below.heap_alloc _ _ _ (by rw [World.size_alloc]; omega))).same (Below.heap_alloc _ _ _ (by rw [World.size_alloc, World.size_alloc]; omega))
  go_enter Tryd.func3, Tryd.ntmps3
  go_wp2_with fail
  refine (sfirst_ok 4 1 0 0 2026 11 15 46340 3 _ _ _ _ [11] [] [(4, 4)] [] _ (hw.below hb0) tl.1 (intsR_nil _) tl.2 (intsR_nil _) (by decide) (by decide) thuF (by omega)).mono ?_; rintro e w1 ⟨v, rfl, ⟨hv, hfr⟩, hb1⟩
  have hv : IntsR w1 v [46340, 46351, 46715] := thu_fact ▸ hv
  obtain ⟨va, vc, rfl, _, _, hvc⟩ := intsR_open hv
  obtain ⟨lb, lo, rfl, hcs⟩ := hvc (by decide)
  have f0 := hcs 0 (by decide); have f1 := hcs 1 (by decide); have f2 := hcs 2 (by decide)
  simp only [List.getElem_cons_zero, List.getElem_cons_succ, Nat.add_zero, List.length_cons, List.length_nil, Nat.zero_add, Nat.reduceAdd] at f0 f1 f2 ⊢
  obtain ⟨c0, c1, c2, c3, c4, c5, c6, c7⟩ := xr.same (hb1.block _ (by rw [World.size_alloc, World.size_alloc, World.size_alloc]; omega))
  have hbb := hb0.trans (hb1.mono hb0.size)
  have hw1 := hw.below hbb
  have I1 := h1.below hbb; have I2 := h2.below hbb; have I3 := h3.below hbb; have I4 := h4.below hbb
  clear hb0 hb1 hv hvc hcs hfr tl xr
  go_wp2_with fail
  refine (sfirst_ok fr ev ct ti y mm d st n _ _ _ _ mo da we pk _ hw1 I1 I2 I3 I4 hd hst hF (by omega)).mono ?_; rintro e w2 ⟨v2, rfl, ⟨hv2, hfr2⟩, hb2⟩
  have he := (ruleF_0 hF).2.1
  have hEu := (eachL_up hd hst he (fr := fr) (ct := ct) (ti := ti) (mo := mo) (da := da) (we := we) (pk := pk)).1
  have hE0 : ∀ h : 0 < (eachL fr ev ct ti y mm d mo da we pk st).length, (eachL fr ev ct ti y mm d mo da we pk st)[0] = st := fun h => eachG_head _ _ _ _ _ h
  have hEc : 0 < ct → ((eachL fr ev ct ti y mm d mo da we pk st).length : Int) ≤ ct := fun h => by have := eachG_len ti ct h (st :: restL (perD fr ev y mm d mo da we pk st) st 0) 0 (by omega); unfold eachL; omega
  have hEt : 0 < ti → ∀ x ∈ eachL fr ev ct ti y mm d mo da we pk st, x ≤ ti := fun h => eachG_until ti ct h _ _
  obtain ⟨E, hE⟩ : ∃ E, E = eachL fr ev ct ti y mm d mo da we pk st := ⟨_, rfl⟩
  obtain ⟨L, hL⟩ : ∃ L, L = E.take n.toNat := ⟨_, rfl⟩
  rw [← hE] at hEu hE0 hEc hEt hv2
  rw [← hL] at hv2
  obtain ⟨va2, vc2, rfl, _, _, hvl⟩ := intsR_open hv2
  obtain ⟨hn1, hn2⟩ := hn
  have hLn : (L.length : Int) ≤ n := by rw [hL, List.length_take]; omega
  have hLE : L.length ≤ E.length := by rw [hL, List.length_take]; omega
  have s2 : HoldSt w w2 w.heap.size fr ev ct ti _ _ _ _ (.slice va2 L.length vc2) mo da we pk L := HoldSt.next (w := w) (W := w2) ⟨hbb.trans (hb2.mono hbb.size), hw1.below hb2, I1.below hb2, I2.below hb2, I3.below hb2, I4.below hb2, hv2, RlC.same (W := w1) ⟨c0, c1, c2, c3, c4, c5, c6, c7⟩ (hb2.block _ (World.block_lt_of_cell? w1 _ c0))⟩ (Below.refl _ _)
  have S2 := Lib.hid s2; have EE := Lib.hid hE; have LL := Lib.hid hL; have EU := Lib.hid hEu; have E0 := Lib.hid hE0; have EC := Lib.hid hEc; have ET := Lib.hid hEt
  have HD := Lib.hid hd; have HS := Lib.hid hst; have HF := Lib.hid hF
  clear hbb hb2 c0 c1 c2 c3 c4 c5 c6 c7 f0 f1 f2 I1 I2 I3 I4 h1 h2 h3 h4 hw hw1 hv2 hfr2 hd hst hF s2 hE hL hEu hE0 hEc hEt hvl he
  obtain ⟨c0, c1, c2, c3, c4, c5, c6, c7⟩ := S2.out.rule
  go_wp2_with fail
  refine (scount_ok fr ev ct ti y mm d st _ _ _ _ mo da we pk _ S2.out.months S2.out.i1 S2.out.i2 S2.out.i3 S2.out.i4 HD.out HS.out HF.out).mono ?_; rintro e w3 ⟨rfl, hb3⟩
  rw [← EE.out]
  obtain ⟨M, hM⟩ : ∃ M, M = ((min E.length 201 : Nat) : Int) := ⟨_, rfl⟩
  have hLM : (L.length : Int) ≤ M := by omega
  have hMc : 0 < ct → M ≤ ct := fun h => by have := EC.out h; omega
  rw [← hM]
  have S3 := Lib.hid (S2.out.next hb3)
  clear hM hb3 c0 c1 c2 c3 c4 c5 c6 c7
  obtain ⟨c0, c1, c2, c3, c4, c5, c6, c7⟩ := S3.out.rule
  have t1 : ¬ n < (L.length : Int) := by omega
  have t2 : ¬ M < (L.length : Int) := by omega
  go_upto_region 8 with fail
  go_cut [96] (fun s96 wx => s96 = .bool false ∧ w3 = wx)
  case first => as_aux_lemma =>
    by_cases hct : 0 < ct
    · have t3 := hMc hct
      have t4 : ¬ ct < M := by omega
      clear hMc
      go_wp2
      go_meet
      exact ⟨by first | rfl | (simp; omega), rfl⟩
    · clear hMc
      go_wp2
      go_meet
      exact ⟨by first | rfl | (simp; omega), rfl⟩
  case rest =>
  obtain ⟨rfl, rfl⟩ := hcut
  clear c0 c1 c2 c3 c4 c5 c6 c7 hMc t1 t2 hLM
  go_wp2_with fail
  go_loopg [13] L.length (fun g i wr => ∃ k : Nat, k ≤ L.length ∧ i = .int .i64 k ∧ g = L.length - k ∧ HoldSt w wr w.heap.size fr ev ct ti (.slice am mo.length km) (.slice ad da.length kd) (.slice aw we.length kw) (.slice ap pk.length kp) (.slice va2 L.length vc2) mo da we pk L)
  case atStart => exact ⟨0, Nat.zero_le _, rfl, rfl, S3.out⟩
  case round =>
    obtain ⟨k, hk, rfl, hg, hs⟩ := hrel
    have G := Lib.hid hg; have SR := Lib.hid hs; clear hg hs
    by_cases hlt : k < L.length
    · obtain ⟨a, cap, e1, _, _, h4⟩ := intsR_open SR.out.list
      obtain ⟨lb2, lo2, e2, -⟩ := h4 (by omega)
      cases e1; subst e2
      have i1 : (0 : Int) ≤ (k : Int) := Int.natCast_nonneg _
      have i2 : (k : Int) < (L.length : Int) := by omega
      have g0 := SR.out.at k hlt
      obtain ⟨x, hx⟩ : ∃ x, x = L[k] := ⟨_, rfl⟩
      rw [← hx] at g0
      have X := Lib.hid hx
      obtain ⟨c0, c1, c2, c3, c4, c5, c6, c7⟩ := SR.out.rule
      clear hx h4
      go_upto_region 13 with fail
      go_cut [141] (fun s141 wx => s141 = .bool false ∧ Below wr.heap.size wr wx)
      case first => as_aux_lemma =>
        have tk : 0 < ti → x ≤ ti := fun h => ET.out h x (by rw [X.out]; have : L[k] ∈ E := by { rw [show L[k] = (E.take n.toNat)[k]'(by rw [← LL.out]; exact hlt) by { simp only [LL.out] }]; exact List.mem_of_mem_take (List.getElem_mem _) }; exact this)
        by_cases k0 : 0 < k
        · have g1 := SR.out.at (k - 1) (by omega)
          have hpx : L[k - 1]'(by omega) < x := by
            rw [X.out]
            simp only [LL.out, List.getElem_take]
            exact List.pairwise_iff_getElem.1 EU.out (k - 1) k (by omega) (by omega) (by omega)
          obtain ⟨p, hp⟩ : ∃ p, p = L[k - 1]'(by omega) := ⟨_, rfl⟩
          rw [← hp] at g1 hpx
          clear hp
          have y0 : ((k : Int) == 0) = false := by simp; omega
          have y5 : decide (x ≤ p) = false := decide_eq_false (by omega)
          have y6 : decide (0 < k) = true := decide_eq_true (by omega)
          have s1 : IntKind.i64.wrap ((k : Int) - 1) = (k : Int) - 1 := IntWalk.i64_in _ (by omega)
          have s2 : (0 : Int) ≤ (k : Int) - 1 := by omega
          have s3 : (1 : Int) ≤ (k : Int) := by omega
          have s4 : ((k : Int) - 1).toNat = k - 1 := by omega
          have s5 : (k : Int) - 1 < (L.length : Int) := by omega
          by_cases ht : 0 < ti
          · have y2 : decide (ti < x) = false := decide_eq_false (by have := tk ht; omega)
            have y3 : decide (0 < ti) = true := decide_eq_true ht
            clear tk ht hpx k0
            go_quiet (fail)
            go_wp2
            go_meet
            exact ⟨by first | rfl | simp, below_drewN (Below.refl _ _) _⟩
          · have y3 : decide (0 < ti) = false := decide_eq_false ht
            clear tk ht hpx k0
            go_quiet (fail)
            go_wp2
            go_meet
            exact ⟨by first | rfl | simp, below_drewN (Below.refl _ _) _⟩
        · have g1 := SR.out.at 0 (by omega)
          rw [show L[0]'(by omega) = st by { simp only [LL.out, List.getElem_take]; exact E0.out (by omega) }, Nat.add_zero] at g1
          have y0 : ((k : Int) == 0) = true := by simp; omega
          have y1 : (st != st) = false := by simp
          have y6 : decide (0 < k) = false := decide_eq_false (by omega)
          have i3 : (0 : Int) < (L.length : Int) := by omega
          by_cases ht : 0 < ti
          · have y2 : decide (ti < x) = false := decide_eq_false (by have := tk ht; omega)
            have y3 : decide (0 < ti) = true := decide_eq_true ht
            clear tk ht k0
            go_quiet (fail)
            go_wp2
            go_meet
            exact ⟨by first | rfl | simp, below_drewN (Below.refl _ _) _⟩
          · have y3 : decide (0 < ti) = false := decide_eq_false ht
            clear tk ht k0
            go_quiet (fail)
            go_wp2
            go_meet
            exact ⟨by first | rfl | simp, below_drewN (Below.refl _ _) _⟩
      case rest =>
      obtain ⟨rfl, hb13⟩ := hcut
      obtain ⟨wa, rfl⟩ : ∃ wa, wa = wc := ⟨_, rfl⟩
      have SA := Lib.hid (SR.out.next hb13)
      clear c0 c1 c2 c3 c4 c5 c6 c7 g0 hb13
      obtain ⟨c0, c1, c2, c3, c4, c5, c6, c7⟩ := SA.out.rule
      have g0 := SA.out.at k hlt
      rw [← X.out] at g0
      have XM := Lib.hid (show x ∈ E by rw [X.out, show L[k] = (E.take n.toNat)[k]'(by rw [← LL.out]; exact hlt) by { simp only [LL.out] }]; exact List.mem_of_mem_take (List.getElem_mem _))
      go_wp2_with fail
      go_region_held3 (fun w' => w'.cell? ⟨w.heap.size, 0, none⟩ = some (.int .i64 fr) ∧ w'.cell? ⟨w.heap.size, 1, none⟩ = some (.int .i64 ev) ∧ w'.cell? ⟨w.heap.size, 2, none⟩ = some (.int .i64 ct) ∧ w'.cell? ⟨w.heap.size, 3, none⟩ = some (.int .i64 ti) ∧ w'.cell? ⟨w.heap.size, 4, none⟩ = some (.slice am mo.length km) ∧ w'.cell? ⟨w.heap.size, 5, none⟩ = some (.slice ad da.length kd) ∧ w'.cell? ⟨w.heap.size, 6, none⟩ = some (.slice aw we.length kw) ∧ w'.cell? ⟨w.heap.size, 7, none⟩ = some (.slice ap pk.length kp) ∧ w'.cell? ⟨lb2, lo2 + k, none⟩ = some (.int .i64 x) ∧ HoldSt w w' w.heap.size fr ev ct ti (.slice am mo.length km) (.slice ad da.length kd) (.slice aw we.length kw) (.slice ap pk.length kp) (.slice (some ⟨lb2, lo2, none⟩) L.length vc2) mo da we pk L)
        (first | (refine ⟨?_, ?_, ?_, ?_, ?_, ?_, ?_, ?_, ?_, ?_⟩ <;> (first | assumption | exact SA.out | exact HoldSt.drew SA.out)) | (go_split_ands; refine ⟨?_, ?_, ?_, ?_, ?_, ?_, ?_, ?_, ?_, ?_⟩ <;> (first | assumption | exact cell_below hb4 (by assumption) | exact HoldSt.next (by assumption) hb4)))
        ((go_at_call 13; refine (shas_hold (by go_split_ands; assumption) HD.out HS.out HF.out EE.out XM.out).mono ?_; rintro e w4 ⟨rfl, hb4⟩))
      have SB := Lib.hid ((HoldSt.drew SA.out).next hb4)
      clear c0 c1 c2 c3 c4 c5 c6 c7 g0 hb4
      obtain ⟨c0, c1, c2, c3, c4, c5, c6, c7⟩ := SB.out.rule
      have g0 := SB.out.at k hlt
      rw [← X.out] at g0
      by_cases hl : k + 1 < L.length
      · obtain ⟨q, hq⟩ : ∃ q, q = L[k + 1] := ⟨_, rfl⟩
        have NX := Lib.hid (show nextP E x = (q, 0) by
          have := next_at EU.out k (by omega)
          rw [X.out, hq]
          simp only [LL.out, List.getElem_take]
          exact this)
        have Q := Lib.hid hq; clear hq
        go_wp2_with fail
        go_region_held3 (fun w' => w'.cell? ⟨w.heap.size, 0, none⟩ = some (.int .i64 fr) ∧ w'.cell? ⟨w.heap.size, 1, none⟩ = some (.int .i64 ev) ∧ w'.cell? ⟨w.heap.size, 2, none⟩ = some (.int .i64 ct) ∧ w'.cell? ⟨w.heap.size, 3, none⟩ = some (.int .i64 ti) ∧ w'.cell? ⟨w.heap.size, 4, none⟩ = some (.slice am mo.length km) ∧ w'.cell? ⟨w.heap.size, 5, none⟩ = some (.slice ad da.length kd) ∧ w'.cell? ⟨w.heap.size, 6, none⟩ = some (.slice aw we.length kw) ∧ w'.cell? ⟨w.heap.size, 7, none⟩ = some (.slice ap pk.length kp) ∧ w'.cell? ⟨lb2, lo2 + k, none⟩ = some (.int .i64 x) ∧ HoldSt w w' w.heap.size fr ev ct ti (.slice am mo.length km) (.slice ad da.length kd) (.slice aw we.length kw) (.slice ap pk.length kp) (.slice (some ⟨lb2, lo2, none⟩) L.length vc2) mo da we pk L)
          (first | (refine ⟨?_, ?_, ?_, ?_, ?_, ?_, ?_, ?_, ?_, ?_⟩ <;> (first | assumption | exact SB.out | exact HoldSt.drew SB.out)) | (go_split_ands; refine ⟨?_, ?_, ?_, ?_, ?_, ?_, ?_, ?_, ?_, ?_⟩ <;> (first | assumption | exact cell_below hb5 (by assumption) | exact HoldSt.next (by assumption) hb5)))
          ((go_at_call 14; refine (snext_hold (by go_split_ands; assumption) HD.out HS.out HF.out EE.out NX.out).mono ?_; rintro e w5 ⟨rfl, hb5⟩))
        rw [errV_0]
        have SD := Lib.hid ((HoldSt.drew SB.out).next hb5)
        have g1 := SD.out.at (k + 1) hl
        rw [← Q.out] at g1
        have i3 : (k : Int) + 1 < (L.length : Int) := by omega
        clear c0 c1 c2 c3 c4 c5 c6 c7 g0 hb5
        go_wp2
        go_roundg (L.length - (k + 1))
        case measure => rw [G.out]; omega
        case rel => exact ⟨k + 1, by omega, by go_num, rfl, SD.out⟩
      · obtain ⟨⟨n1, n2⟩, hN⟩ : ∃ N, nextP E x = N := ⟨_, rfl⟩
        have NX := Lib.hid hN; clear hN
        go_wp2_with fail
        go_region_held3 (fun w' => w'.cell? ⟨w.heap.size, 0, none⟩ = some (.int .i64 fr) ∧ w'.cell? ⟨w.heap.size, 1, none⟩ = some (.int .i64 ev) ∧ w'.cell? ⟨w.heap.size, 2, none⟩ = some (.int .i64 ct) ∧ w'.cell? ⟨w.heap.size, 3, none⟩ = some (.int .i64 ti) ∧ w'.cell? ⟨w.heap.size, 4, none⟩ = some (.slice am mo.length km) ∧ w'.cell? ⟨w.heap.size, 5, none⟩ = some (.slice ad da.length kd) ∧ w'.cell? ⟨w.heap.size, 6, none⟩ = some (.slice aw we.length kw) ∧ w'.cell? ⟨w.heap.size, 7, none⟩ = some (.slice ap pk.length kp) ∧ w'.cell? ⟨lb2, lo2 + k, none⟩ = some (.int .i64 x) ∧ HoldSt w w' w.heap.size fr ev ct ti (.slice am mo.length km) (.slice ad da.length kd) (.slice aw we.length kw) (.slice ap pk.length kp) (.slice (some ⟨lb2, lo2, none⟩) L.length vc2) mo da we pk L)
          (first | (refine ⟨?_, ?_, ?_, ?_, ?_, ?_, ?_, ?_, ?_, ?_⟩ <;> (first | assumption | exact SB.out | exact HoldSt.drew SB.out)) | (go_split_ands; refine ⟨?_, ?_, ?_, ?_, ?_, ?_, ?_, ?_, ?_, ?_⟩ <;> (first | assumption | exact cell_below hb5 (by assumption) | exact HoldSt.next (by assumption) hb5)))
          ((go_at_call 14; refine (snext_hold (by go_split_ands; assumption) HD.out HS.out HF.out EE.out NX.out).mono ?_; rintro e w5 ⟨rfl, hb5⟩))
        have SD := Lib.hid ((HoldSt.drew SB.out).next hb5)
        have i3 : ¬ (k : Int) + 1 < (L.length : Int) := by omega
        clear c0 c1 c2 c3 c4 c5 c6 c7 g0 hb5
        go_wp2
        go_roundg (L.length - (k + 1))
        case measure => rw [G.out]; omega
        case rel => exact ⟨k + 1, by omega, by go_num, rfl, SD.out⟩
    · obtain rfl : k = L.length := by omega
      clear hlt hk
      by_cases h0 : L.length = 0
      · have B := Lib.hid SR.out.below
        have z0 : ((L.length : Int) == 0) = true := by rw [h0]; rfl
        go_wp2
        go_ret
        exact ⟨rfl, B.out⟩
      · obtain ⟨a, cap, e1, _, _, h4⟩ := intsR_open SR.out.list
        obtain ⟨lb2, lo2, e2, -⟩ := h4 (by omega)
        cases e1; subst e2
        obtain ⟨c0, c1, c2, c3, c4, c5, c6, c7⟩ := SR.out.rule
        have g0 := SR.out.at (L.length - 1) (by omega)
        obtain ⟨x, hx⟩ : ∃ x, x = L[L.length - 1]'(by omega) := ⟨_, rfl⟩
        have BT := Lib.hid (show btwL E st x = L by
          have hk : L.length - 1 < E.length := by omega
          have := btw_take EU.out (L.length - 1) hk
          have h1 := E0.out (by omega)
          rw [h1] at this
          rw [hx, show L[L.length - 1]'(by omega) = E[L.length - 1] by simp only [LL.out, List.getElem_take], this, show L.length - 1 + 1 = L.length by omega]
          conv => rhs; rw [LL.out]
          rw [LL.out, List.length_take]
          rcases Nat.le_total n.toNat E.length with h | h
          · rw [Nat.min_eq_left h]
          · rw [Nat.min_eq_right h, List.take_of_length_le h, List.take_length])
        rw [← hx] at g0
        clear hx h4
        have z0 : ((L.length : Int) == 0) = false := by rw [beq_eq_false_iff_ne]; omega
        have z1 : (1 : Int) ≤ (L.length : Int) := by omega
        have s1 : IntKind.i64.wrap ((L.length : Int) - 1) = (L.length : Int) - 1 := IntWalk.i64_in _ (by omega)
        have s2 : (0 : Int) ≤ (L.length : Int) - 1 := by omega
        have s4 : ((L.length : Int) - 1).toNat = L.length - 1 := by omega
        have s5 : (L.length : Int) - 1 < (L.length : Int) := by omega
        go_wp2_with fail
        go_region_held3 (fun w' => w'.cell? ⟨w.heap.size, 0, none⟩ = some (.int .i64 fr) ∧ w'.cell? ⟨w.heap.size, 1, none⟩ = some (.int .i64 ev) ∧ w'.cell? ⟨w.heap.size, 2, none⟩ = some (.int .i64 ct) ∧ w'.cell? ⟨w.heap.size, 3, none⟩ = some (.int .i64 ti) ∧ w'.cell? ⟨w.heap.size, 4, none⟩ = some (.slice am mo.length km) ∧ w'.cell? ⟨w.heap.size, 5, none⟩ = some (.slice ad da.length kd) ∧ w'.cell? ⟨w.heap.size, 6, none⟩ = some (.slice aw we.length kw) ∧ w'.cell? ⟨w.heap.size, 7, none⟩ = some (.slice ap pk.length kp) ∧ w'.cell? ⟨lb2, lo2 + (L.length - 1), none⟩ = some (.int .i64 x) ∧ HoldSt w w' w.heap.size fr ev ct ti (.slice am mo.length km) (.slice ad da.length kd) (.slice aw we.length kw) (.slice ap pk.length kp) (.slice (some ⟨lb2, lo2, none⟩) L.length vc2) mo da we pk L)
          (first | (refine ⟨?_, ?_, ?_, ?_, ?_, ?_, ?_, ?_, ?_, ?_⟩ <;> (first | assumption | exact SR.out | exact HoldSt.drew SR.out)) | (go_split_ands; refine ⟨?_, ?_, ?_, ?_, ?_, ?_, ?_, ?_, ?_, ?_⟩ <;> (first | assumption | exact cell_below hb6 (by assumption) | exact HoldSt.next (by assumption) hb6)))
          ((go_at_call 15; refine (sbetween_hold (by go_split_ands; assumption) HD.out HS.out HF.out EE.out BT.out (by omega)).mono ?_; rintro e w6 ⟨v6, rfl, hv6, hb6⟩))
        have SF := Lib.hid ((HoldSt.drew SR.out).next hb6)
        clear c0 c1 c2 c3 c4 c5 c6 c7 g0 hb6 s1 s2 s4 s5
        obtain ⟨va6, vc6, rfl, _, _, _⟩ := intsR_open hv6
        go_wp2_with fail
        refine (ints_any _ _ L L _ hv6 SF.out.list).mono ?_; rintro e w7 ⟨rfl, hb7⟩
        have B := Lib.hid (SF.out.next hb7).below
        rw [show intsB L L = true by simp [intsB]]
        clear hb7 hv6
        go_wp2
        go_ret
        exact ⟨rfl, B.out⟩

end Go.Proofs.YtdpngbjlljgoaaaDoor
