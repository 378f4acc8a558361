/- The law SeqTells where nothing is wrong: the walk. (printed by gen_seqtells.py) -/
import Derived.Test.YtdpngbjlljgoaaaDoorSeqTellsA
namespace Go.Proofs.YtdpngbjlljgoaaaDoor
open Go.RowKit Go.Shelf
set_option linter.unusedSimpArgs false
set_option linter.unusedVariables false

set_option maxRecDepth 100000 in
set_option maxHeartbeats 16000000 in
theorem seqTells_ok (fr ev ct ti st n af up y mm d : Int) (vm vd vw vp : Value) (mo da : List Int) (we : List (Int × Int)) (pk : List Int) (w : World) (hw : Months w) (hx : ErrT w)
    (h1 : IntsR w vm mo) (h2 : IntsR w vd da) (h3 : PairsR w vw we) (h4 : IntsR w vp pk) (hd : Cal.dateB y mm d = true) (hst : Cal.num y mm d = st) (hF : ruleF fr ev ct ti mo da we pk = 0) :
    Calls Tryd.prog 4 #[.agg #[.int .i64 fr, .int .i64 ev, .int .i64 ct, .int .i64 ti, vm, vd, vw, vp], .int .i64 st, .int .i64 n, .int .i64 af, .int .i64 up] w fun e w' => e = .returned (.bool true) ∧ Below w.heap.size w w' := by
  obtain ⟨am, km, rfl, -, -, -⟩ := intsR_open h1
  obtain ⟨ad, kd, rfl, -, -, -⟩ := intsR_open h2
  obtain ⟨aw, kw, rfl, -, -, -⟩ := pairsR_open h3
  obtain ⟨ap, kp, rfl, -, -, -⟩ := intsR_open h4
  obtain ⟨w0, hw0⟩ : ∃ x, x = w.alloc (.cells #[.int .i64 fr, .int .i64 ev, .int .i64 ct, .int .i64 ti, .slice am mo.length km, .slice ad da.length kd, .slice aw we.length kw, .slice ap pk.length kp] 25) := ⟨_, rfl⟩
  have hb0 : Below w.heap.size w w0 := by rw [hw0]; exact (Below.refl _ _).alloc (Nat.le_refl _) _
  have xr : RlC w0 w.heap.size fr ev ct ti _ _ _ _ := hw0 ▸ rlC_new w 25 fr ev ct ti (.slice am mo.length km) (.slice ad da.length kd) (.slice aw we.length kw) (.slice ap pk.length kp)
  have S := Lib.hid (⟨hb0, hw.below hb0, hx.below hb0, h1.below hb0, h2.below hb0, h3.below hb0, h4.below hb0, xr⟩ : TellSt w w0 w.heap.size fr ev ct ti _ _ _ _ mo da we pk)
  have W0 := Lib.hid hw0
  clear hb0 xr hw0 hw hx h1 h2 h3 h4
  obtain ⟨i0, hi, hz0, hz1, hz2⟩ := info_parts intInfoP
  have hst1 : 1 ≤ st ∧ st ≤ 109573 := hst ▸ (Cal.num_bd hd).2.2
  have hr := ruleF_0 hF
  have hUp := eachL_up hd hst hr.2.1 (fr := fr) (ct := ct) (ti := ti) (mo := mo) (da := da) (we := we) (pk := pk)
  have hEl := eachL_len hd hst hr.2.1 (fr := fr) (ct := ct) (ti := ti) (mo := mo) (da := da) (we := we) (pk := pk)
  have hEs : ∀ x ∈ eachL fr ev ct ti y mm d mo da we pk st, st ≤ x := by
    intro x hx
    have hx2 := (eachG_sub ti ct 0 _).subset hx
    have hau := List.pairwise_cons.1 (all_up hd hst hr.2.1 (fr := fr) (mo := mo) (da := da) (we := we) (pk := pk)).1
    rcases List.mem_cons.1 hx2 with rfl | h
    · exact Int.le_refl _
    · exact Int.le_of_lt (hau.1 x h)
  obtain ⟨E, hE⟩ : ∃ E, E = eachL fr ev ct ti y mm d mo da we pk st := ⟨_, rfl⟩
  rw [← hE] at hUp hEl hEs
  obtain ⟨fN, L1, hfN⟩ : ∃ (fN : Int) (L1 : List Int), ((0 ≤ n ∧ n ≤ 200) ∧ fN = 0 ∧ L1 = E.take n.toNat) ∨ ((n < 0 ∨ 200 < n) ∧ fN = 1 ∧ L1 = []) := by
    by_cases h : 0 ≤ n ∧ n ≤ 200
    · exact ⟨0, _, .inl ⟨h, rfl, rfl⟩⟩
    · exact ⟨1, _, .inr ⟨by omega, rfl, rfl⟩⟩
  obtain ⟨M, hM⟩ : ∃ M, M = ((min E.length 201 : Nat) : Int) := ⟨_, rfl⟩
  obtain ⟨X, hX⟩ : ∃ X, X = (upto 109573 E).take (201 : Int).toNat := ⟨_, rfl⟩
  have XM := Lib.hid (show (X.length : Int) = M by rw [hX, hM, upto_all (fun x hx => (hUp.2 x hx).2), List.length_take]; simp [Nat.min_comm])
  obtain ⟨H1, hH1⟩ : ∃ H1, H1 = min up 109573 := ⟨_, rfl⟩
  obtain ⟨A, hA⟩ : ∃ A, A = (upto H1 E).take (200000 : Int).toNat := ⟨_, rfl⟩
  have hAl : A.length ≤ 109573 := by rw [hA]; exact Nat.le_trans (List.length_take_le' _ _) (Nat.le_trans (List.length_filter_le ..) hEl)
  have hAb : (A.filter fun x => decide (af ≤ x)) = btwL E af up := by
    rw [hA, show (upto H1 E).take (200000 : Int).toNat = upto H1 E from List.take_of_length_le (Nat.le_trans (List.length_filter_le ..) (Nat.le_trans hEl (by decide))), ← filt_btw]
    congr 1
    have e1 : upto H1 E = upto up E := by
      unfold upto
      refine List.filter_congr fun x hx => ?_
      have := (hUp.2 x hx).2
      rw [hH1, Bool.eq_iff_iff]; simp; omega
    rw [e1]
  obtain ⟨Bt, hBt⟩ : ∃ Bt, Bt = btwL E af up := ⟨_, rfl⟩
  obtain ⟨fB, hfB⟩ : ∃ fB, fB = fullF Bt := ⟨_, rfl⟩
  obtain ⟨CB, hCB⟩ : ∃ CB, CB = cutL Bt := ⟨_, rfl⟩
  obtain ⟨⟨n1, n2⟩, hN⟩ : ∃ N, nextP E af = N := ⟨_, rfl⟩
  obtain ⟨lo, hlo⟩ : ∃ lo, lo = if af < st then st - 1 else af := ⟨_, rfl⟩
  obtain ⟨bI, hbI⟩ : ∃ bI, inB E af = bI := ⟨_, rfl⟩
  have TB := Lib.hid (show fB = fullF (btwL E af up) ∧ CB = cutL (btwL E af up) by rw [hfB, hCB, hBt]; exact ⟨rfl, rfl⟩)
  rw [← hBt] at hAb
  have HD := Lib.hid hd; have HS := Lib.hid hst; have HF := Lib.hid hF; have EE := Lib.hid hE; have UP := Lib.hid hUp; have EL := Lib.hid hEl; have ES := Lib.hid hEs; have FN := Lib.hid hfN; have MM := Lib.hid hM; have HX := Lib.hid hX; have HH1 := Lib.hid hH1; have HA := Lib.hid hA; have AB := Lib.hid hAb; have BT := Lib.hid hBt; have FB := Lib.hid hfB; have HCB := Lib.hid hCB; have HN := Lib.hid hN; have LO := Lib.hid hlo; have BI := Lib.hid hbI
  clear hd hst hF hr hE hUp hEl hEs hfN hM hX hH1 hA hAb hBt hfB hCB hN hlo hbI
  obtain ⟨c0, c1, c2, c3, c4, c5, c6, c7⟩ := S.out.rule
  go_enter Tryd.func4, Tryd.ntmps4
  go_upto_region 1 with fail
  rw [← W0.out]
  go_wp2_with fail
  refine (rrule_any fr ev ct ti _ _ _ _ mo da we pk _ S.out.i1 S.out.i2 S.out.i3 S.out.i4).mono ?_; rintro e w1 ⟨rfl, hb1⟩
  rw [HF.out]
  have S := Lib.hid (S.out.next hb1)
  clear hb1 c0 c1 c2 c3 c4 c5 c6 c7
  obtain ⟨c0, c1, c2, c3, c4, c5, c6, c7⟩ := S.out.rule
  go_wp2_with fail
  refine (rdate_at st y mm d _ HD.out HS.out).mono ?_; rintro e w2 ⟨rfl, hb2⟩
  have hb2 : Below w1.heap.size w1 (w2.alloc (.cells #[.int .i64 y, .int .i64 mm, .int .i64 d] 42)) := hb2.alloc hb2.size _
  have S := Lib.hid (S.out.next hb2)
  clear hb2 c0 c1 c2 c3 c4 c5 c6 c7
  obtain ⟨c0, c1, c2, c3, c4, c5, c6, c7⟩ := S.out.rule
  obtain ⟨wa, hwa⟩ : ∃ x, x = w2.alloc (.cells #[.int .i64 y, .int .i64 mm, .int .i64 d] 42) := ⟨_, rfl⟩
  go_upto_region 6 with fail
  rw [← hwa] at c0 c1 c2 c3 c4 c5 c6 c7 S ⊢
  clear hwa
  go_cut [63] (fun s63 wx => ∃ t : Bool, s63 = .bool t ∧ (t = true → fN = 1) ∧ (t = false → fN = 0) ∧ wa = wx)
  case first => as_aux_lemma =>
    rcases FN.out with ⟨⟨hr1, hr2⟩, hf, _⟩ | ⟨hr, hf, _⟩
    · have z1 : decide (n < 0) = false := decide_eq_false (by omega)
      have z2 : decide (200 < n) = false := decide_eq_false (by omega)
      have E := Lib.hid hf
      clear hr1 hr2 hf
      go_wp2
      go_meet
      exact ⟨false, rfl, (fun h => by cases h), (fun _ => E.out), rfl⟩
    · have E := Lib.hid hf
      clear hf
      rcases hr with hr | hr
      · have z1 : decide (n < 0) = true := decide_eq_true hr
        clear hr
        go_wp2
        go_meet
        exact ⟨true, rfl, (fun _ => E.out), (fun h => by cases h), rfl⟩
      · have z1 : decide (n < 0) = false := decide_eq_false (by omega)
        have z2 : decide (200 < n) = true := decide_eq_true hr
        clear hr
        go_wp2
        go_meet
        exact ⟨true, rfl, (fun _ => E.out), (fun h => by cases h), rfl⟩
  case rest =>
  obtain ⟨t, rfl, ht1, ht2, rfl⟩ := hcut
  have T1 := Lib.hid ht1; have T2 := Lib.hid ht2
  clear ht1 ht2
  go_upto_if 63 with fail
  go_cut [14] (fun s14 wx => s14 = .int .i64 fN ∧ wa = wx)
  case first => as_aux_lemma =>
    cases t
    · have E := Lib.hid (T2.out rfl)
      clear T1 T2
      go_wp2
      go_meet
      exact ⟨by rw [E.out], rfl⟩
    · have E := Lib.hid (T1.out rfl)
      clear T1 T2
      go_wp2
      go_meet
      exact ⟨by rw [E.out], rfl⟩
  case rest =>
  obtain ⟨rfl, rfl⟩ := hcut
  clear T1 T2
  go_upto_if 65 with fail
  go_cut [15] (fun s15 wx => IntsR wx s15 L1 ∧ Below wa.heap.size wa wx)
  case first => as_aux_lemma =>
    rcases FN.out with ⟨⟨hr1, hr2⟩, hf, hl⟩ | ⟨_, hf, hl⟩
    · have z : (fN == 0) = true := by rw [beq_iff_eq]; exact hf
      have QL := Lib.hid (show L1 = (upto 109573 E).take n.toNat by rw [hl, upto_all (fun x hx => (UP.out.2 x hx).2)])
      clear hf hl
      go_wp2_with fail
      refine (tseq S.out HD.out HS.out HF.out EE.out (by omega) QL.out).mono ?_; rintro e w3 ⟨v3, rfl, hv3, hb3⟩
      have R3 := Lib.hid hv3; have B3 := Lib.hid hb3
      clear hv3 hb3 c0 c1 c2 c3 c4 c5 c6 c7
      go_wp2
      go_meet
      exact ⟨R3.out, B3.out⟩
    · have z : (fN == 0) = false := by rw [beq_eq_false_iff_ne]; omega
      have QL := Lib.hid hl
      clear hf hl
      go_wp2
      go_meet
      exact ⟨by rw [QL.out]; exact intsR_nil _, Below.refl _ _⟩
  case rest =>
  obtain ⟨hv, hcb⟩ := hcut
  obtain ⟨wb, rfl⟩ : ∃ wb, wb = wc := ⟨_, rfl⟩
  have V1 := Lib.hid hv
  clear hv
  have S := Lib.hid (S.out.next hcb)
  clear hcb c0 c1 c2 c3 c4 c5 c6 c7
  obtain ⟨c0, c1, c2, c3, c4, c5, c6, c7⟩ := S.out.rule
  go_wp2_with fail
  refine (tfirst S.out HD.out HS.out HF.out EE.out FN.out).mono ?_; rintro e w4 ⟨v4, rfl, hv4, hb4⟩
  have V2 := Lib.hid hv4; clear hv4
  have S := Lib.hid (S.out.next hb4)
  have V1 := Lib.hid (V1.out.below hb4)
  clear hb4 c0 c1 c2 c3 c4 c5 c6 c7
  obtain ⟨c0, c1, c2, c3, c4, c5, c6, c7⟩ := S.out.rule
  go_wp2_with fail
  refine (error_same fN _ S.out.err).mono ?_; rintro e w5 ⟨rfl, hb5⟩
  have S := Lib.hid (S.out.next hb5)
  have V1 := Lib.hid (V1.out.below hb5)
  have V2 := Lib.hid (V2.out.below hb5)
  clear hb5 c0 c1 c2 c3 c4 c5 c6 c7
  obtain ⟨c0, c1, c2, c3, c4, c5, c6, c7⟩ := S.out.rule
  go_wp2_with fail
  refine (ints_any _ _ L1 L1 _ V2.out V1.out).mono ?_; rintro e w6 ⟨rfl, hb6⟩
  rw [tintsB_refl]
  have S := Lib.hid (S.out.next hb6)
  have V1 := Lib.hid (V1.out.below hb6)
  have V2 := Lib.hid (V2.out.below hb6)
  clear hb6 c0 c1 c2 c3 c4 c5 c6 c7
  obtain ⟨c0, c1, c2, c3, c4, c5, c6, c7⟩ := S.out.rule
  clear V1 V2
  go_wp2_with fail
  refine (tseq S.out HD.out HS.out HF.out EE.out (by omega) HX.out).mono ?_; rintro e w7 ⟨v7, rfl, hv7, hb7⟩
  obtain ⟨va7, vc7, rfl, -, -, -⟩ := intsR_open hv7
  clear hv7
  have S := Lib.hid (S.out.next hb7)
  clear hb7 c0 c1 c2 c3 c4 c5 c6 c7
  obtain ⟨c0, c1, c2, c3, c4, c5, c6, c7⟩ := S.out.rule
  go_wp2_with fail
  refine (tcount S.out HD.out HS.out HF.out EE.out MM.out).mono ?_; rintro e w8 ⟨rfl, hb8⟩
  rw [XM.out]
  have S := Lib.hid (S.out.next hb8)
  clear hb8 c0 c1 c2 c3 c4 c5 c6 c7
  obtain ⟨c0, c1, c2, c3, c4, c5, c6, c7⟩ := S.out.rule
  go_wp2_with fail
  refine (error_nil 0 _ true rfl).mono ?_; rintro e w9 ⟨rfl, hb9⟩
  have S := Lib.hid (S.out.next hb9)
  clear hb9 c0 c1 c2 c3 c4 c5 c6 c7
  obtain ⟨c0, c1, c2, c3, c4, c5, c6, c7⟩ := S.out.rule
  obtain ⟨wd, rfl⟩ : ∃ wd, wd = w9 := ⟨_, rfl⟩
  go_upto_if 104 with fail
  go_cut [26] (fun s26 wx => s26 = .int .i64 H1 ∧ wd = wx)
  case first => as_aux_lemma =>
    by_cases hu : 109573 < up
    · have E := Lib.hid (show H1 = 109573 by rw [HH1.out]; omega)
      have z : decide (109573 < up) = true := decide_eq_true hu
      go_wp2
      go_meet
      exact ⟨by rw [E.out], rfl⟩
    · have E := Lib.hid (show H1 = up by rw [HH1.out]; omega)
      have z : decide (109573 < up) = false := decide_eq_false hu
      go_wp2
      go_meet
      exact ⟨by rw [E.out], rfl⟩
  case rest =>
  obtain ⟨rfl, rfl⟩ := hcut
  go_wp2_with fail
  refine (tseq S.out HD.out HS.out HF.out EE.out (by omega) HA.out).mono ?_; rintro e w10 ⟨v10, rfl, hv10, hb10⟩
  obtain ⟨va, vc, rfl, -, -, -⟩ := intsR_open hv10
  have VA := Lib.hid hv10
  clear hv10
  have S := Lib.hid (S.out.next hb10)
  clear hb10 c0 c1 c2 c3 c4 c5 c6 c7
  obtain ⟨c0, c1, c2, c3, c4, c5, c6, c7⟩ := S.out.rule
  obtain ⟨wo, rfl⟩ : ∃ wo, wo = w10 := ⟨_, rfl⟩
  go_wp2_with fail
  clear c0 c1 c2 c3 c4 c5 c6 c7
  go_loopg [23, 28] A.length (fun g ov iv wx => ∃ k : Nat, k ≤ A.length ∧ iv = .int .i64 k ∧ g = A.length - k ∧ wx.ownsRow wo.heap.size 3 1 ov ((A.take k).filter fun x => decide (af ≤ x)).length (((A.take k).filter fun x => decide (af ≤ x)).map (Value.int .i64)) ∧ Below wo.heap.size wo wx)
  case atStart => exact ⟨0, Nat.zero_le _, rfl, rfl, World.ownsRow_nil _ _ _ _, Below.refl _ _⟩
  case round =>
    obtain ⟨k, hk, rfl, hg, hown, hb⟩ := hrel
    have G := Lib.hid hg; have BL := Lib.hid hb
    have hbs := hb.size
    by_cases hlt : k < A.length
    · obtain ⟨a2, cap2, e1, _, _, h4⟩ := intsR_open VA.out
      obtain ⟨lb, lo2, e2, hcs⟩ := h4 (by omega)
      cases e1; subst e2
      have u0 := cell_below hb (hcs k hlt)
      obtain ⟨x, hx⟩ : ∃ x, x = A[k] := ⟨_, rfl⟩
      rw [← hx] at u0
      have X := Lib.hid hx
      obtain ⟨O, hO⟩ : ∃ O, O = ((A.take k).filter fun x => decide (af ≤ x)) := ⟨_, rfl⟩
      have hOl : O.length ≤ 109573 := by rw [hO]; exact Nat.le_trans (List.length_filter_le ..) (by rw [List.length_take]; omega)
      rw [← hO] at hown
      have OE := Lib.hid hO; have OW := Lib.hid hown
      have ST := filt_succ (af := af) hlt
      rw [← hO, ← hx] at ST
      have i1 : (0 : Int) ≤ (k : Int) := Int.natCast_nonneg _
      have i2 : (k : Int) < (A.length : Int) := by omega
      clear hcs h4 hx hO hg hb
      by_cases hin : af ≤ x
      · have z : decide (af ≤ x) = true := decide_eq_true hin
        rw [if_pos hin] at ST
        have E := Lib.hid ST; clear ST
        go_wp2_with (at_builtin; refine wpList_append_lies _ rfl _ _ 22 rfl wo.heap.size 3 i0 _ 1 8 Tryd.underlying22 hi hz0 hz1 hz2 rfl (by decide) _ _ _ rfl (hown.alloc _) ⟨wr.heap.size, 0, none⟩ 1 1 [.int .i64 x] rfl rfl ?d1 ?d2 (by decide) (by unfold maxLen; omega) (by omega) (by simp; omega) _ rfl ?_)
        try (case d1 => exact cell_one_new _ _ _)
        case d2 => first | rfl | (intro u hu; simp at hu; subst hu; rfl)
        intro g3 cap3 w5 hown3 hgrow3 hat3 hlt3
        have hB3 := Lib.hid ((BL.out.alloc hbs (.cells #[.int .i64 x] 3)).grown hgrow3 (by simp; omega) (fun c hc => (hown.lt c hc).1))
        have O3 := Lib.hid hown3
        clear hown3 hgrow3 hat3 hlt3 hown
        go_wp2
        go_roundg (A.length - (k + 1))
        case measure => rw [G.out]; omega
        case rel => exact ⟨k + 1, by omega, by go_num, rfl, by rw [E.out, List.length_append, List.map_append]; exact O3.out, hB3.out⟩
      · have z : decide (af ≤ x) = false := decide_eq_false hin
        rw [if_neg hin, List.append_nil] at ST
        have E := Lib.hid ST; clear ST hown
        go_wp2
        go_roundg (A.length - (k + 1))
        case measure => rw [G.out]; omega
        case rel => exact ⟨k + 1, by omega, by go_num, rfl, by rw [E.out]; exact OW.out, BL.out⟩
    · obtain rfl : k = A.length := by omega
      rw [List.take_length, AB.out] at hown
      have OW := Lib.hid hown
      obtain ⟨wq, rfl⟩ : ∃ wq, wq = wr := ⟨_, rfl⟩
      have S := Lib.hid (S.out.next hb)
      obtain ⟨ov, oc, rfl, -, -, -⟩ := intsR_open (intsR_of_owns OW.out)
      have VB := Lib.hid (intsR_of_owns OW.out)
      clear hg hown hb hlt hk OW G
      obtain ⟨c0, c1, c2, c3, c4, c5, c6, c7⟩ := S.out.rule
      go_upto_if 130 with fail
      go_cut [14, 23] (fun s14 s23 wx => s14 = .int .i64 fB ∧ IntsR wx s23 CB ∧ wq = wx)
      case first => as_aux_lemma =>
        by_cases hu : 200 < Bt.length
        · have E := Lib.hid (show fB = 4 by rw [FB.out, fullF, if_pos hu])
          have E2 := Lib.hid (show CB = [] by rw [HCB.out, cutL, if_pos hu])
          have z : decide ((200 : Int) < (Bt.length : Int)) = true := decide_eq_true (by omega)
          have z2 : decide (200 < Bt.length) = true := decide_eq_true hu
          go_wp2
          go_meet
          exact ⟨by rw [E.out], by rw [E2.out]; exact intsR_nil _, rfl⟩
        · have E := Lib.hid (show fB = 0 by rw [FB.out, fullF, if_neg hu])
          have E2 := Lib.hid (show CB = Bt by rw [HCB.out, cutL, if_neg hu])
          have z : decide ((200 : Int) < (Bt.length : Int)) = false := decide_eq_false (by omega)
          have z2 : decide (200 < Bt.length) = false := decide_eq_false hu
          go_wp2
          go_meet
          exact ⟨by rw [E.out], by rw [E2.out]; exact VB.out, rfl⟩
      case rest =>
      obtain ⟨rfl, hv, rfl⟩ := hcut
      have V1 := Lib.hid hv
      clear hv VB
      go_upto_if 134 with fail
      go_cut [29] (fun s29 wx => s29 = .int .i64 lo ∧ wq = wx)
      case first => as_aux_lemma =>
        by_cases hu : af < st
        · have E := Lib.hid (show lo = st - 1 by rw [LO.out, if_pos hu])
          have z : decide (af < st) = true := decide_eq_true hu
          obtain ⟨q1, q2⟩ := hst1
          go_wp2
          go_meet
          exact ⟨by rw [E.out], rfl⟩
        · have E := Lib.hid (show lo = af by rw [LO.out, if_neg hu])
          have z : decide (af < st) = false := decide_eq_false hu
          go_wp2
          go_meet
          exact ⟨by rw [E.out], rfl⟩
      case rest =>
      obtain ⟨rfl, rfl⟩ := hcut
      go_upto_block 2 with fail
      go_cut [24, 25] (fun s24 s25 wx => s24 = .int .i64 n1 ∧ s25 = .int .i64 n2 ∧ Below wq.heap.size wq wx)
      case first => as_aux_lemma =>
        have hlo : 0 ≤ lo := by
          have := LO.out
          by_cases hu : af < st
          · rw [if_pos hu] at this; omega
          · rw [if_neg hu] at this; omega
        clear c0 c1 c2 c3 c4 c5 c6 c7
        go_wp2_with fail
        go_loopg [24, 25, 30] 3 (fun g nx gv sv wx => ∃ (s gg nn : Int) (mz : Nat), sv = .int .i64 s ∧ gv = .int .i64 gg ∧ nx = .int .i64 nn ∧ Hid (g = mz) ∧ Hid ((s = 400 ∧ mz = 3) ∨ (s = 8000 ∧ mz = 2) ∨ (s = 160000 ∧ mz = 1)) ∧ Hid ((gg = 5 ∧ nn = 0) ∨ (gg = 0 ∧ n2 = 0 ∧ nn = n1)) ∧ Below wq.heap.size wq wx)
        case atStart => exact ⟨400, 5, 0, 3, rfl, rfl, rfl, Lib.hid rfl, Lib.hid (.inl ⟨rfl, rfl⟩), Lib.hid (.inl ⟨rfl, rfl⟩), Below.refl _ _⟩
        case round =>
          obtain ⟨s, gg, nn, mz, rfl, rfl, rfl, GM, SG, GG, hb⟩ := hrel
          have BL := Lib.hid hb; clear hb
          obtain ⟨wl, rfl⟩ : ∃ wl, wl = wr := ⟨_, rfl⟩
          have z0 : lo < 109573 ∨ ¬ lo < 109573 := Classical.em _
          rcases GG.out with ⟨rfl, rfl⟩ | ⟨rfl, h2, h3⟩
          · rcases z0 with hl | hl
            · have z1 : decide (lo < 109573) = true := decide_eq_true hl
              have S := Lib.hid (S.out.next BL.out)
              have hs400 : 400 ≤ s ∧ s ≤ 160000 := by rcases SG.out with ⟨h, _⟩ | ⟨h, _⟩ | ⟨h, _⟩ <;> omega
              obtain ⟨q1, q2⟩ := hs400
              obtain ⟨H2, hH2⟩ : ∃ H2, H2 = min (lo + s) 109573 := ⟨_, rfl⟩
              have HH2 := Lib.hid hH2; clear hH2
              obtain ⟨c0, c1, c2, c3, c4, c5, c6, c7⟩ := S.out.rule
              go_upto_if 149 with fail
              go_cut [26] (fun s26 wx => s26 = .int .i64 H2 ∧ wl = wx)
              case first => as_aux_lemma =>
                by_cases hu : 109573 < lo + s
                · have E := Lib.hid (show H2 = 109573 by rw [HH2.out]; omega)
                  go_wp2
                  go_meet
                  exact ⟨by rw [E.out], rfl⟩
                · have E := Lib.hid (show H2 = lo + s by rw [HH2.out]; omega)
                  go_wp2
                  go_meet
                  exact ⟨by rw [E.out], rfl⟩
              case rest =>
              obtain ⟨rfl, rfl⟩ := hcut
              obtain ⟨A2, hA2⟩ : ∃ A2, A2 = (upto H2 E).take (200000 : Int).toNat := ⟨_, rfl⟩
              have HA2 := Lib.hid hA2
              have A2E := Lib.hid (show A2 = upto H2 E by rw [hA2]; exact List.take_of_length_le (Nat.le_trans (List.length_filter_le ..) (Nat.le_trans EL.out (by decide))))
              have hA2l : A2.length ≤ 109573 := by rw [A2E.out]; exact Nat.le_trans (List.length_filter_le ..) EL.out
              clear hA2
              go_wp2_with fail
              refine (tseq S.out HD.out HS.out HF.out EE.out (by omega) HA2.out).mono ?_; rintro e w11 ⟨v11, rfl, hv11, hb11⟩
              obtain ⟨va2, vc2, rfl, -, -, -⟩ := intsR_open hv11
              have VA2 := Lib.hid hv11
              have BM := Lib.hid (BL.out.trans (hb11.mono BL.out.size))
              clear hv11 hb11 c0 c1 c2 c3 c4 c5 c6 c7
              go_wp2_with fail
              go_loopg [24, 25, 31] (A2.length + 1) (fun g nx gv iv wx => ∃ (i : Nat) (gg nn : Int), iv = .int .i64 i ∧ gv = .int .i64 gg ∧ nx = .int .i64 nn ∧ i ≤ A2.length ∧ g = A2.length + 1 - i ∧ Hid ((gg = 5 ∧ nn = 0 ∧ (A2.take i).find? (fun z => decide (af < z)) = none) ∨ (gg = 0 ∧ A2.find? (fun z => decide (af < z)) = some nn)) ∧ w11 = wx)
              case atStart => exact ⟨0, 5, 0, rfl, rfl, rfl, Nat.zero_le _, by omega, Lib.hid (.inl ⟨rfl, rfl, by simp⟩), rfl⟩
              case round =>
                obtain ⟨i, g2, n3, rfl, rfl, rfl, hi, hg, FH, rfl⟩ := hrel
                have G2 := Lib.hid hg; clear hg
                rcases FH.out with ⟨rfl, rfl, hnone⟩ | ⟨rfl, hsome⟩
                · have FN0 := Lib.hid hnone; clear hnone
                  by_cases hlt : i < A2.length
                  · obtain ⟨a2, cap2, e1, _, _, h4⟩ := intsR_open VA2.out
                    obtain ⟨lb, lo2, e2, hcs⟩ := h4 (by omega)
                    cases e1; subst e2
                    have u0 := hcs i hlt
                    obtain ⟨x, hx⟩ : ∃ x, x = A2[i] := ⟨_, rfl⟩
                    rw [← hx] at u0
                    have X := Lib.hid hx
                    have i1 : (0 : Int) ≤ (i : Int) := Int.natCast_nonneg _
                    have i2 : (i : Int) < (A2.length : Int) := by omega
                    clear hcs h4 hx
                    by_cases hx : af < x
                    · have z : decide (af < x) = true := decide_eq_true hx
                      have FY := Lib.hid (show A2.find? (fun z => decide (af < z)) = some x by rw [X.out]; exact find_step_yes hlt FN0.out (by rw [← X.out]; exact hx))
                      go_wp2
                      go_roundg (A2.length + 1 - (i + 1))
                      case measure => rw [G2.out]; omega
                      case rel => exact ⟨i + 1, 0, x, by go_num, rfl, rfl, by omega, rfl, Lib.hid (.inr ⟨rfl, FY.out⟩), rfl⟩
                    · have z : decide (af < x) = false := decide_eq_false hx
                      have FY := Lib.hid (find_step_no hlt FN0.out (by rw [← X.out]; exact hx))
                      go_wp2
                      go_roundg (A2.length + 1 - (i + 1))
                      case measure => rw [G2.out]; omega
                      case rel => exact ⟨i + 1, 5, 0, by go_num, rfl, rfl, by omega, rfl, Lib.hid (.inl ⟨rfl, rfl, FY.out⟩), rfl⟩
                  · obtain rfl : i = A2.length := by omega
                    have NF := Lib.hid (show (upto H2 E).find? (fun z => decide (af < z)) = none by have := FN0.out; rwa [List.take_length, A2E.out] at this)
                    clear hlt
                    by_cases hH : H2 = 109573
                    · have zz : (H2 == 109573) = true := by rw [beq_iff_eq]; exact hH
                      have NN := Lib.hid (show (n1, n2) = ((0 : Int), (5 : Int)) by rw [← HN.out]; exact next_not UP.out.1 (fun x hx => by rw [hH]; exact (UP.out.2 x hx).2) NF.out)
                      obtain ⟨M1, M2⟩ : Hid (n1 = 0) ∧ Hid (n2 = 5) := ⟨Lib.hid (congrArg Prod.fst NN.out), Lib.hid (congrArg Prod.snd NN.out)⟩
                      clear hH
                      go_wp2
                      go_meet
                      exact ⟨by rw [M1.out], by rw [M2.out], BM.out⟩
                    · have zz : (H2 == 109573) = false := by rw [beq_eq_false_iff_ne]; exact hH
                      have hS : s ≠ 160000 := fun h => hH (by rw [HH2.out]; omega)
                      have SG2 := Lib.hid (show ((s = 400 ∧ mz = 3) ∨ (s = 8000 ∧ mz = 2)) by rcases SG.out with h | h | h; exact .inl h; exact .inr h; exact absurd h.1 hS)
                      clear hH hS
                      go_wp2
                      rcases SG2.out with ⟨hs, hg⟩ | ⟨hs, hg⟩
                      · subst hs
                        go_roundg 2
                        case measure => rw [GM.out, hg]; omega
                        case rel => exact ⟨8000, 5, 0, 2, by first | rfl | go_num, rfl, rfl, Lib.hid rfl, Lib.hid (.inr (.inl ⟨rfl, rfl⟩)), Lib.hid (.inl ⟨rfl, rfl⟩), BM.out⟩
                      · subst hs
                        go_roundg 1
                        case measure => rw [GM.out, hg]; omega
                        case rel => exact ⟨160000, 5, 0, 1, by first | rfl | go_num, rfl, rfl, Lib.hid rfl, Lib.hid (.inr (.inr ⟨rfl, rfl⟩)), Lib.hid (.inl ⟨rfl, rfl⟩), BM.out⟩
                · have NN := Lib.hid (show (n1, n2) = (n3, (0 : Int)) by rw [← HN.out]; exact next_yes UP.out.1 (H := H2) (by rw [← A2E.out]; exact hsome))
                  obtain ⟨M1, M2⟩ : Hid (n1 = n3) ∧ Hid (n2 = 0) := ⟨Lib.hid (congrArg Prod.fst NN.out), Lib.hid (congrArg Prod.snd NN.out)⟩
                  clear hsome
                  by_cases hH : H2 = 109573
                  · have zz : (H2 == 109573) = true := by rw [beq_iff_eq]; exact hH
                    clear hH
                    by_cases hlt : i < A2.length
                    · have z2 : decide ((i : Int) < (A2.length : Int)) = true := decide_eq_true (by omega)
                      go_wp2
                      go_meet
                      exact ⟨by rw [M1.out], by rw [M2.out], BM.out⟩
                    · have z2 : decide ((i : Int) < (A2.length : Int)) = false := decide_eq_false (by omega)
                      go_wp2
                      go_meet
                      exact ⟨by rw [M1.out], by rw [M2.out], BM.out⟩
                  · have zz : (H2 == 109573) = false := by rw [beq_eq_false_iff_ne]; exact hH
                    have hS : s ≠ 160000 := fun h => hH (by rw [HH2.out]; omega)
                    have SG2 := Lib.hid (show ((s = 400 ∧ mz = 3) ∨ (s = 8000 ∧ mz = 2)) by rcases SG.out with h | h | h; exact .inl h; exact .inr h; exact absurd h.1 hS)
                    clear hH hS
                    by_cases hlt : i < A2.length
                    all_goals
                      go_wp2
                      rcases SG2.out with ⟨hs, hg⟩ | ⟨hs, hg⟩
                      · subst hs
                        go_roundg 2
                        case measure => rw [GM.out, hg]; omega
                        case rel => exact ⟨8000, 0, n3, 2, by first | rfl | go_num, rfl, rfl, Lib.hid rfl, Lib.hid (.inr (.inl ⟨rfl, rfl⟩)), Lib.hid (.inr ⟨rfl, M2.out, M1.out.symm⟩), BM.out⟩
                      · subst hs
                        go_roundg 1
                        case measure => rw [GM.out, hg]; omega
                        case rel => exact ⟨160000, 0, n3, 1, by first | rfl | go_num, rfl, rfl, Lib.hid rfl, Lib.hid (.inr (.inr ⟨rfl, rfl⟩)), Lib.hid (.inr ⟨rfl, M2.out, M1.out.symm⟩), BM.out⟩
            · have NN := Lib.hid (show (n1, n2) = ((0 : Int), (5 : Int)) by
                rw [← HN.out]
                refine next_none fun x hx => ?_
                have h1 := (UP.out.2 x hx).2
                have h2 := LO.out
                by_cases hu : af < st
                · rw [if_pos hu] at h2; omega
                · rw [if_neg hu] at h2; omega)
              obtain ⟨M1, M2⟩ : Hid (n1 = 0) ∧ Hid (n2 = 5) := ⟨Lib.hid (congrArg Prod.fst NN.out), Lib.hid (congrArg Prod.snd NN.out)⟩
              go_wp2
              go_meet
              exact ⟨by rw [M1.out], by rw [M2.out], BL.out⟩
          · have M1 := Lib.hid h3; have M2 := Lib.hid h2
            clear h2 h3
            rcases z0 with hl | hl
            all_goals
              go_wp2
              go_meet
              exact ⟨by rw [M1.out], by rw [M2.out], BL.out⟩
      case rest =>
      obtain ⟨rfl, rfl, hbb⟩ := hcut
      obtain ⟨ws, rfl⟩ : ∃ ws, ws = wc := ⟨_, rfl⟩
      have S := Lib.hid (S.out.next hbb)
      have V1 := Lib.hid (V1.out.below hbb)
      clear hbb c0 c1 c2 c3 c4 c5 c6 c7
      obtain ⟨c0, c1, c2, c3, c4, c5, c6, c7⟩ := S.out.rule
      go_wp2_with fail
      refine (tbtw (fB := fB) (L := CB) S.out HD.out HS.out HF.out EE.out (TB.out)).mono ?_; rintro e w12 ⟨v12, rfl, hv12, hb12⟩
      have V2 := Lib.hid hv12; clear hv12
      have S := Lib.hid (S.out.next hb12)
      have V1 := Lib.hid (V1.out.below hb12)
      clear hb12 c0 c1 c2 c3 c4 c5 c6 c7
      obtain ⟨c0, c1, c2, c3, c4, c5, c6, c7⟩ := S.out.rule
      go_wp2_with fail
      refine (error_same fB _ S.out.err).mono ?_; rintro e w13 ⟨rfl, hb13⟩
      have S := Lib.hid (S.out.next hb13)
      have V1 := Lib.hid (V1.out.below hb13)
      have V2 := Lib.hid (V2.out.below hb13)
      clear hb13 c0 c1 c2 c3 c4 c5 c6 c7
      obtain ⟨c0, c1, c2, c3, c4, c5, c6, c7⟩ := S.out.rule
      go_wp2_with fail
      refine (ints_any _ _ CB CB _ V2.out V1.out).mono ?_; rintro e w14 ⟨rfl, hb14⟩
      rw [tintsB_refl]
      have S := Lib.hid (S.out.next hb14)
      have V1 := Lib.hid (V1.out.below hb14)
      have V2 := Lib.hid (V2.out.below hb14)
      clear hb14 c0 c1 c2 c3 c4 c5 c6 c7
      obtain ⟨c0, c1, c2, c3, c4, c5, c6, c7⟩ := S.out.rule
      clear V1 V2
      go_wp2_with fail
      refine (tnext S.out HD.out HS.out HF.out EE.out HN.out).mono ?_; rintro e w15 ⟨rfl, hb15⟩
      have S := Lib.hid (S.out.next hb15)
      clear hb15 c0 c1 c2 c3 c4 c5 c6 c7
      obtain ⟨c0, c1, c2, c3, c4, c5, c6, c7⟩ := S.out.rule
      go_wp2_with fail
      refine (error_same n2 _ S.out.err).mono ?_; rintro e w16 ⟨rfl, hb16⟩
      have S := Lib.hid (S.out.next hb16)
      clear hb16 c0 c1 c2 c3 c4 c5 c6 c7
      obtain ⟨c0, c1, c2, c3, c4, c5, c6, c7⟩ := S.out.rule
      obtain ⟨wt, rfl⟩ : ∃ wt, wt = w16 := ⟨_, rfl⟩
      go_upto_region 60 with fail
      go_cut [209] (fun s wx => ∃ t : Bool, s = .bool t ∧ (t = true → 1 ≤ af ∧ af ≤ 109573) ∧ (t = false → ¬ (1 ≤ af ∧ af ≤ 109573)) ∧ wt = wx)
      case first => as_aux_lemma =>
        by_cases h5 : 1 ≤ af
        · by_cases h6 : af ≤ 109573
          · go_wp2
            go_meet
            exact ⟨true, rfl, (fun _ => ⟨h5, h6⟩), (fun h => by cases h), rfl⟩
          · have h7 : ¬ (1 ≤ af ∧ af ≤ 109573) := fun h => h6 h.2
            have H7 := Lib.hid h7; clear h7
            go_wp2
            go_meet
            exact ⟨false, by first | rfl | simp [h6], (fun h => by cases h), (fun _ => H7.out), rfl⟩
        · have h7 : ¬ (1 ≤ af ∧ af ≤ 109573) := fun h => h5 h.1
          have H7 := Lib.hid h7; clear h7
          go_wp2
          go_meet
          exact ⟨false, by first | rfl | simp [h5], (fun h => by cases h), (fun _ => H7.out), rfl⟩
      case rest =>
      obtain ⟨t, rfl, ht1, ht2, rfl⟩ := hcut
      have T1 := Lib.hid ht1; have T2 := Lib.hid ht2
      clear ht1 ht2
      go_upto_if 209 with fail
      go_cut [37] (fun s37 wx => s37 = .bool bI ∧ Below wt.heap.size wt wx)
      case first => as_aux_lemma =>
        cases t
        · have E := Lib.hid (show bI = false by
            rw [← BI.out, inB, decide_eq_false_iff_not]
            intro h
            exact T2.out rfl (UP.out.2 af h))
          clear T1 T2
          go_wp2
          go_meet
          exact ⟨by rw [E.out], Below.refl _ _⟩
        · obtain ⟨A3, hA3⟩ : ∃ A3, A3 = (upto af E).take (200000 : Int).toNat := ⟨_, rfl⟩
          have HA3 := Lib.hid hA3
          have E := Lib.hid (show inB A3 af = bI by
            rw [hA3, show (upto af E).take (200000 : Int).toNat = upto af E from List.take_of_length_le (Nat.le_trans (List.length_filter_le ..) (Nat.le_trans EL.out (by decide))), ← BI.out, Bool.eq_iff_iff]
            simp [inB, upto])
          clear hA3 T1 T2
          go_wp2_with fail
          refine (tseq S.out HD.out HS.out HF.out EE.out (by omega) HA3.out).mono ?_; rintro e w17 ⟨v17, rfl, hv17, hb17⟩
          have V := Lib.hid hv17; have B3 := Lib.hid hb17
          clear hv17 hb17 c0 c1 c2 c3 c4 c5 c6 c7
          go_wp2_with fail
          refine (rin_any _ A3 af _ V.out).mono ?_; rintro e w18 ⟨rfl, rfl⟩
          rw [E.out]
          go_wp2
          go_meet
          exact ⟨rfl, B3.out⟩
      case rest =>
      obtain ⟨rfl, hbb⟩ := hcut
      obtain ⟨wu, rfl⟩ : ∃ wu, wu = wc := ⟨_, rfl⟩
      clear T1 T2
      have S := Lib.hid (S.out.next hbb)
      clear hbb c0 c1 c2 c3 c4 c5 c6 c7
      obtain ⟨c0, c1, c2, c3, c4, c5, c6, c7⟩ := S.out.rule
      go_wp2_with fail
      refine (thas S.out HD.out HS.out HF.out EE.out BI.out).mono ?_; rintro e w19 ⟨rfl, hb19⟩
      have S := Lib.hid (S.out.next hb19)
      clear hb19 c0 c1 c2 c3 c4 c5 c6 c7
      obtain ⟨c0, c1, c2, c3, c4, c5, c6, c7⟩ := S.out.rule
      go_wp2_with fail
      refine (error_nil 0 _ true rfl).mono ?_; rintro e w20 ⟨rfl, hb20⟩
      have S := Lib.hid (S.out.next hb20)
      clear hb20 c0 c1 c2 c3 c4 c5 c6 c7
      obtain ⟨c0, c1, c2, c3, c4, c5, c6, c7⟩ := S.out.rule
      have B := Lib.hid S.out.below
      clear c0 c1 c2 c3 c4 c5 c6 c7
      go_wp2
      go_ret
      exact ⟨by first | rfl | simp, B.out⟩

end Go.Proofs.YtdpngbjlljgoaaaDoor
