/- The contract of the reference chimeref1.Seq: the days of a rule up to a day, as many as may be. Conditions: the rule is right, it begins at a day. -/
import Derived.Test.YtdpngbjlljgoaaaDoorRefS
import Derived.Test.YtdpngbjlljgoaaaDoorSeqN
namespace Go.Proofs.YtdpngbjlljgoaaaDoor
open Go.RowKit
set_option linter.unusedSimpArgs false
set_option linter.unusedVariables false

/-- a list stays where another row grows. -/
theorem IntsR.far {w w' : World} {a : Option Addr} {cap : Nat} {L : List Int} {row : Option Nat} (h : IntsR w (.slice a L.length cap) L) (hg : w.grownBy w' row) (hne : ∀ b, a = some b → row ≠ some b.block) : IntsR w' (.slice a L.length cap) L := by
  obtain ⟨a', cap', h1, h2, h3, h4, h5⟩ := h
  cases h1
  refine ⟨_, _, rfl, h2, h3, h4, fun hn => ?_⟩
  obtain ⟨b, off, h6, h7⟩ := h5 hn
  exact ⟨b, off, h6, fun j u hj => hg.cell (h7 j u hj) (show some b ≠ row from Ne.symm (hne ⟨b, off, none⟩ h6))⟩

/-- of the first so many of a list those behind a day, at most so. -/
def inS (H st : Int) (l : List Int) (i : Nat) : List Int := upto H ((l.take i).filter fun n => decide (st < n))

theorem inS_succ {H st : Int} {l : List Int} {i : Nat} (h : i < l.length) : inS H st l (i + 1) = inS H st l i ++ (if st < l[i] ∧ l[i] ≤ H then [l[i]] else []) := by
  unfold inS
  rw [List.take_succ_eq_append_getElem h, List.filter_append, upto_append]
  congr 1
  by_cases h1 : st < l[i] <;> by_cases h2 : l[i] ≤ H <;> simp [upto, h1, h2]

theorem inS_yes {H st : Int} {l O : List Int} {i M : Nat} (h : i < l.length) (h1 : st < l[i]) (h2 : l[i] ≤ H) (h3 : ((O ++ inS H st l i).take M).length < M) :
    (O ++ inS H st l (i + 1)).take M = (O ++ inS H st l i).take M ++ [l[i]] := by
  rw [inS_succ h, if_pos ⟨h1, h2⟩, ← List.append_assoc]
  obtain ⟨X, hX⟩ : ∃ X, X = O ++ inS H st l i := ⟨_, rfl⟩
  rw [← hX] at h3 ⊢
  rw [List.length_take] at h3
  rw [List.take_of_length_le (show X.length ≤ M by omega), List.take_of_length_le (by simp; omega)]

theorem inS_no {H st : Int} {l O : List Int} {i M : Nat} (h : i < l.length) (h1 : ¬ (st < l[i] ∧ l[i] ≤ H)) : (O ++ inS H st l (i + 1)).take M = (O ++ inS H st l i).take M := by
  rw [inS_succ h, if_neg h1, List.append_nil]

theorem take_stop {α : Type} {X Y : List α} {M : Nat} (h : ¬ (X.take M).length < M) : (X ++ Y).take M = X.take M := by
  rw [List.length_take] at h
  rw [List.take_append_of_le_length (by omega)]

theorem inS_full {H st : Int} {l O : List Int} {i M : Nat} (h : i < l.length) (h3 : ¬ ((O ++ inS H st l i).take M).length < M) : (O ++ inS H st l (i + 1)).take M = (O ++ inS H st l i).take M := by
  rw [inS_succ h, ← List.append_assoc, take_stop h3]

theorem inS_all (H st : Int) (l : List Int) : inS H st l l.length = upto H (l.filter fun n => decide (st < n)) := by rw [inS, List.take_length]

theorem take_app_take {α : Type} (X Y : List α) (M : Nat) : (X.take M ++ Y).take M = (X ++ Y).take M := by
  rcases Nat.le_total X.length M with h | h
  · rw [List.take_of_length_le h]
  · rw [List.take_append_of_le_length (by rw [List.length_take]; omega), List.take_append_of_le_length h, List.take_take, Nat.min_self]

theorem perS_k {fr ev y m d k a b : Int} (h : perS fr ev y m d k = some (a, b)) : 0 ≤ k ∧ k ≤ 109573 := by
  unfold perS at h
  by_cases hk : k < 0 ∨ 109573 < k
  · rw [if_pos hk] at h; simp at h
  · omega

/-- behind a period that begins behind a day all are behind it. -/
theorem upto_rest {fr ev y m d st k a b H : Int} {mo da : List Int} {we : List (Int × Int)} {pk : List Int} (hd : Cal.dateB y m d = true) (he : 1 ≤ ev ∧ ev ≤ 50) (h : perS fr ev y m d k = some (a, b)) (ha : H < a) :
    upto H (restL (perD fr ev y m d mo da we pk st) st k) = [] := by
  refine upto_none fun x hx => ?_
  obtain ⟨_, _, a', b', h', h2⟩ := (restG_up hd he _ k).2 x hx
  rw [h] at h'
  cases h'
  omega

set_option maxRecDepth 100000 in
set_option maxHeartbeats 16000000 in
theorem rseq_any (fr ev ct ti y0 m0 d0 n0 tt mm : Int) (vm vd vw vp : Value) (mo da : List Int) (we : List (Int × Int)) (pk : List Int) (w : World)
    (h1 : IntsR w vm mo) (h2 : IntsR w vd da) (h3 : PairsR w vw we) (h4 : IntsR w vp pk) (hd0 : Cal.dateB y0 m0 d0 = true) (hn0 : Cal.num y0 m0 d0 = n0) (hF : ruleF fr ev ct ti mo da we pk = 0) (hmm : mm ≤ 200000) :
    Calls Tryd.prog 19 #[.agg #[.int .i64 fr, .int .i64 ev, .int .i64 ct, .int .i64 ti, vm, vd, vw, vp], .int .i64 n0, .int .i64 tt, .int .i64 mm] w
      fun e w' => ∃ r, e = .returned r ∧ IntsR w' r (seqR ti ct (n0 :: restL (perD fr ev y0 m0 d0 mo da we pk n0) n0 0) tt mm) ∧ Below w.heap.size w w' := by
  obtain ⟨i0, hi, hz0, hz1, hz2⟩ := info_parts intInfoP
  obtain ⟨am, km, rfl, _, _, _⟩ := intsR_open h1
  obtain ⟨ad, kd, rfl, _, _, _⟩ := intsR_open h2
  obtain ⟨aw, kw, rfl, _, _, _⟩ := pairsR_open h3
  obtain ⟨ap, kp, rfl, _, _, _⟩ := intsR_open h4
  have hr0 := ruleF_0 hF
  have he := hr0.2.1
  have FR := Lib.hid hr0.1; have EV := Lib.hid hr0.2.1
  obtain ⟨H, hH⟩ : ∃ H, H = hiS ti tt := ⟨_, rfl⟩
  obtain ⟨M, hM⟩ : ∃ M, M = mostS ct mm := ⟨_, rfl⟩
  have hMb : M ≤ 200000 := by rw [hM]; unfold mostS; split <;> omega
  obtain ⟨R, hR⟩ : ∃ R, R = restL (perD fr ev y0 m0 d0 mo da we pk n0) n0 := ⟨_, rfl⟩
  rw [show seqR ti ct (n0 :: restL (perD fr ev y0 m0 d0 mo da we pk n0) n0 0) tt mm = (upto H (n0 :: R 0)).take M.toNat by rw [seqR, hH, hM, hR]]
  obtain ⟨F, hFF⟩ : ∃ F, F = (upto H (n0 :: R 0)).take M.toNat := ⟨_, rfl⟩
  rw [← hFF]
  obtain ⟨w0, hw0⟩ : ∃ x, x = w.alloc (.cells #[.int .i64 fr, .int .i64 ev, .int .i64 ct, .int .i64 ti, .slice am mo.length km, .slice ad da.length kd, .slice aw we.length kw, .slice ap pk.length kp] 25) := ⟨_, rfl⟩
  have hRl := rlAt_new w 25 fr ev ct ti _ _ _ _ mo da we pk h1 h2 h3 h4
  have hb0 : Below w.heap.size w w0 := by rw [hw0]; exact (Below.refl _ _).alloc (Nat.le_refl _) _
  rw [← hw0] at hRl
  have RR := Lib.hid hRl; have B0 := Lib.hid hb0; have W0 := Lib.hid hw0; have D0 := Lib.hid hd0; have N0 := Lib.hid hn0; have HF := Lib.hid hF; have FE := Lib.hid hFF; have RE := Lib.hid hR; have HE := Lib.hid he
  clear hr0 hF hd0 hn0 hRl hb0 hw0 h1 h2 h3 h4 hFF hR he
  obtain ⟨⟨c0, c1, c2, c3, c4, c5, c6, c7⟩, _, hl0⟩ := id RR.out
  go_enter Tryd.func19, Tryd.ntmps19
  go_upto_region 1 with fail
  rw [← W0.out]
  obtain ⟨bt, hbt⟩ : ∃ b, b = decide (ti ≠ 0 ∧ ti < tt) := ⟨_, rfl⟩
  have btT := Lib.hid (show bt = true → ti = H from fun h => by rw [hbt, decide_eq_true_eq] at h; rw [hH, hiS, if_pos h])
  have btF := Lib.hid (show bt = false → tt = H from fun h => by rw [hbt, decide_eq_false_iff_not] at h; rw [hH, hiS, if_neg h])
  clear hH
  go_upto_region 2 with fail
  go_cut [25] (fun s25 wx => s25 = .bool bt ∧ w0 = wx)
  case first => as_aux_lemma =>
    by_cases h0 : ti = 0
    · have z : (ti != 0) = false := by simp [h0]
      have E := Lib.hid (show bt = false by rw [hbt]; simp [h0])
      clear h0 hbt
      go_wp2
      go_meet
      exact ⟨by rw [E.out], rfl⟩
    · have z : (ti != 0) = true := by simp [h0]
      by_cases ht : ti < tt
      · have E := Lib.hid (show bt = true by rw [hbt]; simp [h0, ht])
        clear h0 hbt
        go_wp2
        go_meet
        exact ⟨by rw [E.out], rfl⟩
      · have E := Lib.hid (show bt = false by rw [hbt]; simp [ht])
        clear h0 hbt
        go_wp2
        go_meet
        exact ⟨by rw [E.out], rfl⟩
  case rest =>
  obtain ⟨rfl, rfl⟩ := hcut
  clear hbt
  go_upto_if 25 with fail
  go_cut [2] (fun s2 wx => s2 = .int .i64 H ∧ w0 = wx)
  case first => as_aux_lemma =>
    cases bt
    · have E := Lib.hid (btF.out rfl)
      clear btF btT
      go_wp2
      go_meet
      exact ⟨by rw [E.out], rfl⟩
    · have E := Lib.hid (btT.out rfl)
      clear btF btT
      go_wp2
      go_meet
      exact ⟨by rw [E.out], rfl⟩
  case rest =>
  obtain ⟨rfl, rfl⟩ := hcut
  clear btT btF
  obtain ⟨bm, hbm⟩ : ∃ b, b = decide (ct ≠ 0 ∧ ct < mm) := ⟨_, rfl⟩
  have bmT := Lib.hid (show bm = true → ct = M from fun h => by rw [hbm, decide_eq_true_eq] at h; rw [hM, mostS, if_pos h])
  have bmF := Lib.hid (show bm = false → mm = M from fun h => by rw [hbm, decide_eq_false_iff_not] at h; rw [hM, mostS, if_neg h])
  clear hM
  go_upto_region 4 with fail
  go_cut [36] (fun s36 wx => s36 = .bool bm ∧ w0 = wx)
  case first => as_aux_lemma =>
    by_cases h0 : ct = 0
    · have z : (ct != 0) = false := by simp [h0]
      have E := Lib.hid (show bm = false by rw [hbm]; simp [h0])
      clear h0 hbm
      go_wp2
      go_meet
      exact ⟨by rw [E.out], rfl⟩
    · have z : (ct != 0) = true := by simp [h0]
      by_cases ht : ct < mm
      · have E := Lib.hid (show bm = true by rw [hbm]; simp [h0, ht])
        clear h0 hbm
        go_wp2
        go_meet
        exact ⟨by rw [E.out], rfl⟩
      · have E := Lib.hid (show bm = false by rw [hbm]; simp [ht])
        clear h0 hbm
        go_wp2
        go_meet
        exact ⟨by rw [E.out], rfl⟩
  case rest =>
  obtain ⟨rfl, rfl⟩ := hcut
  clear hbm
  go_upto_if 36 with fail
  go_cut [3] (fun s3 wx => s3 = .int .i64 M ∧ w0 = wx)
  case first => as_aux_lemma =>
    cases bm
    · have E := Lib.hid (bmF.out rfl)
      clear bmF bmT
      go_wp2
      go_meet
      exact ⟨by rw [E.out], rfl⟩
    · have E := Lib.hid (bmT.out rfl)
      clear bmF bmT
      go_wp2
      go_meet
      exact ⟨by rw [E.out], rfl⟩
  case rest =>
  obtain ⟨rfl, rfl⟩ := hcut
  clear bmT bmF
  clear hmm
  by_cases hst : H < n0
  · have E := Lib.hid (show F = [] by rw [FE.out, upto_none, List.take_nil]; intro x hx; rcases List.mem_cons.1 hx with rfl | hx; · exact hst
                                      rw [RE.out] at hx; have := ((restG_up D0.out HE.out _ 0).2 x hx).1; omega)
    have z1 : decide (H < n0) = true := decide_eq_true hst
    go_wp2
    go_ret
    exact ⟨_, rfl, by rw [E.out]; exact intsR_nil _, B0.out⟩
  · have z1 : decide (H < n0) = false := decide_eq_false hst
    by_cases hm1 : M < 1
    · have E := Lib.hid (show F = [] by rw [FE.out, show M.toNat = 0 by omega, List.take_zero])
      have z2 : decide (M < 1) = true := decide_eq_true hm1
      go_wp2
      go_ret
      exact ⟨_, rfl, by rw [E.out]; exact intsR_nil _, B0.out⟩
    · have z2 : decide (M < 1) = false := decide_eq_false hm1
      have S := Lib.hid (show ([n0] ++ upto H (R 0)).take M.toNat = F by rw [FE.out]; congr 1; rw [show n0 :: R 0 = [n0] ++ R 0 from rfl, upto_append, show upto H [n0] = [n0] from upto_all (by simp; omega)])
      clear c0 c1 c2 c3 c4 c5 c6 c7 hl0
      have hsz0 : w.heap.size < w0.heap.size := World.block_lt_of_cell? w0 ⟨w.heap.size, 0, none⟩ RR.out.1.1
      go_wp2_with (at_builtin; refine wpList_append_lies _ rfl _ _ 22 rfl w0.heap.size 3 i0 _ 1 8 Tryd.underlying22 hi hz0 hz1 hz2 rfl (by decide) _ _ _ rfl ((World.ownsRow_nil w0 w0.heap.size 3 1).alloc _) ⟨w0.heap.size, 0, none⟩ 1 1 [.int .i64 n0] rfl rfl ?d1 ?d2 (by decide) (by unfold maxLen; omega) (by omega) (by simp) _ rfl ?_)
      try (case d1 => exact cell_one_new _ _ _)
      case d2 => first | rfl | (intro u hu; simp at hu; subst hu; rfl)
      intro g1 cap1 w1 hown1 hgrow1 hat1 hlt1
      have hB1 := Lib.hid (((Below.refl w0.heap.size w0).alloc (Nat.le_refl _) (.cells #[.int .i64 n0] 3)).grown hgrow1 (by simp) (fun c hc => ((World.ownsRow_nil w0 w0.heap.size 3 1).lt c hc).1))
      have O1 := Lib.hid hown1
      clear hown1 hgrow1 hat1 hlt1
      go_wp2_with fail
      go_loopg [9, 10] 109574 (fun g ov kv wr => ∃ (k : Nat) (O : List Int), kv = .int .i64 k ∧ k ≤ 109574 ∧ g = 109574 - k ∧ O.length ≤ M.toNat ∧ Hid ((O ++ upto H (R k)).take M.toNat = F) ∧ wr.ownsRow w0.heap.size 3 1 ov O.length (O.map (Value.int .i64)) ∧ Below w0.heap.size w0 wr)
      case atStart => exact ⟨0, [n0], rfl, by omega, rfl, by simp; omega, S, by simpa using O1.out, hB1.out⟩
      case round =>
        obtain ⟨k, O, rfl, hk, hg, hOl, INV, hown, hb⟩ := hrel
        have G := Lib.hid hg; have OW := Lib.hid hown; have BL := Lib.hid hb
        have RX := Lib.hid (RR.out.below hb)
        have hOb : O.length ≤ 200000 := by omega
        have hbs := hb.size
        clear hg hown hb O1 hB1
        obtain ⟨ov', oc, rfl, oc1, oc2, _⟩ := intsR_open (intsR_of_owns OW.out)
        unfold maxLen at oc2
        by_cases hfull : (O.length : Int) < M
        · obtain ⟨⟨c0, c1, c2, c3, c4, c5, c6, c7⟩, _, hl0⟩ := id RX.out
          have z3 : decide ((O.length : Int) < M) = true := decide_eq_true hfull
          go_wp2_with fail
          refine (rbegin_any fr ev ct ti k y0 m0 d0 n0 am ad aw ap mo.length km da.length kd we.length kw pk.length kp _ D0.out N0.out FR.out EV.out).mono ?_
          rintro e w2 ⟨a, b, rfl, hab, hb2⟩
          have RY := Lib.hid (RX.out.below hb2); have OW2 := Lib.hid (own_kept OW.out hb2); have BL2 := Lib.hid (BL.out.trans (hb2.mono BL.out.size))
          have hbs2 := BL2.out.size
          clear c0 c1 c2 c3 c4 c5 c6 c7 hl0 hb2
          cases hp : perS fr ev y0 m0 d0 k with
          | none =>
            have E := Lib.hid (show O = F by rw [← INV.out, RE.out, restL_none (perD_none hp), show upto H [] = [] from rfl, List.append_nil, List.take_of_length_le hOl])
            rw [show (none : Option (Int × Int)).isSome = false from rfl]
            have LR := Lib.hid (intsR_of_owns OW2.out)
            clear hab hp
            go_wp2
            go_ret
            exact ⟨_, rfl, by rw [← E.out]; exact LR.out, B0.out.trans (BL2.out.mono B0.out.size)⟩
          | some p =>
            obtain ⟨a', b'⟩ := p
            obtain ⟨rfl, rfl⟩ : a = a' ∧ b = b' := by have := hab _ hp; exact ⟨(congrArg Prod.fst this).symm, (congrArg Prod.snd this).symm⟩
            rw [show (some (a, b) : Option (Int × Int)).isSome = true from rfl]
            have hkk := perS_k hp
            have HP := Lib.hid hp
            clear hab hp
            by_cases hover : H < a
            · have E := Lib.hid (show O = F by rw [← INV.out, RE.out, upto_rest D0.out HE.out HP.out hover, List.append_nil, List.take_of_length_le hOl])
              have z4 : decide (H < a) = true := decide_eq_true hover
              have LR := Lib.hid (intsR_of_owns OW2.out)
              go_wp2
              go_ret
              exact ⟨_, rfl, by rw [← E.out]; exact LR.out, B0.out.trans (BL2.out.mono B0.out.size)⟩
            · have z4 : decide (H < a) = false := decide_eq_false hover
              obtain ⟨⟨c0, c1, c2, c3, c4, c5, c6, c7⟩, _, hl0⟩ := id RY.out
              go_wp2_with fail
              refine (rperiod_fr fr ev ct ti k a b y0 m0 d0 n0 _ _ _ _ mo da we pk _ RY.out.2.1.1 RY.out.2.1.2.1 RY.out.2.1.2.2.1 RY.out.2.1.2.2.2 D0.out N0.out HF.out HP.out).mono ?_; rintro e w3 ⟨r, rfl, ⟨hr, hfr⟩, hb3⟩
              obtain ⟨l, hl⟩ : ∃ l, l = perL fr mo da we pk n0 a b := ⟨_, rfl⟩
              rw [← hl] at hr
              have hbd := perS_bd D0.out HE.out.1 HP.out
              have hll : l.length ≤ 401 := by rw [hl]; exact perL_len _ _ _ _ _ _ _ _ (by omega)
              have NXT := Lib.hid (show R k = (l.filter fun n => decide (n0 < n)) ++ R (k + 1) by rw [RE.out, restL_some (perD_some HP.out) hkk.2, ← hl])
              have LR := Lib.hid hr; have OW3 := Lib.hid (own_kept OW2.out hb3); have BL3 := Lib.hid (BL2.out.trans (hb3.mono BL2.out.size))
              have hbs3 := BL3.out.size
              clear c0 c1 c2 c3 c4 c5 c6 c7 hl0 hb3 hl hr hbd
              obtain ⟨la, lc, rfl, lc1, lc2, hlc⟩ := intsR_open LR.out
              unfold maxLen at lc2
              have LC := Lib.hid hlc; clear hlc
              have FV := Lib.hid (show ∀ b, la = some b → w2.heap.size ≤ b.block from fun b hb => hfr b.block (by rw [hb]; rfl))
              have OF := Lib.hid (show ∀ g, (Value.slice ov' O.length oc).ownBlock = some g → g < w2.heap.size from fun g hg => (OW2.out.lt g hg).2)
              clear hfr
              obtain ⟨wo, rfl⟩ : ∃ wo, wo = w3 := ⟨_, rfl⟩
              go_wp2_with fail
              go_loopg [9, 16] l.length (fun g ov iv wx => ∃ i : Nat, i ≤ l.length ∧ iv = .int .i64 i ∧ g = l.length - i ∧ wx.ownsRow w0.heap.size 3 1 ov ((O ++ inS H n0 l i).take M.toNat).length (((O ++ inS H n0 l i).take M.toNat).map (Value.int .i64)) ∧ Below w0.heap.size w0 wx ∧ IntsR wx (.slice la l.length lc) l ∧ wo.heap.size ≤ wx.heap.size ∧ ∀ g, ov.ownBlock = some g → g < w2.heap.size ∨ wo.heap.size ≤ g)
              case atStart => exact ⟨0, Nat.zero_le _, rfl, rfl, by rw [show inS H n0 l 0 = [] by simp [inS, upto], List.append_nil, List.take_of_length_le hOl]; exact OW3.out, BL3.out, LR.out, Nat.le_refl _, fun g hg => .inl (OF.out g hg)⟩
              case round =>
                obtain ⟨i, hi2, rfl, hg, hown, hb, hlr, hwo, hof⟩ := hrel
                have G2 := Lib.hid hg; have BL4 := Lib.hid hb; have LR4 := Lib.hid hlr; have OF4 := Lib.hid hof
                have hbs4 := hb.size
                by_cases hlt : i < l.length
                · obtain ⟨a2, cap2, e1, _, _, h4⟩ := intsR_open hlr
                  obtain ⟨lb, lo, e2, hcs⟩ := h4 (by omega)
                  cases e1; subst e2
                  have hlb := FV.out _ rfl
                  have LB := Lib.hid hlb
                  clear hlb
                  have u0 := hcs i hlt
                  obtain ⟨O2, hO2⟩ : ∃ O2, O2 = (O ++ inS H n0 l i).take M.toNat := ⟨_, rfl⟩
                  rw [← hO2] at hown
                  have hO2l : O2.length ≤ M.toNat := by rw [hO2]; exact List.length_take_le _ _
                  obtain ⟨x, hx⟩ : ∃ x, x = l[i] := ⟨_, rfl⟩
                  rw [← hx] at u0
                  have X := Lib.hid hx; have OE := Lib.hid hO2; have OW4 := Lib.hid hown
                  have hi0 : (0 : Int) ≤ (i : Int) := Int.natCast_nonneg _
                  have hi1 : (i : Int) < (l.length : Int) := by omega
                  obtain ⟨ov2, oc2', rfl, oc21, oc22, _⟩ := intsR_open (intsR_of_owns OW4.out)
                  unfold maxLen at oc22
                  clear hg hb hlr hcs h4 hO2 hx hown hof
                  by_cases hin : n0 < x ∧ x ≤ H
                  · obtain ⟨q1, q2⟩ := hin
                    have z5 : decide (n0 < x) = true := decide_eq_true q1
                    have z6 : decide (x ≤ H) = true := decide_eq_true q2
                    by_cases hf2 : (O2.length : Int) < M
                    · have z7 : decide ((O2.length : Int) < M) = true := decide_eq_true hf2
                      have E := Lib.hid (show (O ++ inS H n0 l (i + 1)).take M.toNat = O2 ++ [x] by
                        rw [OE.out, X.out]
                        exact inS_yes hlt (by rw [← X.out]; exact q1) (by rw [← X.out]; exact q2) (by rw [← OE.out]; omega))
                      have hown := OW4.out
                      go_wp2_with (at_builtin; refine wpList_append_lies _ rfl _ _ 22 rfl w0.heap.size 3 i0 _ 1 8 Tryd.underlying22 hi hz0 hz1 hz2 rfl (by decide) _ _ _ rfl (hown.alloc _) ⟨wr.heap.size, 0, none⟩ 1 1 [.int .i64 x] rfl rfl ?e1 ?e2 (by decide) (by unfold maxLen; omega) (by omega) (by simp; omega) _ rfl ?_)
                      try (case e1 => exact cell_one_new _ _ _)
                      case e2 => first | rfl | (intro u hu; simp at hu; subst hu; rfl)
                      intro g3 cap3 w5 hown3 hgrow3 hat3 hlt3
                      have hB3 := Lib.hid ((BL4.out.alloc hbs4 (.cells #[.int .i64 x] 3)).grown hgrow3 (by simp; omega) (fun c hc => (hown.lt c hc).1))
                      have LR5 := Lib.hid ((LR4.out.below ((Below.refl _ _).alloc (Nat.le_refl _) (.cells #[.int .i64 x] 3))).far hgrow3 (fun b hb2 hrow => by
                        have hlt2 : b.block < wo.heap.size := by
                          obtain ⟨a9, cap9, e9, _, _, h9⟩ := intsR_open LR.out
                          obtain ⟨b9, o9, e99, hc9⟩ := h9 (by omega)
                          cases e9; cases e99; cases hb2
                          exact World.block_lt_of_cell? wo _ (hc9 0 (by omega))
                        have h1 := FV.out b hb2
                        have h2 := OF4.out _ hrow
                        omega))
                      have OF5 := Lib.hid (show ∀ g, (Value.slice (some ⟨g3, 0, none⟩) (O2.length + 1) cap3).ownBlock = some g → g < w2.heap.size ∨ wo.heap.size ≤ g from fun g hg => by
                        obtain rfl : g3 = g := by simpa [Value.ownBlock] using hg
                        rcases hat3 with h | h
                        · exact OF4.out _ h
                        · refine .inr ?_; rw [h]; omega)
                      have hsz5 : wo.heap.size ≤ w5.heap.size := by have := hgrow3.size; simp at this; omega
                      have O3 := Lib.hid hown3
                      clear hown3 hgrow3 hat3 hlt3 hown
                      go_wp2
                      go_roundg (l.length - (i + 1))
                      case measure => rw [G2.out]; omega
                      case rel => exact ⟨i + 1, by omega, by go_num, rfl, by rw [E.out, List.length_append, List.map_append]; exact O3.out, hB3.out, LR5.out, hsz5, OF5.out⟩
                    · have z7 : decide ((O2.length : Int) < M) = false := decide_eq_false hf2
                      have E := Lib.hid (show (O ++ inS H n0 l (i + 1)).take M.toNat = O2 by
                        rw [OE.out]
                        exact inS_full hlt (by rw [← OE.out]; omega))
                      go_wp2
                      go_roundg (l.length - (i + 1))
                      case measure => rw [G2.out]; omega
                      case rel => exact ⟨i + 1, by omega, by go_num, rfl, by rw [E.out]; exact OW4.out, BL4.out, LR4.out, hwo, OF4.out⟩
                  · have E := Lib.hid (show (O ++ inS H n0 l (i + 1)).take M.toNat = O2 by
                      rw [OE.out]
                      exact inS_no hlt (by rw [← X.out]; exact hin))
                    by_cases q1 : n0 < x
                    · have z5 : decide (n0 < x) = true := decide_eq_true q1
                      have z6 : decide (x ≤ H) = false := decide_eq_false (fun h => hin ⟨q1, h⟩)
                      clear hin
                      go_wp2
                      go_roundg (l.length - (i + 1))
                      case measure => rw [G2.out]; omega
                      case rel => exact ⟨i + 1, by omega, by go_num, rfl, by rw [E.out]; exact OW4.out, BL4.out, LR4.out, hwo, OF4.out⟩
                    · have z5 : decide (n0 < x) = false := decide_eq_false q1
                      clear hin
                      go_wp2
                      go_roundg (l.length - (i + 1))
                      case measure => rw [G2.out]; omega
                      case rel => exact ⟨i + 1, by omega, by go_num, rfl, by rw [E.out]; exact OW4.out, BL4.out, LR4.out, hwo, OF4.out⟩
                · obtain rfl : i = l.length := by omega
                  have OW5 := Lib.hid hown
                  have INV2 := Lib.hid (show ((O ++ inS H n0 l l.length).take M.toNat ++ upto H (R ((k + 1 : Nat) : Int))).take M.toNat = F by
                    rw [show ((k + 1 : Nat) : Int) = (k : Int) + 1 by omega, take_app_take, inS_all, List.append_assoc, ← upto_append, ← NXT.out]; exact INV.out)
                  clear hg hb hlr hown hof
                  go_wp2
                  go_roundg (109574 - (k + 1))
                  case measure => rw [G.out]; omega
                  case rel => exact ⟨k + 1, _, by go_num, by omega, rfl, List.length_take_le _ _, INV2, OW5.out, BL4.out⟩
        · have E := Lib.hid (show O = F by
            rw [← INV.out, List.take_append_of_le_length (by omega), List.take_of_length_le hOl])
          have z3 : decide ((O.length : Int) < M) = false := decide_eq_false hfull
          have LR := Lib.hid (intsR_of_owns OW.out)
          go_wp2
          go_ret
          exact ⟨_, rfl, by rw [← E.out]; exact LR.out, B0.out.trans (BL.out.mono B0.out.size)⟩

end Go.Proofs.YtdpngbjlljgoaaaDoor
