/- The contract of the reference chimeref2.Load. Conditions: the month is one; the events are right, at most twenty. -/
import Derived.Test.YtgelojhpanbnaaaGreatDoorQ37
import Derived.Test.YtgelojhpanbnaaaGreatDoorQ24
import Derived.Test.YtgelojhpanbnaaaGreatDoorQ25
import Derived.StillTailTactics
import Derived.Deep.RegionHeld3
namespace Go.Proofs.YtgelojhpanbnaaaGreatDoor
open Go.RowKit Go.Shelf
set_option linter.unusedSimpArgs false
set_option linter.unusedVariables false
attribute [local go_sem] Oper.semAt_some

noncomputable def Ev.askd (low : Int) (n : Nat) (e : Ev) : List Int := (chgR e.T e.M e.N e.C).foldl putL (evL e.T e.M e.N low (low + n * 1440 - 1))

noncomputable def Ev.lodS (low : Int) (n : Nat) (e : Ev) : List Int := lodR e.C (e.askd low n)

theorem lodR_eq {y m : Int} {L : List Ev} (h : ∀ e ∈ L, e.F = 0) : loadC (lodLow y m) (lodN y m) (L.flatMap (Ev.lodS (lodLow y m) (lodN y m))) = lodV y m L := by
  refine load_all fun e he i hi => ?_
  have hF := evF_facts (h e he)
  exact load_one hF.upC (fun c hc => (timeB_yes (hF.tC c hc).1).1) hi

structure LodW (w0 : World) (g n : Nat) (low : Int) (Ns : List Int) (W : World) : Prop where
  b : Below w0.heap.size w0 W
  r : W.ownsRow w0.heap.size 3 1 (.slice (some ⟨g, 0, none⟩) n n) n ((loadC low n Ns).map (Value.int .i64))

theorem LodW.below {w0 : World} {g n : Nat} {low : Int} {Ns : List Int} {W W' : World} (h : LodW w0 g n low Ns W) (hb : Below W.heap.size W W') : LodW w0 g n low Ns W' :=
  ⟨h.b.trans (hb.mono h.b.size), own_kept h.r hb⟩

theorem LodW.lt {w0 : World} {g n : Nat} {low : Int} {Ns : List Int} {W : World} (h : LodW w0 g n low Ns W) : w0.heap.size ≤ g ∧ g < W.heap.size := World.ownsRow.lt h.r g rfl

theorem LodW.step {w0 : World} {g n : Nat} {low : Int} {Ns : List Int} {W : World} {t : Int} {i : Nat} (h : LodW w0 g n low Ns W) (hi : i < n) (h1 : low + i * 1440 ≤ t) (h2 : t < low + (i + 1) * 1440) :
    ∃ x, W.cell? ⟨g, i, none⟩ = some (.int .i64 x) ∧ W.frozen? ⟨g, i, none⟩ = false ∧ (0 ≤ x ∧ x ≤ Ns.length) ∧ LodW w0 g n low (Ns ++ [t]) (W.setCell ⟨g, i, none⟩ (.int .i64 (x + 1))) ∧ Kg g W (W.setCell ⟨g, i, none⟩ (.int .i64 (x + 1))) := by
  have hlen : i < (loadC low n Ns).length := by rw [loadC_len]; exact hi
  refine ⟨(loadC low n Ns)[i], ?_, World.ownsRow.frozenAt h.r i, loadC_le hlen, ⟨h.b.setCell (p := ⟨g, i, none⟩) h.lt.1 _, ?_⟩, Kg.of_grown (World.ownsRow.stored h.r i _).2⟩
  · rw [World.ownsRow.cellAt h.r i (by omega), List.getElem?_map, List.getElem?_eq_getElem hlen, Option.map_some]
  · rw [loadC_snoc hlen h1 h2, List.map_set]
    exact (World.ownsRow.stored h.r i _).1

def cntR (C : List (Int × Int)) (P : List Int) (k : Nat) : List Int := lodR C (P.take k)

theorem cntR_next {C : List (Int × Int)} {P : List Int} {k : Nat} (h : k < P.length) : cntR C P (k + 1) = cntR C P k ++ (if (reallyC C P[k]).2 = false then [(reallyC C P[k]).1] else []) := by
  unfold cntR lodR
  rw [List.take_succ_eq_append_getElem h, List.filter_append, List.map_append]
  by_cases h0 : (reallyC C P[k]).2 = false
  · simp [h0]
  · simp [h0]

theorem cntR_len (C : List (Int × Int)) (P : List Int) (k : Nat) : (cntR C P k).length ≤ P.length := by
  unfold cntR
  have h1 := lodR_len C (P.take k)
  rw [List.length_take] at h1
  omega

theorem EvO.kg {g b o : Nat} {W W' : World} {e : Ev} (h : EvO W b o e) (hk : Kg g W W') (hb : b ≠ g) : EvO W' b o e :=
  ⟨hk.cell hb h.k0, hk.cell hb h.k1, hk.cell hb h.k2, hk.cell hb h.k3, hk.cell hb h.k4, hk.cell hb h.k5, hk.cell hb h.k6, hk.cell hb h.k7, hk.cell hb h.k8, hk.cell hb h.k9, hk.cell hb h.k10, hk.cell hb h.k11, hk.cell hb h.k12, hk.cell hb h.k13, hk.cell hb h.k14, hk.cell hb h.k15, hk.cell hb h.k16⟩

set_option maxRecDepth 100000 in
set_option maxHeartbeats 16000000 in
theorem rload_any (v : Value) (L : List Ev) (y m : Int) (w : World) (hL : EvsR w v L) (hF0 : ∀ e ∈ L, e.F = 0) (hm : Cal.monthB y m = true) (h20 : L.length ≤ 20) :
    Calls Tryz.prog 50 #[v, .int .i64 y, .int .i64 m] w fun e w' => ∃ u, e = .returned u ∧ IntsR w' u (lodV y m L) ∧ Below w.heap.size w w' := by
  obtain ⟨p, cap, rfl, hc1, hc2, hcell⟩ := evsR_open hL
  unfold maxLen at hc2
  obtain ⟨n, hn⟩ : ∃ n : Nat, (n : Int) = Cal.dim y m := ⟨(Cal.dim y m).toNat, by have := Cal.dim_bd y m; omega⟩
  have hnb : 28 ≤ n ∧ n ≤ 31 := by have := Cal.dim_bd y m; omega
  have hd1 : Cal.dateB y m 1 = true := Cal.date_mk hm (by omega) (by omega)
  obtain ⟨fi, hfi⟩ : ∃ fi, fi = Cal.num y m 1 := ⟨_, rfl⟩
  have hfb : 1 ≤ fi ∧ fi ≤ 109573 := by have := Cal.num_bd hd1; omega
  obtain ⟨low, hlow⟩ : ∃ low, low = (fi - 1) * 1440 := ⟨_, rfl⟩
  obtain ⟨hi, hhi⟩ : ∃ hi, hi = low + n * 1440 - 1 := ⟨_, rfl⟩
  have LV := Lib.hid (show lodV y m L = loadC low n (L.flatMap (Ev.lodS low n)) by
    rw [← lodR_eq hF0, show lodLow y m = low by rw [lodLow, ← hfi, hlow], show lodN y m = n by rw [lodN]; omega])
  obtain ⟨PV, hPV⟩ : ∃ z, z = lodV y m L := ⟨_, rfl⟩
  rw [← hPV] at LV ⊢
  have DY := Lib.hid (show Calls Tryz.prog 48 #[.int .i64 y, .int .i64 m] w (fun e w' => e = .returned (.int .i64 n) ∧ w = w') by
    rw [hn]; exact rdays_yes y m w hm)
  have DO := Lib.hid (show ∀ wx, Calls Tryz.prog 117 #[.agg #[.int .i64 y, .int .i64 m, .int .i64 1]] wx (fun e w' => e = .returned (.int .i64 fi) ∧ Below wx.heap.size wx w') from fun wx => by
    rw [hfi]; exact rof_yes y m 1 wx hd1)
  have LO := Lib.hid (show ∀ (k : Nat) (hk : k < L.length) (wx : World), Below w.heap.size w wx → Calls Tryz.prog 118 #[.agg L[k].cells.toArray, .int .i64 low, .int .i64 hi] wx (fun e w' => ∃ u, e = .returned u ∧ (IntsR w' u (evL L[k].T L[k].M L[k].N low hi) ∧ FreshV wx.heap.size u) ∧ Below wx.heap.size wx w') from fun k hk wx hbx => by
    have hr := (hL.2 _ (List.getElem_mem hk)).below hbx
    have hF := evF_facts (hF0 _ (List.getElem_mem hk))
    exact rlocal_own _ _ _ _ _ _ _ _ _ _ _ _ _ _ _ _ _ _ _ _ _ _ _ L[k].C L[k].A low hi wx hr.r hF.ok (by omega))
  have CH := Lib.hid (show ∀ (k : Nat) (hk : k < L.length) (wx : World), Below w.heap.size w wx → Calls Tryz.prog 119 #[.agg L[k].cells.toArray] wx (fun e w' => ∃ u, e = .returned u ∧ IntsR w' u (chgR L[k].T L[k].M L[k].N L[k].C) ∧ Below wx.heap.size wx w') from fun k hk wx hbx => by
    have hr := (hL.2 _ (List.getElem_mem hk)).below hbx
    exact rchg_any _ _ _ _ _ _ _ _ _ _ _ _ _ _ _ _ _ _ _ _ _ _ _ _ _ wx hr.r (evF_facts (hF0 _ (List.getElem_mem hk))))
  have RE := Lib.hid (show ∀ (k : Nat) (hk : k < L.length) (t : Int) (wx : World), Below w.heap.size w wx → Calls Tryz.prog 121 #[.agg L[k].cells.toArray, .int .i64 t] wx (fun e w' => e = .returned (.tuple #[.int .i64 (reallyC L[k].C t).1, .bool (!(reallyC L[k].C t).2)]) ∧ Below wx.heap.size wx w') from fun k hk t wx hbx => by
    have hr := (hL.2 _ (List.getElem_mem hk)).below hbx
    obtain ⟨h1, h2, h3, h4, hM, hN, hC, hA⟩ := hr.r
    have o1 := fun {v : Value} {l : List Int} (h : IntsR wx v l) => show v.oneCell' = true by obtain ⟨_, _, e, _⟩ := intsR_open h; rw [e]; rfl
    have o2 := fun {v : Value} {l : List (Int × Int)} (h : PairsR wx v l) => show v.oneCell' = true by obtain ⟨_, _, e, _⟩ := pairsR_open h; rw [e]; rfl
    exact rreally_any _ _ _ _ _ _ _ _ _ _ _ _ _ _ _ _ _ L[k].mo L[k].da L[k].we L[k].pk L[k].M L[k].N L[k].C L[k].A t wx (o1 h1) (o1 h2) (o2 h3) (o1 h4) (o1 hM) (o1 hN) (by obtain ⟨_, _, e, _⟩ := almsR_open hA; rw [e]; rfl) hC hr.cl)
  have FF := Lib.hid (show ∀ (k : Nat) (hk : k < L.length), (evL L[k].T L[k].M L[k].N low hi).Pairwise (· < ·) ∧ (evL L[k].T L[k].M L[k].N low hi).length ≤ 109673 ∧ (chgR L[k].T L[k].M L[k].N L[k].C).length ≤ 100 ∧ (∀ t ∈ L[k].askd low n, 0 ≤ (reallyC L[k].C t).1 ∧ (reallyC L[k].C t).1 < 157785120) from fun k hk => by
    have h0 := hF0 _ (List.getElem_mem hk)
    have hF := evF_facts h0
    refine ⟨evL_up .., ?_, Nat.le_trans (chgR_len ..) hF.lenC, fun t ht => ?_⟩
    · have h1 := evL_len L[k].T L[k].M L[k].N low hi
      have h2 := Ev.T_len h0
      have h3 := hF.lenM
      omega
    · have ht2 : 0 ≤ t ∧ t < 157785120 := by
        unfold Ev.askd at ht
        rcases (putF_mem _ _ _).1 ht with ht | ht
        · rcases (evL_is.1 ht).1.1 with h | h
          · exact ruleT_time hF.ok h
          · have := timeB_yes (hF.tM t h); omega
        · obtain ⟨⟨c, hc, rfl⟩, -⟩ := (chgR_mem hF.upC (fun c hc => (timeB_yes (hF.tC c hc).1).1)).1 ht
          have := timeB_yes (hF.tC c hc).1; omega
      unfold reallyC
      cases hf : L[k].C.find? (fun c => c.1 == t) with
      | none => simp only; exact ht2
      | some c =>
        have h1 := List.mem_of_find?_eq_some hf
        rcases (hF.tC c h1).2 with h2 | h2
        · simp only; omega
        · have := timeB_yes h2; simp only; omega)
  have LL := Lib.hid (show ∀ (k : Nat), k ≤ L.length → ((L.take k).flatMap (Ev.lodS low n)).length ≤ 3000000 from fun k hk => by
    have h1 : ∀ K : List Ev, (∀ e ∈ K, e.F = 0) → (K.flatMap (Ev.lodS low n)).length ≤ K.length * 109873 := by
      intro K hK
      induction K with
      | nil => simp
      | cons e K ih =>
        have h0 := hK e List.mem_cons_self
        have hF := evF_facts h0
        have i1 := ih fun x hx => hK x (List.mem_cons_of_mem _ hx)
        have i2 := lodR_len e.C (e.askd low n)
        have i3 := putF_len (chgR e.T e.M e.N e.C) (evL e.T e.M e.N low (low + n * 1440 - 1))
        have i4 := evL_len e.T e.M e.N low (low + n * 1440 - 1)
        have i5 := Ev.T_len h0
        have i6 := hF.lenM
        have i7 := Nat.le_trans (chgR_len e.T e.M e.N e.C) hF.lenC
        have i8 : (e.lodS low n).length ≤ 109873 := by
          unfold Ev.lodS
          unfold Ev.askd at i2 ⊢
          omega
        rw [List.flatMap_cons, List.length_append, List.length_cons]
        omega
    have h2 := h1 (L.take k) fun e he => hF0 e (List.mem_of_mem_take he)
    rw [List.length_take] at h2
    omega)
  have RD := Lib.hid (show ∀ (k : Nat) (hk : k < L.length) (wx : World), Below w.heap.size w wx → L[k].Rd wx from fun k hk wx hbx => (hL.2 _ (List.getElem_mem _)).below hbx)
  have HC := Lib.hid hcell
  have LW := Lib.hid hlow
  have HH := Lib.hid hhi
  have lowb : 0 ≤ low ∧ low ≤ 157783680 := by omega
  obtain ⟨len, hlen⟩ : ∃ n, n = L.length := ⟨_, rfl⟩
  have NL := Lib.hid hlen
  rw [← hlen] at hc1 h20 ⊢
  clear hL hF0 hcell hm hn hd1 hfi hPV hlen hlow hhi
  go_enter Tryz.func50, Tryz.ntmps50
  go_upto_region 1 with fail
  go_cut [7] (fun s7 wx => ∃ g : Nat, s7 = .slice (some ⟨g, 0, none⟩) n n ∧ LodW w g n low [] wx)
  case first => as_aux_lemma =>
    obtain ⟨i0, hi0, hz0, hz1, hz2⟩ := info_parts intInfoP
    go_wp2_with fail
    refine DY.out.mono ?_; rintro e w' ⟨rfl, rfl⟩
    go_wp2_with (refine wpList_make_full _ rfl _ _ _ rfl w.heap.size 3 i0 (.int .i64 0) 1 Tryz.underlying22 hi0 hz0 hz1 .i64 .i64 n n n rfl rfl rfl rfl (by rw [hz2]; omega) (by unfold maxLen; omega) (Nat.le_refl _) ?_; intro w4 hown hgr)
    have LS := Lib.hid (show LodW w w.heap.size n low [] w4 from ⟨⟨hgr.os, hgr.tape, hgr.output, hgr.size, fun k hk => hgr.block k hk (by simp)⟩, by
      have e1 : (madeCells (Value.int .i64 0).cells (n * 1)).toList = ((loadC low n []).map (Value.int .i64)) := by
        rw [loadC_nil, List.map_replicate, Nat.mul_one]
        exact toList_madeCells_one _ _
      rw [← e1]; exact hown⟩)
    clear hown hgr
    go_wp2
    go_meet
    exact ⟨_, rfl, LS.out⟩
  case rest =>
  obtain ⟨g, rfl, hls⟩ := hcut
  obtain ⟨w1, rfl⟩ : ∃ x, x = wc := ⟨_, rfl⟩
  have LS1 := Lib.hid hls
  clear hls DY
  go_upto_region 2 with fail
  go_cut [8] (fun s8 wx => s8 = .int .i64 fi ∧ Below w1.heap.size w1 wx)
  case first => as_aux_lemma =>
    go_wp2_with fail
    refine (DO.out w1).mono ?_; rintro e w2 ⟨rfl, hb⟩
    have HB := Lib.hid hb
    clear hb
    go_wp2
    go_meet
    exact ⟨rfl, HB.out⟩
  case rest =>
  obtain ⟨rfl, hb2⟩ := hcut
  obtain ⟨w2, rfl⟩ : ∃ x, x = wc := ⟨_, rfl⟩
  have LS2 := Lib.hid (LS1.out.below hb2)
  clear hb2 DO
  go_upto_region 3 with fail
  have e1 : IntKind.i64.wrap (fi - 1) = fi - 1 := IntWalk.i64_in _ (by omega)
  have e2 : (fi - 1) * 1440 = low := LW.out.symm
  have e3 : IntKind.i64.wrap low = low := IntWalk.i64_in _ (by omega)
  go_upto_region 4 with fail
  have e4 : IntKind.i64.wrap ((n : Int) * 1440) = (n : Int) * 1440 := IntWalk.i64_in _ (by omega)
  have e5 : IntKind.i64.wrap (low + (n : Int) * 1440) = low + (n : Int) * 1440 := IntWalk.i64_in _ (by omega)
  have e6 : IntKind.i64.wrap (low + (n : Int) * 1440 - 1) = low + (n : Int) * 1440 - 1 := IntWalk.i64_in _ (by omega)
  have e7 : low + (n : Int) * 1440 - 1 = hi := HH.out.symm
  go_upto_region 5 with fail
  clear e1 e2 e3 e4 e5 e6 e7
  go_wp2_with fail
  go_loopg [11] len (fun gg iv wr => ∃ (k : Nat) (Ns : List Int), k ≤ len ∧ iv = .int .i64 k ∧ gg = len - k ∧ Hid (Ns = (L.take k).flatMap (Ev.lodS low n)) ∧ LodW w g n low Ns wr)
  case atStart => exact ⟨0, [], Nat.zero_le _, rfl, rfl, Lib.hid rfl, LS2.out⟩
  case round => as_aux_lemma =>
    obtain ⟨k, Ns, hk, rfl, hg, HN, hls⟩ := hrel
    obtain ⟨w1, rfl⟩ : ∃ x, x = wr := ⟨_, rfl⟩
    have G := Lib.hid hg; have LS := Lib.hid hls
    have NLn := Lib.hid (show Ns.length ≤ 3000000 by rw [HN.out]; exact LL.out k (by rw [← NL.out]; exact hk))
    clear hg hls
    by_cases hlt : k < len
    · have hk1 : k < L.length := by rw [← NL.out]; exact hlt
      obtain ⟨lb, lo, rfl, hcs⟩ := HC.out (by omega)
      have eo0 := hcs k hk1
      have hlb : lb < w.heap.size := World.block_lt_of_cell? w _ eo0.k0
      have LBG := Lib.hid (show lb ≠ g by have := LS.out.lt; omega)
      have eo := eo0.below LS.out.b
      have LO1 := Lib.hid (LO.out k hk1)
      have CH1 := Lib.hid (CH.out k hk1)
      have RE1 := Lib.hid (RE.out k hk1)
      have FF1 := Lib.hid (FF.out k hk1)
      have rd := RD.out k hk1 _ LS.out.b
      have TN := Lib.hid (show (L.take (k + 1)).flatMap (Ev.lodS low n) = (L.take k).flatMap (Ev.lodS low n) ++ L[k].lodS low n by rw [List.take_succ_eq_append_getElem hk1, List.flatMap_append]; simp)
      have LX1 := Lib.hid (show L[k].lodS low n = cntR L[k].C (L[k].askd low n) (L[k].askd low n).length by rw [cntR, List.take_length]; rfl)
      have PE := Lib.hid (show (chgR L[k].T L[k].M L[k].N L[k].C).foldl putL (evL L[k].T L[k].M L[k].N low hi) = L[k].askd low n by rw [Ev.askd, HH.out])
      obtain ⟨Y, hY⟩ : ∃ Y, Y = L[k].lodS low n := ⟨_, rfl⟩
      rw [← hY] at LX1 TN
      obtain ⟨P, hP⟩ : ∃ P, P = L[k].askd low n := ⟨_, rfl⟩
      rw [← hP] at LX1 PE FF1
      obtain ⟨e, he⟩ : ∃ e, e = L[k] := ⟨_, rfl⟩
      rw [← he] at eo LO1 CH1 RE1 FF1 LX1 PE rd
      obtain ⟨X, hX⟩ : ∃ X, X = evL e.T e.M e.N low hi := ⟨_, rfl⟩
      rw [← hX] at LO1 FF1 PE
      obtain ⟨K, hK⟩ : ∃ K, K = chgR e.T e.M e.N e.C := ⟨_, rfl⟩
      rw [← hK] at CH1 FF1 PE
      have EO := Lib.hid eo
      obtain ⟨nm, tx, st, ln, rp, fr, ev, ct, ti, vm, vd, vw, vp, vM, vN, vC, vA, mo, da, we, pk, M, N, C, A⟩ := e
      simp only [Ev.cells] at LO1 CH1 RE1 LX1
      simp only at FF1
      obtain ⟨hR0, hnm, htx, hcl⟩ := rd
      simp only at hR0
      obtain ⟨h1, h2, h3, h4, hM, hN, hC, hA⟩ := hR0
      obtain ⟨am, km, rfl, -, -, -⟩ := intsR_open h1
      obtain ⟨ad, kd, rfl, -, -, -⟩ := intsR_open h2
      obtain ⟨aw, kw, rfl, -, -, -⟩ := pairsR_open h3
      obtain ⟨ap, kp, rfl, -, -, -⟩ := intsR_open h4
      obtain ⟨aM, kM, rfl, -, -, -⟩ := intsR_open hM
      obtain ⟨aN, kN, rfl, -, -, -⟩ := intsR_open hN
      obtain ⟨aC, kC, rfl, -, -, -⟩ := pairsR_open hC
      obtain ⟨aA, kA, rfl, -, -, -⟩ := almsR_open hA
      obtain ⟨ux, lx, lk, ft⟩ := FF1.out
      have UX := Lib.hid ux; have FT := Lib.hid ft
      have i0 : (0 : Int) ≤ (k : Int) := Int.natCast_nonneg _
      have i2 : (k : Int) < (len : Int) := by omega
      obtain ⟨snm, hsnm⟩ : ∃ s, s = bs nm := ⟨_, rfl⟩
      obtain ⟨stx, hstx⟩ : ∃ s, s = bs tx := ⟨_, rfl⟩
      obtain ⟨q0, q1, q2, q3, q4, q5, q6, q7, q8, q9, q10, q11, q12, q13, q14, q15, q16⟩ := EO.out
      simp only at q0 q1 q2 q3 q4 q5 q6 q7 q8 q9 q10 q11 q12 q13 q14 q15 q16
      rw [← hsnm] at q0 LO1 CH1 RE1; rw [← hstx] at q1 LO1 CH1 RE1
      have SNM := Lib.hid hsnm; have STX := Lib.hid hstx
      clear he hX hK hY hP h1 h2 h3 h4 hM hN hC hA hnm htx hcl hsnm hstx hcs eo0 FF1 ux ft eo
      go_upto_region 8 with fail
      go_cut [12] (fun s12 wx => (∃ u, s12 = u ∧ IntsR wx u X ∧ FreshV w1.heap.size u) ∧ Below w1.heap.size w1 wx)
      case first => as_aux_lemma =>
        go_wp2_with fail
        refine (LO1.out w1 LS.out.b).mono ?_; rintro e w2 ⟨u, rfl, ⟨hu, hf⟩, hb⟩
        have HU := Lib.hid hu; have HF := Lib.hid hf; have HB := Lib.hid hb
        clear hu hf hb q0 q1 q2 q3 q4 q5 q6 q7 q8 q9 q10 q11 q12 q13 q14 q15 q16
        go_wp2
        go_meet
        exact ⟨⟨_, rfl, HU.out, HF.out⟩, HB.out⟩
      case rest =>
      obtain ⟨⟨u2, rfl, hu2, hf2⟩, hb2⟩ := hcut
      obtain ⟨w2, rfl⟩ : ∃ x, x = wc := ⟨_, rfl⟩
      have LS2 := Lib.hid (LS.out.below hb2)
      have EO2 := Lib.hid (EO.out.below hb2)
      have V2 := Lib.hid hu2; have F2 := Lib.hid hf2
      have S12 := Lib.hid hb2.size
      clear hu2 hf2 hb2 q0 q1 q2 q3 q4 q5 q6 q7 q8 q9 q10 q11 q12 q13 q14 q15 q16 LO1
      obtain ⟨q0, q1, q2, q3, q4, q5, q6, q7, q8, q9, q10, q11, q12, q13, q14, q15, q16⟩ := EO2.out
      simp only at q0 q1 q2 q3 q4 q5 q6 q7 q8 q9 q10 q11 q12 q13 q14 q15 q16
      rw [← SNM.out] at q0; rw [← STX.out] at q1
      go_upto_region 9 with fail
      go_cut [13] (fun s13 wx => (∃ u, s13 = u ∧ IntsR wx u K) ∧ Below w2.heap.size w2 wx)
      case first => as_aux_lemma =>
        go_wp2_with fail
        refine (CH1.out w2 LS2.out.b).mono ?_; rintro e w3 ⟨u, rfl, hu, hb⟩
        have HU := Lib.hid hu; have HB := Lib.hid hb
        clear hu hb q0 q1 q2 q3 q4 q5 q6 q7 q8 q9 q10 q11 q12 q13 q14 q15 q16
        go_wp2
        go_meet
        exact ⟨⟨_, rfl, HU.out⟩, HB.out⟩
      case rest =>
      obtain ⟨⟨u3, rfl, hu3⟩, hb3⟩ := hcut
      obtain ⟨w3, rfl⟩ : ∃ x, x = wc := ⟨_, rfl⟩
      have LS3 := Lib.hid (LS2.out.below hb3)
      have EO3 := Lib.hid (EO2.out.below hb3)
      have V3 := Lib.hid (V2.out.below hb3)
      have S13 := Lib.hid (Nat.le_trans S12.out hb3.size)
      obtain ⟨ka, kc, rfl, -, -, hks⟩ := intsR_open hu3
      have HK := Lib.hid hks
      clear hb3 hu3 hks CH1 V2 q0 q1 q2 q3 q4 q5 q6 q7 q8 q9 q10 q11 q12 q13 q14 q15 q16 EO2 LS2
      go_upto_block 2 with fail
      go_cut [12] (fun s12 wx => (∃ u, s12 = u ∧ IntsR wx u P ∧ FreshV w1.heap.size u) ∧ Below w3.heap.size w3 wx)
      case first => as_aux_lemma =>
        go_wp2_with fail
        go_loopg [12, 14] K.length (fun gg lv iv wr => ∃ j : Nat, j ≤ K.length ∧ iv = .int .i64 j ∧ gg = K.length - j ∧ (IntsR wr lv ((K.take j).foldl putL X) ∧ FreshV w1.heap.size lv) ∧ Below w3.heap.size w3 wr)
        case atStart => exact ⟨0, Nat.zero_le _, rfl, rfl, ⟨by simpa using V3.out, F2.out⟩, Below.refl _ _⟩
        case round =>
          obtain ⟨j, hj, rfl, hg2, ⟨hl, hfl⟩, hb⟩ := hrel
          have G2 := Lib.hid hg2; have BR := Lib.hid hb
          have FL := Lib.hid hfl
          clear hg2 hfl
          by_cases hlt2 : j < K.length
          · obtain ⟨kb, ko, rfl, hcs⟩ := HK.out (by omega)
            have c0 := cell_below hb (hcs j hlt2)
            have HT := Lib.hid (show (K.take (j + 1)).foldl putL X = putL ((K.take j).foldl putL X) K[j] by rw [List.take_succ_eq_append_getElem hlt2, List.foldl_append]; rfl)
            obtain ⟨x, hx⟩ : ∃ x, x = K[j] := ⟨_, rfl⟩
            rw [← hx] at c0 HT
            have PC := Lib.hid (rput_own _ ((K.take j).foldl putL X) x wr hl (putF_up _ _ UX.out) (by have h1 := putF_len (K.take j) X; have h2 := List.length_take_le j K; omega))
            rw [← HT.out] at PC
            have SW := Lib.hid (Nat.le_trans S13.out hb.size)
            have j0 : (0 : Int) ≤ (j : Int) := Int.natCast_nonneg _
            have j2 : (j : Int) < (K.length : Int) := by omega
            clear hx hb hl hcs HT
            go_wp2_with fail
            refine PC.out.mono ?_; rintro e w5 ⟨u, rfl, ⟨hu, hf⟩, hb5⟩
            have HU := Lib.hid hu
            have HF := Lib.hid (show FreshV w1.heap.size u from by
              rcases hf with rfl | hf
              · exact FL.out
              · exact fun b hb => Nat.le_trans SW.out (hf b hb))
            have HB := Lib.hid (BR.out.trans (hb5.mono BR.out.size))
            clear hu hf hb5 c0
            go_wp2
            go_roundg (K.length - (j + 1))
            case measure => rw [G2.out]; omega
            case rel => exact ⟨j + 1, by omega, by go_num, rfl, ⟨HU.out, HF.out⟩, HB.out⟩
          · obtain rfl : j = K.length := by omega
            have j2 : ¬ ((K.length : Nat) : Int) < (K.length : Int) := by omega
            have e1 : K.take K.length = K := List.take_length
            rw [e1, PE.out] at hl
            have HL := Lib.hid hl
            clear e1 hl hb
            go_wp2
            go_meet
            exact ⟨⟨_, rfl, HL.out, FL.out⟩, BR.out⟩
      case rest =>
      obtain ⟨⟨u4, rfl, hu4, hf4⟩, hb4⟩ := hcut
      obtain ⟨w4, rfl⟩ : ∃ x, x = wc := ⟨_, rfl⟩
      have LS4 := Lib.hid (LS3.out.below hb4)
      have EO4 := Lib.hid (EO3.out.below hb4)
      obtain ⟨pa, pc, rfl, -, -, hps⟩ := intsR_open hu4
      have XC := Lib.hid (show 0 < P.length → ∃ gx po, pa = some ⟨gx, po, none⟩ ∧ gx ≠ g ∧ ∀ (j : Nat) (hj : j < P.length), w4.cell? ⟨gx, po + j, none⟩ = some (.int .i64 P[j]) from fun hp => by
        obtain ⟨gx, po, e1, q⟩ := hps hp
        subst e1
        refine ⟨gx, po, rfl, ?_, q⟩
        have h1 := hf4 gx rfl
        have h2 := LS.out.lt
        omega)
      have pl : P.length ≤ 109873 := by
        have h1 := putF_len K X
        rw [PE.out] at h1; omega
      obtain ⟨xl, hxl⟩ : ∃ xl, xl = P.length := ⟨_, rfl⟩
      have XL := Lib.hid hxl
      rw [← hxl] at pl ⊢
      clear hu4 hf4 hb4 hps hxl V3 F2 HK EO3 LS3 PE UX
      go_upto_block 4 with fail
      go_wp2_with fail
      go_loopg [15] xl (fun gg iv wr => ∃ j : Nat, j ≤ xl ∧ iv = .int .i64 j ∧ gg = xl - j ∧ LodW w g n low (Ns ++ cntR C P j) wr ∧ Kg g w4 wr)
      case atStart => exact ⟨0, Nat.zero_le _, rfl, rfl, by simpa [cntR, lodR] using LS4.out, Kg.refl _ _⟩
      case round => as_aux_lemma =>
        obtain ⟨j, hj, rfl, hg2, hls, hkg⟩ := hrel
        obtain ⟨w5, rfl⟩ : ∃ x, x = wr := ⟨_, rfl⟩
        have G2 := Lib.hid hg2; have LS5 := Lib.hid hls; have KG := Lib.hid hkg
        clear hg2 hls hkg
        by_cases hlt2 : j < xl
        · have hj1 : j < P.length := by rw [← XL.out]; exact hlt2
          obtain ⟨gx, po, rfl, hgx, q⟩ := XC.out (by omega)
          have c0 := KG.out.cell (p := ⟨gx, po + j, none⟩) hgx (q j hj1)
          have EO5 := Lib.hid (EO4.out.kg KG.out LBG.out)
          have SN := Lib.hid (cntR_next (C := C) hj1)
          have nl : (Ns ++ cntR C P j).length ≤ 1000000000 := by
            have h1 := cntR_len C P j
            have h2 := NLn.out
            rw [← XL.out] at h1
            rw [List.length_append]; omega
          have xb := FT.out P[j] (List.getElem_mem _)
          obtain ⟨x, hx⟩ : ∃ x, x = P[j] := ⟨_, rfl⟩
          rw [← hx] at c0 SN xb
          have j0 : (0 : Int) ≤ (j : Int) := Int.natCast_nonneg _
          have j2 : (j : Int) < (xl : Int) := by omega
          have RX := Lib.hid (RE1.out x)
          obtain ⟨r1, hr1⟩ : ∃ z, z = (reallyC C x).1 := ⟨_, rfl⟩
          obtain ⟨r2, hr2⟩ : ∃ z, z = (reallyC C x).2 := ⟨_, rfl⟩
          rw [← hr1, ← hr2] at RX SN
          rw [← hr1] at xb
          obtain ⟨q0, q1, q2, q3, q4, q5, q6, q7, q8, q9, q10, q11, q12, q13, q14, q15, q16⟩ := EO5.out
          simp only at q0 q1 q2 q3 q4 q5 q6 q7 q8 q9 q10 q11 q12 q13 q14 q15 q16
          rw [← SNM.out] at q0; rw [← STX.out] at q1
          clear hx q hr1 hr2
          go_upto_region 17 with fail
          go_cut [16, 17] (fun s16 s17 wx => s16 = .int .i64 r1 ∧ s17 = .bool (!r2) ∧ Below w5.heap.size w5 wx)
          case first => as_aux_lemma =>
            go_region_held3 (fun w' => w'.cell? ⟨gx, po + j, none⟩ = some (.int .i64 x) ∧ w'.cell? ⟨lb, lo + k * 17, none⟩ = some (.string snm) ∧ w'.cell? ⟨lb, lo + k * 17 + 1, none⟩ = some (.string stx) ∧ w'.cell? ⟨lb, lo + k * 17 + 2, none⟩ = some (.int .i64 st) ∧ w'.cell? ⟨lb, lo + k * 17 + 3, none⟩ = some (.int .i64 ln) ∧ w'.cell? ⟨lb, lo + k * 17 + 4, none⟩ = some (.bool rp) ∧ w'.cell? ⟨lb, lo + k * 17 + 5, none⟩ = some (.int .i64 fr) ∧ w'.cell? ⟨lb, lo + k * 17 + 6, none⟩ = some (.int .i64 ev) ∧ w'.cell? ⟨lb, lo + k * 17 + 7, none⟩ = some (.int .i64 ct) ∧ w'.cell? ⟨lb, lo + k * 17 + 8, none⟩ = some (.int .i64 ti) ∧ w'.cell? ⟨lb, lo + k * 17 + 9, none⟩ = some (.slice am mo.length km) ∧ w'.cell? ⟨lb, lo + k * 17 + 10, none⟩ = some (.slice ad da.length kd) ∧ w'.cell? ⟨lb, lo + k * 17 + 11, none⟩ = some (.slice aw we.length kw) ∧ w'.cell? ⟨lb, lo + k * 17 + 12, none⟩ = some (.slice ap pk.length kp) ∧ w'.cell? ⟨lb, lo + k * 17 + 13, none⟩ = some (.slice aM M.length kM) ∧ w'.cell? ⟨lb, lo + k * 17 + 14, none⟩ = some (.slice aN N.length kN) ∧ w'.cell? ⟨lb, lo + k * 17 + 15, none⟩ = some (.slice aC C.length kC) ∧ w'.cell? ⟨lb, lo + k * 17 + 16, none⟩ = some (.slice aA A.length kA))
              (first | (refine ⟨?_, ?_, ?_, ?_, ?_, ?_, ?_, ?_, ?_, ?_, ?_, ?_, ?_, ?_, ?_, ?_, ?_, ?_⟩ <;> assumption) | (refine ⟨?_, ?_, ?_, ?_, ?_, ?_, ?_, ?_, ?_, ?_, ?_, ?_, ?_, ?_, ?_, ?_, ?_, ?_⟩ <;> (first | exact cell_below hb (by assumption))))
              ((go_at_call 121; refine (RX.out _ (LS5.out.b.trans (Below.mono (Below.refl _ _).drew LS5.out.b.size))).mono ?_; rintro e w7 ⟨rfl, hb⟩))
            have HB := Lib.hid (below_next (Below.refl _ _).drew hb)
            clear hb c0 q0 q1 q2 q3 q4 q5 q6 q7 q8 q9 q10 q11 q12 q13 q14 q15 q16
            go_wp2
            go_meet
            exact ⟨rfl, rfl, HB.out⟩
          case rest => as_aux_lemma =>
          obtain ⟨rfl, rfl, hb6⟩ := hcut
          obtain ⟨w6, rfl⟩ : ∃ x, x = wc := ⟨_, rfl⟩
          have LS6 := Lib.hid (LS5.out.below hb6)
          have K6 := Lib.hid (KG.out.trans (Kg.of_below hb6))
          clear hb6 c0 RX q0 q1 q2 q3 q4 q5 q6 q7 q8 q9 q10 q11 q12 q13 q14 q15 q16
          cases r2
          rotate_left
          · rw [if_neg (by simp), List.append_nil] at SN
            go_wp2
            go_roundg (xl - (j + 1))
            case measure => rw [G2.out]; omega
            case rel => exact ⟨j + 1, by omega, by go_num, rfl, by rw [SN.out]; exact LS6.out, K6.out⟩
          rw [if_pos rfl] at SN
          by_cases g1 : low ≤ r1
          rotate_left
          · have d1 : decide (low ≤ r1) = false := decide_eq_false g1
            have NX := Lib.hid (show LodW w g n low (Ns ++ cntR C P (j + 1)) w6 by rw [SN.out, ← List.append_assoc]; exact ⟨LS6.out.b, by rw [loadC_out (.inl (by omega))]; exact LS6.out.r⟩)
            clear g1
            go_wp2
            go_roundg (xl - (j + 1))
            case measure => rw [G2.out]; omega
            case rel => exact ⟨j + 1, by omega, by go_num, rfl, NX.out, K6.out⟩
          have d1 : decide (low ≤ r1) = true := decide_eq_true g1
          by_cases g2 : r1 ≤ hi
          rotate_left
          · have d2 : decide (r1 ≤ hi) = false := decide_eq_false g2
            have NX := Lib.hid (show LodW w g n low (Ns ++ cntR C P (j + 1)) w6 by rw [SN.out, ← List.append_assoc]; exact ⟨LS6.out.b, by rw [loadC_out (.inr (by have := HH.out; omega))]; exact LS6.out.r⟩)
            clear g1 g2
            go_wp2
            go_roundg (xl - (j + 1))
            case measure => rw [G2.out]; omega
            case rel => exact ⟨j + 1, by omega, by go_num, rfl, NX.out, K6.out⟩
          have d2 : decide (r1 ≤ hi) = true := decide_eq_true g2
          obtain ⟨i, hi0⟩ : ∃ i : Nat, (i : Int) = (r1 - low) / 1440 := ⟨((r1 - low) / 1440).toNat, by omega⟩
          have hin : i < n := by have := HH.out; omega
          obtain ⟨z, z0, z1, zb, zl, zk⟩ := LS6.out.step hin (t := r1) (by omega) (by omega)
          have NX := Lib.hid (show LodW w g n low (Ns ++ cntR C P (j + 1)) (w6.setCell ⟨g, i, none⟩ (.int .i64 (z + 1))) by rw [SN.out, ← List.append_assoc]; exact zl)
          have NK := Lib.hid (K6.out.trans zk)
          have m1 : IntKind.i64.wrap (r1 - low) = r1 - low := IntWalk.i64_in _ (by omega)
          have m2 : (r1 - low).tdiv 1440 = (i : Int) := by rw [hi0]; exact Int.tdiv_eq_ediv_of_nonneg (by omega)
          have m3 : (r1 - low) / 1440 = (i : Int) := hi0.symm
          have m4 : IntKind.i64.wrap (i : Int) = (i : Int) := IntWalk.i64_in _ (by omega)
          have m5 : (0 : Int) ≤ (i : Int) := Int.natCast_nonneg _
          have m6 : (i : Int) < (n : Int) := by omega
          have m7 : IntKind.i64.wrap (z + 1) = z + 1 := IntWalk.i64_in _ (by omega)
          have lw : -9223372036854775808 ≤ r1 - low ∧ r1 - low ≤ 9223372036854775807 := by omega
          clear g1 g2 hi0 zl zk
          go_wp2
          go_roundg (xl - (j + 1))
          case measure => rw [G2.out]; omega
          case rel => exact ⟨j + 1, by omega, by go_num, rfl, NX.out, NK.out⟩
        · obtain rfl : j = xl := by omega
          have j2 : ¬ (j : Int) < (j : Int) := by omega
          have i5 : IntKind.i64.wrap ((k : Int) + 1) = (k : Int) + 1 := IntWalk.i64_in _ (by omega)
          have RN := Lib.hid (show Ns ++ cntR C P j = (L.take (k + 1)).flatMap (Ev.lodS low n) by rw [TN.out, ← HN.out, LX1.out, XL.out])
          go_wp2
          go_roundg (len - (k + 1))
          case measure => rw [G.out]; omega
          case rel => exact ⟨k + 1, _, by omega, by go_num, rfl, RN, LS5.out⟩
    · obtain rfl : k = len := by omega
      have i2 : ¬ (k : Int) < (k : Int) := by omega
      have e1 : L.take k = L := List.take_of_length_le (by rw [← NL.out]; exact Nat.le_refl _)
      rw [e1] at HN
      have IR := Lib.hid (show IntsR w1 (.slice (some ⟨g, 0, none⟩) n n) PV by
        have h := LS.out.r
        rw [HN.out, ← LV.out] at h
        have h2 : PV.length = n := by rw [LV.out, loadC_len]
        exact intsR_of_owns (show w1.ownsRow w.heap.size 3 1 (.slice (some ⟨g, 0, none⟩) n n) PV.length _ by rw [h2]; exact h))
      clear e1
      go_wp2
      go_ret
      exact ⟨_, rfl, IR.out, LS.out.b⟩

end Go.Proofs.YtgelojhpanbnaaaGreatDoor
