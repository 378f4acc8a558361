/- The law TopDays: an event that repeats is at its minute on each day of its rule, in a zone without shifts; as many as its month's load tells: the walk. Condition: the table of months lies as it is laid. -/
import Derived.Test.YtgelojhpanbnaaaGreatDoorQ41
import Derived.Test.YtgelojhpanbnaaaGreatDoorTimH
import Derived.Test.YtgelojhpanbnaaaGreatDoorQ18
import Derived.Test.YtgelojhpanbnaaaGreatDoorQ20
import Derived.Test.YtgelojhpanbnaaaGreatDoorQ14
import Derived.Deep.RegionHeld3
import Derived.StillTailTactics
namespace Go.Proofs.YtgelojhpanbnaaaGreatDoor
open Go.RowKit Go.Shelf
set_option linter.unusedSimpArgs false
set_option linter.unusedVariables false
attribute [local go_sem] Oper.semAt_some

/-- an event's block, whole. -/
def BlkE (W : World) (eb : Nat) (cs : Array Value) : Prop := W.heap[eb]? = some (.cells cs 29 (0, 0))

theorem BlkE.below {W W' : World} {eb : Nat} {cs : Array Value} (h : BlkE W eb cs) (hb : Below W.heap.size W W') : BlkE W' eb cs :=
  (hb.block eb (Array.getElem?_eq_some_iff.1 h).1).trans h

theorem BlkE.there {W : World} {eb : Nat} {cs : Array Value} {i : Nat} {v : Value} (h : BlkE W eb cs) (hv : cs[i]? = some v) : W.cell? ⟨eb, i, none⟩ = some v ∧ W.frozen? ⟨eb, i, none⟩ = false := by
  unfold BlkE at h
  refine ⟨?_, ?_⟩
  · simp [World.cell?, h, hv]
  · simp [World.frozen?, h]

theorem BlkE.set {W : World} {eb : Nat} {cs : Array Value} (i : Nat) (v : Value) (h : BlkE W eb cs) : BlkE (W.setCell ⟨eb, i, none⟩ v) eb (cs.setIfInBounds i v) := heap_setCell_same W eb i _ _ v h

theorem BlkE.ev {W : World} {eb : Nat} {nm tx : ByteArray} {st ln : Int} {rp : Bool} {fr ev ct ti : Int} {vm vd vw vp vM vN vC vA : Value} (h : BlkE W eb #[.string nm, .string tx, .int .i64 st, .int .i64 ln, .bool rp, .int .i64 fr, .int .i64 ev, .int .i64 ct, .int .i64 ti, vm, vd, vw, vp, vM, vN, vC, vA]) : EvC W eb nm tx st ln rp fr ev ct ti vm vd vw vp vM vN vC vA :=
  ⟨(h.there (i := 0) rfl).1, (h.there (i := 1) rfl).1, (h.there (i := 2) rfl).1, (h.there (i := 3) rfl).1, (h.there (i := 4) rfl).1, (h.there (i := 5) rfl).1, (h.there (i := 6) rfl).1, (h.there (i := 7) rfl).1, (h.there (i := 8) rfl).1, (h.there (i := 9) rfl).1, (h.there (i := 10) rfl).1, (h.there (i := 11) rfl).1, (h.there (i := 12) rfl).1, (h.there (i := 13) rfl).1, (h.there (i := 14) rfl).1, (h.there (i := 15) rfl).1, (h.there (i := 16) rfl).1⟩

/-- a month from 1901 to 2198. -/
theorem top_month {y m : Int} (hm : Cal.monthB y m = true) (h1 : 1901 ≤ y) (h2 : y ≤ 2198) : 366 ≤ Cal.num y m 1 ∧ Cal.num y m 1 + Cal.dim y m ≤ 109209 := by
  have hd := Cal.dim_bd y m
  have a := Cal.num_bd (Cal.date_mk hm (show (1 : Int) ≤ 1 by omega) (show (1 : Int) ≤ Cal.dim y m by omega))
  have b := Cal.num_bd (Cal.date_mk hm (show (1 : Int) ≤ Cal.dim y m by omega) (Int.le_refl _))
  have c : Cal.num y m (Cal.dim y m) = Cal.num y m 1 + Cal.dim y m - 1 := by unfold Cal.num; omega
  have e : 365 ≤ Cal.ahead y ∧ Cal.ahead (y + 1) ≤ 109208 := by unfold Cal.ahead; omega
  omega

theorem top_sum {L : List Int} (h : ∀ x ∈ L, 0 ≤ x) : ∀ k, 0 ≤ (L.take k).sum ∧ (L.take k).sum ≤ L.sum := by
  have nn : ∀ K : List Int, (∀ x ∈ K, 0 ≤ x) → 0 ≤ K.sum := by
    intro K hK
    induction K with
    | nil => simp
    | cons x K ih =>
      rw [List.sum_cons]
      have := hK x List.mem_cons_self
      have := ih fun z hz => hK z (List.mem_cons_of_mem _ hz)
      omega
  intro k
  have h1 := nn (L.take k) fun x hx => h x (List.mem_of_mem_take hx)
  have h2 := nn (L.drop k) fun x hx => h x (List.mem_of_mem_drop hx)
  have h3 : L.sum = (L.take k).sum + (L.drop k).sum := by rw [← List.sum_append, List.take_append_drop]
  omega

theorem btwN_any (fr ev ct ti st fo up : Int) (vm vd vw vp : Value) (mo da : List Int) (we : List (Int × Int)) (pk : List Int) (w : World) (hw : Months w) (h1 : IntsR w vm mo) (h2 : IntsR w vd da) (h3 : PairsR w vw we) (h4 : IntsR w vp pk) (hF : ruleF fr ev ct ti mo da we pk = 0) {y mm d : Int} (hd : Cal.dateB y mm d = true) (hst : Cal.num y mm d = st) :
    Calls Tryz.prog 16 #[.agg #[.int .i64 fr, .int .i64 ev, .int .i64 ct, .int .i64 ti, vm, vd, vw, vp], .int .i64 st, .int .i64 fo, .int .i64 up] w
      fun e w' => ∃ v, e = .returned (.tuple #[v, errV (fullF (btwL (eachL fr ev ct ti y mm d mo da we pk st) fo up))]) ∧ (IntsR w' v (cutL (btwL (eachL fr ev ct ti y mm d mo da we pk st) fo up)) ∧ FreshV w.heap.size v) ∧ Below w.heap.size w w' :=
  (callsIn_wide (n := 10)).1 (sbetween_in 9 fr ev ct ti y mm d st fo up vm vd vw vp mo da we pk w hw h1 h2 h3 h4 hd hst hF)

theorem Kg.set (W : World) (eb i : Nat) (v : Value) : Kg eb W (W.setCell ⟨eb, i, none⟩ v) :=
  ⟨by simp, fun k _ hk => heap_setCell_other W ⟨eb, i, none⟩ k v (fun e => hk (by simpa using e))⟩

/-- the days that the law asks of, and what follows for its calls. -/
structure TopF (st ln fr ev ct ti : Int) (mo da : List Int) (we : List (Int × Int)) (pk : List Int) (ah fi : Int) (n : Nat) (X : List Int) : Prop where
  btw : ∀ (y0 m0 d0 : Int), Cal.dateB y0 m0 d0 = true → Cal.num y0 m0 d0 = st / 1440 + 1 → btwL (eachL fr ev ct ti y0 m0 d0 mo da we pk (st / 1440 + 1)) fi (fi + n - 1) = X
  len : X.length ≤ n
  mem : ∀ d ∈ X, fi ≤ d ∧ d ≤ fi + n - 1
  tms : tmsOf ah [] (ruleT true st fr ev ct ti mo da we pk) [] [] [] ln ((fi - 1) * 1440 - ah) ((fi - 1) * 1440 - ah + n * 1440) = X.map (fun d => (kkT (st % 1440) d, kkT (st % 1440) d - ah))
  evl : evL (ruleT true st fr ev ct ti mo da we pk) [] [] ((fi - 1) * 1440) ((fi - 1) * 1440 + n * 1440 - 1) = X.map (kkT (st % 1440))
  up : X.Pairwise (· < ·)

theorem top_plain {nm tx : List UInt8} {st ln : Int} {fr ev ct ti : Int} {mo da : List Int} {we : List (Int × Int)} {pk : List Int} {A : List Alm} {ah fi : Int} {n : Nat} (hF : evF nm tx st ln true fr ev ct ti mo da we pk [] [] [] A = 0) (hz : -900 ≤ ah ∧ ah ≤ 900) (h1 : 366 ≤ fi) (h2 : fi + n ≤ 109209) :
    ∃ X, TopF st ln fr ev ct ti mo da we pk ah fi n X := by
  have hf := evF_facts hF
  obtain ⟨t1, t2⟩ := timeB_yes hf.ok.1
  obtain ⟨y0, m0, d0, hd0, hn0⟩ := Cal.ex_date (st / 1440 + 1) (by omega) (by omega)
  obtain ⟨E, hE⟩ : ∃ E, E = eachL fr ev ct ti y0 m0 d0 mo da we pk (st / 1440 + 1) := ⟨_, rfl⟩
  have hu := eachL_up hd0 hn0 (ruleF_0 (hf.ok.2.1 rfl)).2.1 (fr := fr) (ct := ct) (ti := ti) (mo := mo) (da := da) (we := we) (pk := pk)
  rw [← hE] at hu
  have hT : ruleT true st fr ev ct ti mo da we pk = tmsL (st % 1440) E := by rw [ruleT, if_pos rfl, daysAt_eq hd0 hn0, hE]
  have hm : 0 ≤ st % 1440 ∧ st % 1440 < 1440 := by omega
  refine ⟨btwL E fi (fi + n - 1), ?_, btw_len hu.1, fun d hd => (btw_mem.1 hd).2, ?_, ?_, btw_up hu.1⟩
  · intro y1 m1 d1 hd1 hn1
    obtain ⟨e1, e2, e3⟩ := Cal.num_inj hd0 hd1 (hn0.trans hn1.symm)
    rw [hE, e1, e2, e3]
  · rw [hT]; exact top_times hu.1 hu.2 hm hz hf.ln h1 h2
  · rw [hT]; exact top_evL hu.1 hu.2 hm

theorem top_lod {y m fi : Int} {n : Nat} {e : Ev} {X : List Int} (hC : e.C = []) (hM : e.M = []) (hN : e.N = []) (hfi : fi = Cal.num y m 1) (hn : (n : Int) = Cal.dim y m) {mi : Int} (h : evL e.T [] [] ((fi - 1) * 1440) ((fi - 1) * 1440 + n * 1440 - 1) = X.map (kkT mi)) : lodV y m [e] = loadC ((fi - 1) * 1440) n (X.map (kkT mi)) := by
  have e1 : lodLow y m = (fi - 1) * 1440 := by rw [lodLow, hfi]
  have e2 : lodN y m = n := by rw [lodN]; omega
  rw [lodV, e1, e2, List.flatMap_cons, List.flatMap_nil, List.append_nil, Ev.lod, hC, hM, hN, lod_nil, h]

theorem zf_mem {ah : Int} (h : zfault ah [] = 0) : -900 ≤ ah ∧ ah ≤ 900 := by
  have h1 := zoneOf_bd h 0
  rw [zoneOf_nil] at h1; exact h1

theorem top_bet (nm tx : List UInt8) (st ln : Int) (fr ev ct ti : Int) (vm vd vw vp vA : Value) (mo da : List Int) (we : List (Int × Int)) (pk : List Int) (A : List Alm) (ah a b : Int) (R : List (Int × Int)) (wx : World) (hw : Months wx) (hr : EvR wx vm vd vw vp (.slice none 0 0) (.slice none 0 0) (.slice none 0 0) vA mo da we pk [] [] [] A)
    (hnm : nm.length ≤ 140737488351232) (htx : tx.length ≤ 140737488351232) (hF : evF nm tx st ln true fr ev ct ti mo da we pk [] [] [] A = 0) (hz : zfault ah [] = 0) (hR : tmsOf ah [] (ruleT true st fr ev ct ti mo da we pk) [] [] [] ln a b = R) (hl : R.length ≤ 200) (hE : betE 0 0 a b = 0) :
    Calls Tryz.prog 17 #[.agg #[.int .i64 ah, .slice none 0 0], .agg #[.string (bs nm), .string (bs tx), .int .i64 st, .int .i64 ln, .bool true, .int .i64 fr, .int .i64 ev, .int .i64 ct, .int .i64 ti, vm, vd, vw, vp, .slice none 0 0, .slice none 0 0, .slice none 0 0, vA], .int .i64 a, .int .i64 b] wx
      (fun e w' => ∃ v, e = .returned (.tuple #[v, .nilIface]) ∧ TmsR ln w' v R ∧ Below wx.heap.size wx w') := by
  have h := between_any nm tx st ln true fr ev ct ti vm vd vw vp (.slice none 0 0) (.slice none 0 0) (.slice none 0 0) vA mo da we pk [] [] [] A ah (.slice none 0 0) [] a b wx hw hr (reads_nil _ _) hnm htx (by simp)
  have hfN : fullN 0 R.length = 0 := by rw [fullN, if_neg (by omega)]
  rw [hF, hz, hR, hE, hfN] at h
  refine h.mono ?_
  rintro e w' ⟨v, rfl, hv, hb⟩
  rw [if_pos rfl] at hv
  exact ⟨v, by rw [errV_0], hv.tms, hb⟩

theorem top_ld (e : Ev) (y m : Int) (v : Value) (LV : List Int) (wx : World) (hw : Months wx) (hv : EvsR wx v [e]) (hm : Cal.monthB y m = true) (hF : e.F = 0) (hL : lodV y m [e] = LV) :
    Calls Tryz.prog 18 #[v, .int .i64 y, .int .i64 m] wx (fun e w' => ∃ u, e = .returned (.tuple #[u, .nilIface]) ∧ IntsR w' u LV ∧ Below wx.heap.size wx w') := by
  have h := pload_any v [e] y m wx hw hv
  have e1 : lodE y m [e] = 0 := by
    rw [lodE, if_pos hm, if_neg (by simp), List.map_cons, List.map_nil, fstE_one]
    exact hF
  rw [e1, hL] at h
  refine h.mono ?_
  rintro e w' ⟨u, rfl, hu, hb⟩
  rw [if_pos rfl] at hu
  exact ⟨u, by rw [errV_0], hu, hb⟩

theorem top_zone (ah d mi : Int) (wx : World) (hz : zfault ah [] = 0) (h1 : 366 ≤ d) (h2 : d ≤ 109208) (hm : 0 ≤ mi ∧ mi < 1440) :
    Calls Tryz.prog 19 #[.agg #[.int .i64 ah, .slice none 0 0], .int .i64 (kkT mi d - ah)] wx (fun e w' => e = .returned (.tuple #[.int .i64 (kkT mi d), .nilIface]) ∧ Below wx.heap.size wx w') := by
  have za := zf_mem hz
  have hk : kkT mi d = (d - 1) * 1440 + mi := rfl
  have t1 : timeB (kkT mi d - ah) = true := timeB_mk (by omega) (by omega)
  have t2 : timeB (kkT mi d - ah + zoneOf ah [] (kkT mi d - ah)) = true := by rw [zoneOf_nil]; exact timeB_mk (by omega) (by omega)
  have h := local_yes (.slice none 0 0) [] ah (kkT mi d - ah) wx (reads_nil _ _) hz t1 t2
  rw [zoneOf_nil, show kkT mi d - ah + ah = kkT mi d by omega] at h
  exact h

theorem top_seq (fr ev ct ti st fi : Int) (n : Nat) (vm vd vw vp : Value) (mo da : List Int) (we : List (Int × Int)) (pk : List Int) (X : List Int) (wx : World) (hw : Months wx) (h1 : IntsR wx vm mo) (h2 : IntsR wx vd da) (h3 : PairsR wx vw we) (h4 : IntsR wx vp pk) (hF : ruleF fr ev ct ti mo da we pk = 0) (ht : timeB st = true)
    (hX : ∀ (y0 m0 d0 : Int), Cal.dateB y0 m0 d0 = true → Cal.num y0 m0 d0 = st / 1440 + 1 → btwL (eachL fr ev ct ti y0 m0 d0 mo da we pk (st / 1440 + 1)) fi (fi + n - 1) = X) (hl : X.length ≤ 31) :
    Calls Tryz.prog 16 #[.agg #[.int .i64 fr, .int .i64 ev, .int .i64 ct, .int .i64 ti, vm, vd, vw, vp], .int .i64 (st / 1440 + 1), .int .i64 fi, .int .i64 (fi + n - 1)] wx
      (fun e w' => ∃ v, e = .returned (.tuple #[v, .nilIface]) ∧ IntsR w' v X ∧ Below wx.heap.size wx w') := by
  obtain ⟨t1, t2⟩ := timeB_yes ht
  obtain ⟨y0, m0, d0, hd0, hn0⟩ := Cal.ex_date (st / 1440 + 1) (by omega) (by omega)
  have h := btwN_any fr ev ct ti (st / 1440 + 1) fi (fi + n - 1) vm vd vw vp mo da we pk wx hw h1 h2 h3 h4 hF hd0 hn0
  have e1 : fullF X = 0 := if_neg (by omega)
  have e2 : cutL X = X := if_neg (by omega)
  rw [hX y0 m0 d0 hd0 hn0, e1, e2, errV_0] at h
  exact h.mono fun _ _ ⟨v, a1, a2, a3⟩ => ⟨v, a1, a2.1, a3⟩

set_option maxRecDepth 100000 in
set_option maxHeartbeats 32000000 in
theorem topDays_any (nm tx : List UInt8) (st ln : Int) (rp : Bool) (fr ev ct ti : Int) (vm vd vw vp vM vN vC vA : Value) (mo da : List Int) (we : List (Int × Int)) (pk M N : List Int) (C : List (Int × Int)) (A : List Alm) (ah y m : Int) (w : World) (hw : Months w) (hR : EvR w vm vd vw vp vM vN vC vA mo da we pk M N C A) (hnm : nm.length ≤ 140737488351232) (htx : tx.length ≤ 140737488351232) :
    Calls Tryz.prog 3 #[.agg #[.string (bs nm), .string (bs tx), .int .i64 st, .int .i64 ln, .bool rp, .int .i64 fr, .int .i64 ev, .int .i64 ct, .int .i64 ti, vm, vd, vw, vp, vM, vN, vC, vA], .int .i64 ah, .int .i64 y, .int .i64 m] w fun e w' => e = .returned (.bool true) ∧ Below w.heap.size w w' := by
  obtain ⟨h1, h2, h3, h4, hM, hN, hC, hA⟩ := hR
  have HRD := Lib.hid (show ∀ wx, Below w.heap.size w wx → EvR wx vm vd vw vp (.slice none 0 0) (.slice none 0 0) (.slice none 0 0) vA mo da we pk [] [] [] A from fun wx hbx => ⟨h1.below hbx, h2.below hbx, h3.below hbx, h4.below hbx, intsR_nil _, intsR_nil _, reads_nil _ _, hA.below hbx⟩)
  obtain ⟨am, km, rfl, -, -, -⟩ := intsR_open h1
  obtain ⟨ad, kd, rfl, -, -, -⟩ := intsR_open h2
  obtain ⟨aw, kw, rfl, -, -, -⟩ := pairsR_open h3
  obtain ⟨ap, kp, rfl, -, -, -⟩ := intsR_open h4
  obtain ⟨aM, kM, rfl, -, -, -⟩ := intsR_open hM
  obtain ⟨aN, kN, rfl, -, -, -⟩ := intsR_open hN
  obtain ⟨aC, kC, rfl, -, -, -⟩ := pairsR_open hC
  obtain ⟨aA, kA, rfl, -, -, -⟩ := almsR_open hA
  obtain ⟨F, hF⟩ : ∃ F, F = evF nm tx st ln rp fr ev ct ti mo da we pk [] [] [] A := ⟨_, rfl⟩
  obtain ⟨ZF, hZF⟩ : ∃ F, F = zfault ah [] := ⟨_, rfl⟩
  obtain ⟨snm, hsnm⟩ : ∃ s, s = bs nm := ⟨_, rfl⟩
  obtain ⟨stx, hstx⟩ : ∃ s, s = bs tx := ⟨_, rfl⟩
  have HW := Lib.hid (show ∀ wx, Below w.heap.size w wx → Months wx from fun wx hbx => hw.below hbx)
  have CK := Lib.hid (show ∀ wx, Below w.heap.size w wx → Calls Tryz.prog 12 #[.agg #[.string snm, .string stx, .int .i64 st, .int .i64 ln, .bool rp, .int .i64 fr, .int .i64 ev, .int .i64 ct, .int .i64 ti, .slice am mo.length km, .slice ad da.length kd, .slice aw we.length kw, .slice ap pk.length kp, .slice none 0 0, .slice none 0 0, .slice none 0 0, .slice aA A.length kA]] wx (fun e w' => e = .returned (errV F) ∧ Below wx.heap.size wx w') from fun wx hbx => by
    have hr := HRD.out wx hbx
    rw [hF, hsnm, hstx]
    exact check_any nm tx st ln rp fr ev ct ti _ _ _ _ _ _ _ _ mo da we pk [] [] [] A wx hr.1 hr.2 hr.3 hr.4 hr.5 hr.6 hr.7 hr.8 hnm htx (by simp))
  have ZC := Lib.hid (show ∀ wx, Calls Tryz.prog 11 #[.agg #[.int .i64 ah, .slice none 0 0]] wx (fun e w' => e = .returned (errV ZF) ∧ Below wx.heap.size wx w') from fun wx => by
    rw [hZF]; exact zcheck_any _ [] ah wx (reads_nil _ _))
  obtain ⟨w0, hw0⟩ : ∃ x, x = w.alloc (.cells #[.string snm, .string stx, .int .i64 st, .int .i64 ln, .bool rp, .int .i64 fr, .int .i64 ev, .int .i64 ct, .int .i64 ti, .slice am mo.length km, .slice ad da.length kd, .slice aw we.length kw, .slice ap pk.length kp, .slice aM M.length kM, .slice aN N.length kN, .slice aC C.length kC, .slice aA A.length kA] 29) := ⟨_, rfl⟩
  obtain ⟨eb, heb⟩ : ∃ x, x = w.heap.size := ⟨_, rfl⟩
  have hb0 : Below w.heap.size w w0 := by rw [hw0]; exact (Below.refl _ _).alloc (Nat.le_refl _) _
  have bk0 : BlkE w0 eb #[.string snm, .string stx, .int .i64 st, .int .i64 ln, .bool rp, .int .i64 fr, .int .i64 ev, .int .i64 ct, .int .i64 ti, .slice am mo.length km, .slice ad da.length kd, .slice aw we.length kw, .slice ap pk.length kp, .slice aM M.length kM, .slice aN N.length kN, .slice aC C.length kC, .slice aA A.length kA] := by rw [hw0, heb]; exact heap_alloc_new w _
  have BK0 := Lib.hid bk0; have B0 := Lib.hid hb0; have W0 := Lib.hid hw0; have EB := Lib.hid heb
  have EF := Lib.hid hF; have EZ := Lib.hid hZF; have SNM := Lib.hid hsnm; have STX := Lib.hid hstx
  have NM := Lib.hid hnm; have TXn := Lib.hid htx
  rw [← hsnm, ← hstx]
  clear h1 h2 h3 h4 hM hN hC hA hF hZF hsnm hstx hw hw0 heb hb0 bk0 hnm htx
  go_enter Tryz.func3, Tryz.ntmps3
  go_upto_region 1 with fail
  rw [← W0.out]
  rw [← EB.out]
  go_cut [9] (fun s9 wx => s9 = .bool true ∧ Below w0.heap.size w0 wx)
  case first => as_aux_lemma =>
    have OC := Lib.hid (one_any w0 (HW.out w0 B0.out))
    go_wp2_with fail
    refine OC.out.mono ?_; rintro e w1 ⟨rfl, hb⟩
    have HB := Lib.hid hb
    clear hb
    go_wp2
    go_meet
    exact ⟨rfl, HB.out⟩
  case rest => as_aux_lemma =>
  obtain ⟨rfl, hb1⟩ := hcut
  obtain ⟨w1, rfl⟩ : ∃ x, x = wc := ⟨_, rfl⟩
  have B1 := Lib.hid (B0.out.trans (hb1.mono B0.out.size))
  have BK1 := Lib.hid (BK0.out.below hb1)
  have EL := Lib.hid (show eb < w1.heap.size from (Array.getElem?_eq_some_iff.1 BK1.out).1)
  clear hb1 BK0 B0 W0
  go_upto_region 4 with fail
  go_cut [10] (fun s10 wx => (∃ zb : Nat, s10 = .pointer (some ⟨zb, 0, none⟩) ∧ (wx.cell? ⟨zb, 0, none⟩ = some (.int .i64 ah) ∧ wx.cell? ⟨zb, 1, none⟩ = some (.slice none 0 0)) ∧ eb < zb) ∧ Below w1.heap.size w1 wx)
  case first => as_aux_lemma =>
    go_wp2
    go_meet
    exact ⟨⟨_, rfl, ⟨by simp, by simp⟩, EL.out⟩, (Below.refl _ _).alloc (Nat.le_refl _) _⟩
  case rest => as_aux_lemma =>
  obtain ⟨⟨zb, rfl, hzc, hzb⟩, hb2⟩ := hcut
  obtain ⟨w2, rfl⟩ : ∃ x, x = wc := ⟨_, rfl⟩
  have B2 := Lib.hid (B1.out.trans (hb2.mono B1.out.size))
  have BK2 := Lib.hid (BK1.out.below hb2)
  have ZN := Lib.hid (show zb ≠ eb by omega)
  have ZCC := Lib.hid hzc
  clear hb2 BK1 hzc hzb EL
  go_upto_region 5 with fail
  go_cut [34] (fun s34 wx => wx = w2.setCell ⟨eb, 13, none⟩ (.slice none 0 0))
  case first => as_aux_lemma =>
    obtain ⟨g1, g2⟩ := BK2.out.there (i := 13) rfl
    go_wp2
    go_meet
    rfl
  case rest => as_aux_lemma =>
  obtain ⟨w3, rfl⟩ : ∃ x, x = wc := ⟨_, rfl⟩
  have BK3 := Lib.hid (show BlkE w3 eb _ by rw [hcut]; exact BK2.out.set 13 (.slice none 0 0))
  have K3 := Lib.hid (show Kg eb w2 w3 by rw [hcut]; exact Kg.set _ _ _ _)
  have B3 := Lib.hid (show Below w.heap.size w w3 by rw [hcut]; exact B2.out.setCell (p := ⟨eb, 13, none⟩) (Nat.le_of_eq EB.out.symm) _)
  clear hcut
  go_upto_region 6 with fail
  go_cut [35] (fun s35 wx => wx = w3.setCell ⟨eb, 14, none⟩ (.slice none 0 0))
  case first => as_aux_lemma =>
    obtain ⟨g1, g2⟩ := BK3.out.there (i := 14) rfl
    go_wp2
    go_meet
    rfl
  case rest => as_aux_lemma =>
  obtain ⟨w4, rfl⟩ : ∃ x, x = wc := ⟨_, rfl⟩
  have BK4 := Lib.hid (show BlkE w4 eb _ by rw [hcut]; exact BK3.out.set 14 (.slice none 0 0))
  have K4 := Lib.hid (show Kg eb w2 w4 by rw [hcut]; exact K3.out.trans (Kg.set _ _ _ _))
  have B4 := Lib.hid (show Below w.heap.size w w4 by rw [hcut]; exact B3.out.setCell (p := ⟨eb, 14, none⟩) (Nat.le_of_eq EB.out.symm) _)
  clear hcut
  go_upto_region 7 with fail
  go_cut [36] (fun s36 wx => wx = w4.setCell ⟨eb, 15, none⟩ (.slice none 0 0))
  case first => as_aux_lemma =>
    obtain ⟨g1, g2⟩ := BK4.out.there (i := 15) rfl
    go_wp2
    go_meet
    rfl
  case rest => as_aux_lemma =>
  obtain ⟨w5, rfl⟩ : ∃ x, x = wc := ⟨_, rfl⟩
  have BK5 := Lib.hid (show BlkE w5 eb #[.string snm, .string stx, .int .i64 st, .int .i64 ln, .bool rp, .int .i64 fr, .int .i64 ev, .int .i64 ct, .int .i64 ti, .slice am mo.length km, .slice ad da.length kd, .slice aw we.length kw, .slice ap pk.length kp, .slice none 0 0, .slice none 0 0, .slice none 0 0, .slice aA A.length kA] by rw [hcut]; exact BK4.out.set 15 (.slice none 0 0))
  have K5 := Lib.hid (show Kg eb w2 w5 by rw [hcut]; exact K4.out.trans (Kg.set _ _ _ _))
  have B5 := Lib.hid (show Below w.heap.size w w5 by rw [hcut]; exact B4.out.setCell (p := ⟨eb, 15, none⟩) (Nat.le_of_eq EB.out.symm) _)
  have Z0 := Lib.hid (K5.out.cell (p := ⟨zb, 0, none⟩) ZN.out ZCC.out.1)
  have Z1 := Lib.hid (K5.out.cell (p := ⟨zb, 1, none⟩) ZN.out ZCC.out.2)
  have EC := Lib.hid (BK5.out.ev)
  clear hcut BK2 BK3 BK4 BK5 K3 K4 K5 B2 B3 B4 ZCC ZN B1
  obtain ⟨q, hq⟩ : ∃ q : Bool, q = !(decide (ZF = 0) && decide (F = 0) && rp) := ⟨_, rfl⟩
  have Q := Lib.hid hq
  clear hq
  have z0 := Z0.out; have z1 := Z1.out
  have k0 := EC.out.k0; have k1 := EC.out.k1; have k2 := EC.out.k2; have k3 := EC.out.k3; have k4 := EC.out.k4; have k5 := EC.out.k5; have k6 := EC.out.k6; have k7 := EC.out.k7; have k8 := EC.out.k8; have k9 := EC.out.k9; have k10 := EC.out.k10; have k11 := EC.out.k11; have k12 := EC.out.k12; have k13 := EC.out.k13; have k14 := EC.out.k14; have k15 := EC.out.k15; have k16 := EC.out.k16
  go_upto_region 8 with fail
  go_cut [49] (fun s49 wx => s49 = .bool q ∧ Below w5.heap.size w5 wx)
  case first => as_aux_lemma =>
    go_wp2_with fail
    refine (ZC.out w5).mono ?_; rintro e w6 ⟨rfl, hb⟩
    have HB := Lib.hid hb
    have EC6 := Lib.hid (EC.out.below hb)
    have CX := Lib.hid (CK.out w6 (B5.out.trans (hb.mono B5.out.size)))
    clear hb z0 z1 k0 k1 k2 k3 k4 k5 k6 k7 k8 k9 k10 k11 k12 k13 k14 k15 k16
    by_cases hz : ZF = 0
    case neg =>
      have EV := Lib.hid (show errV ZF = .iface 124 (.int .i64 ZF) by rw [errV, if_neg hz])
      have QQ := Lib.hid (show q = true by rw [Q.out]; simp [hz])
      rw [EV.out]
      clear hz
      go_wp2
      go_meet
      exact ⟨by rw [QQ.out], HB.out⟩
    subst hz
    rw [errV_0]
    have k0 := EC6.out.k0; have k1 := EC6.out.k1; have k2 := EC6.out.k2; have k3 := EC6.out.k3; have k4 := EC6.out.k4; have k5 := EC6.out.k5; have k6 := EC6.out.k6; have k7 := EC6.out.k7; have k8 := EC6.out.k8; have k9 := EC6.out.k9; have k10 := EC6.out.k10; have k11 := EC6.out.k11; have k12 := EC6.out.k12; have k13 := EC6.out.k13; have k14 := EC6.out.k14; have k15 := EC6.out.k15; have k16 := EC6.out.k16
    go_wp2_with fail
    refine CX.out.mono ?_; rintro e w7 ⟨rfl, hb⟩
    have HB7 := Lib.hid (HB.out.trans (hb.mono HB.out.size))
    have EC7 := Lib.hid (EC6.out.below hb)
    clear hb k0 k1 k2 k3 k4 k5 k6 k7 k8 k9 k10 k11 k12 k13 k14 k15 k16
    have k4 := EC7.out.k4
    by_cases hf : F = 0
    case neg =>
      have EV := Lib.hid (show errV F = .iface 124 (.int .i64 F) by rw [errV, if_neg hf])
      have QQ := Lib.hid (show q = true by rw [Q.out]; simp [hf])
      rw [EV.out]
      clear hf
      go_wp2
      go_meet
      exact ⟨by rw [QQ.out], HB7.out⟩
    subst hf
    rw [errV_0]
    have QQ := Lib.hid (show q = !rp by rw [Q.out]; simp)
    go_wp2
    go_meet
    exact ⟨by rw [QQ.out], HB7.out⟩
  case rest => as_aux_lemma =>
  obtain ⟨rfl, hb6⟩ := hcut
  obtain ⟨w6, rfl⟩ : ∃ x, x = wc := ⟨_, rfl⟩
  have B6 := Lib.hid (B5.out.trans (hb6.mono B5.out.size))
  have EC6 := Lib.hid (EC.out.below hb6)
  have Z06 := Lib.hid (cell_below hb6 Z0.out); have Z16 := Lib.hid (cell_below hb6 Z1.out)
  clear hb6 z0 z1 k0 k1 k2 k3 k4 k5 k6 k7 k8 k9 k10 k11 k12 k13 k14 k15 k16 EC Z0 Z1 ZC CK B5
  cases q
  rotate_left
  · go_wp2
    go_ret
    exact ⟨rfl, B6.out⟩
  have QF := Lib.hid (show ZF = 0 ∧ F = 0 ∧ rp = true by have := Q.out; simp at this; exact ⟨this.1.1, this.1.2, this.2⟩)
  obtain ⟨hzf, hf0, rfl⟩ := QF.out
  have EF2 := Lib.hid (show evF nm tx st ln true fr ev ct ti mo da we pk [] [] [] A = 0 by rw [← EF.out, hf0])
  have EZ2 := Lib.hid (show zfault ah [] = 0 by rw [← EZ.out, hzf])
  clear Q QF hzf hf0 EF EZ
  go_upto_region 10 with fail
  by_cases hm : Cal.monthB y m = true
  case neg =>
    have DN := Lib.hid (of_no y m 1 w6 (HW.out w6 B6.out) (Cal.date_mk_no' (by simpa using hm)))
    clear hm
    go_wp2_with fail
    refine DN.out.mono ?_; rintro e w7 ⟨rfl, hb⟩
    have HB := Lib.hid (B6.out.trans (hb.mono B6.out.size))
    clear hb
    go_wp2
    go_ret
    exact ⟨rfl, HB.out⟩
  obtain ⟨n, hn⟩ : ∃ n : Nat, (n : Int) = Cal.dim y m := ⟨(Cal.dim y m).toNat, by have := Cal.dim_bd y m; omega⟩
  have hnb : 28 ≤ n ∧ n ≤ 31 := by have := Cal.dim_bd y m; omega
  have hd1 : Cal.dateB y m 1 = true := Cal.date_mk hm (by omega) (by omega)
  obtain ⟨fi, hfi⟩ : ∃ fi, fi = Cal.num y m 1 := ⟨_, rfl⟩
  have DO := Lib.hid (show Calls Tryz.prog 13 #[.agg #[.int .i64 y, .int .i64 m, .int .i64 1]] w6 (fun e w' => e = .returned (.tuple #[.int .i64 fi, .nilIface]) ∧ Below w6.heap.size w6 w') by
    rw [hfi]; exact of_yes y m 1 w6 (HW.out w6 B6.out) hd1)
  have DY := Lib.hid (show ∀ wx, Below w.heap.size w wx → Calls Tryz.prog 14 #[.int .i64 y, .int .i64 m] wx (fun e w' => e = .returned (.tuple #[.int .i64 n, .nilIface]) ∧ wx = w') from fun wx hbx => days_at y m n wx (HW.out wx hbx) hm hn.symm)
  have MM := Lib.hid hm; have HN := Lib.hid hn; have HFI := Lib.hid hfi
  clear hm hn hd1 hfi
  go_cut [11, 12] (fun s11 s12 wx => s11 = .int .i64 fi ∧ s12 = .nilIface ∧ Below w6.heap.size w6 wx)
  case first => as_aux_lemma =>
    go_wp2_with fail
    refine DO.out.mono ?_; rintro e w7 ⟨rfl, hb⟩
    have HB := Lib.hid hb
    clear hb
    go_wp2
    go_meet
    exact ⟨rfl, rfl, HB.out⟩
  case rest => as_aux_lemma =>
  obtain ⟨rfl, rfl, hb7⟩ := hcut
  obtain ⟨w7, rfl⟩ : ∃ x, x = wc := ⟨_, rfl⟩
  have B7 := Lib.hid (B6.out.trans (hb7.mono B6.out.size))
  have EC7 := Lib.hid (EC6.out.below hb7)
  have Z07 := Lib.hid (cell_below hb7 Z06.out); have Z17 := Lib.hid (cell_below hb7 Z16.out)
  clear hb7 EC6 Z06 Z16 DO B6
  by_cases hy1 : y < 1901
  · have d1 : decide (y < 1901) = true := decide_eq_true hy1
    clear hy1
    go_wp2
    go_ret
    exact ⟨rfl, B7.out⟩
  have d1 : decide (y < 1901) = false := decide_eq_false hy1
  by_cases hy2 : 2198 < y
  · have d2 : decide (2198 < y) = true := decide_eq_true hy2
    clear hy1 hy2
    go_wp2
    go_ret
    exact ⟨rfl, B7.out⟩
  have d2 : decide (2198 < y) = false := decide_eq_false hy2
  have FB := Lib.hid (show 366 ≤ fi ∧ fi + (n : Int) ≤ 109209 by rw [HFI.out, HN.out]; exact top_month MM.out (by omega) (by omega))
  clear hy1 hy2
  go_upto_region 13 with fail
  clear d1 d2
  go_cut [13, 12] (fun s13 s12 wx => s13 = .int .i64 n ∧ s12 = .nilIface ∧ w7 = wx)
  case first => as_aux_lemma =>
    go_wp2_with fail
    refine (DY.out w7 B7.out).mono ?_; rintro e w8 ⟨rfl, rfl⟩
    go_wp2
    go_meet
    exact ⟨rfl, rfl, rfl⟩
  case rest => as_aux_lemma =>
  obtain ⟨rfl, rfl, rfl⟩ := hcut
  clear DY
  have FS := Lib.hid (evF_facts EF2.out)
  have k2 := EC7.out.k2
  obtain ⟨n0, hn0⟩ : ∃ z, z = st / 1440 + 1 := ⟨_, rfl⟩
  obtain ⟨mi, hmi⟩ : ∃ z, z = st % 1440 := ⟨_, rfl⟩
  have SP := Lib.hid (show Calls Tryz.prog 15 #[.int .i64 st] w7 (fun e w' => e = .returned (.tuple #[.int .i64 n0, .int .i64 mi, .nilIface]) ∧ w7 = w') by
    rw [hn0, hmi]; exact split_yes st w7 FS.out.ok.1)
  have N0 := Lib.hid hn0; have MI := Lib.hid hmi
  clear hn0 hmi
  go_upto_region 16 with fail
  go_cut [14, 15, 12] (fun s14 s15 s12 wx => s14 = .int .i64 n0 ∧ s15 = .int .i64 mi ∧ s12 = .nilIface ∧ w7 = wx)
  case first => as_aux_lemma =>
    go_wp2_with fail
    refine SP.out.mono ?_; rintro e w8 ⟨rfl, rfl⟩
    go_wp2
    go_meet
    exact ⟨rfl, rfl, rfl, rfl⟩
  case rest => as_aux_lemma =>
  obtain ⟨rfl, rfl, rfl, rfl⟩ := hcut
  clear k2 SP
  obtain ⟨X, hX⟩ := top_plain EF2.out (zf_mem EZ2.out) FB.out.1 FB.out.2 (n := n)
  have TX := Lib.hid hX
  have XL31 := Lib.hid (show X.length ≤ 31 from Nat.le_trans hX.len hnb.2)
  clear hX
  have SB := Lib.hid (show ∀ wx, Below w.heap.size w wx → Calls Tryz.prog 16 #[.agg #[.int .i64 fr, .int .i64 ev, .int .i64 ct, .int .i64 ti, .slice am mo.length km, .slice ad da.length kd, .slice aw we.length kw, .slice ap pk.length kp], .int .i64 n0, .int .i64 fi, .int .i64 (fi + n - 1)] wx
      (fun e w' => ∃ v, e = .returned (.tuple #[v, .nilIface]) ∧ IntsR w' v X ∧ Below wx.heap.size wx w') from fun wx hbx => by
    have hr := HRD.out wx hbx
    rw [N0.out]
    exact top_seq fr ev ct ti st fi n _ _ _ _ mo da we pk X wx (HW.out wx hbx) hr.1 hr.2 hr.3 hr.4 (FS.out.ok.2.1 rfl) FS.out.ok.1 TX.out.btw XL31.out)
  have TMS := Lib.hid (show tmsOf ah [] (ruleT true st fr ev ct ti mo da we pk) [] [] [] ln ((fi - 1) * 1440 - ah) ((fi - 1) * 1440 - ah + n * 1440) = X.map (fun d => (kkT mi d, kkT mi d - ah)) by rw [MI.out]; exact TX.out.tms)
  have BE := Lib.hid (show betE 0 0 ((fi - 1) * 1440 - ah) ((fi - 1) * 1440 - ah + n * 1440) = 0 by
    have za := zf_mem EZ2.out
    have fb := FB.out
    exact betE_mk (timeB_mk (by omega) (by omega)) (timeB_mk (by omega) (by omega)) (by omega) (by omega))
  have TB := Lib.hid (show ∀ wx, Below w.heap.size w wx → Calls Tryz.prog 17 #[.agg #[.int .i64 ah, .slice none 0 0], .agg #[.string snm, .string stx, .int .i64 st, .int .i64 ln, .bool true, .int .i64 fr, .int .i64 ev, .int .i64 ct, .int .i64 ti, .slice am mo.length km, .slice ad da.length kd, .slice aw we.length kw, .slice ap pk.length kp, .slice none 0 0, .slice none 0 0, .slice none 0 0, .slice aA A.length kA], .int .i64 ((fi - 1) * 1440 - ah), .int .i64 ((fi - 1) * 1440 - ah + n * 1440)] wx
      (fun e w' => ∃ v, e = .returned (.tuple #[v, .nilIface]) ∧ TmsR ln w' v (X.map (fun d => (kkT mi d, kkT mi d - ah))) ∧ Below wx.heap.size wx w') from fun wx hbx => by
    rw [SNM.out, STX.out]
    exact top_bet nm tx st ln fr ev ct ti _ _ _ _ _ mo da we pk A ah _ _ _ wx (HW.out wx hbx) (HRD.out wx hbx) NM.out TXn.out EF2.out EZ2.out TMS.out (by rw [List.length_map]; have := XL31.out; omega) BE.out)
  obtain ⟨LV, hLV⟩ : ∃ z, z = loadC ((fi - 1) * 1440) n (X.map (kkT mi)) := ⟨_, rfl⟩
  have PLc := Lib.hid (show ∀ (v : Value) (wx : World), Below w.heap.size w wx → EvsR wx v [(⟨nm, tx, st, ln, true, fr, ev, ct, ti, .slice am mo.length km, .slice ad da.length kd, .slice aw we.length kw, .slice ap pk.length kp, .slice none 0 0, .slice none 0 0, .slice none 0 0, .slice aA A.length kA, mo, da, we, pk, [], [], [], A⟩ : Ev)] → Calls Tryz.prog 18 #[v, .int .i64 y, .int .i64 m] wx
      (fun e w' => ∃ u, e = .returned (.tuple #[u, .nilIface]) ∧ IntsR w' u LV ∧ Below wx.heap.size wx w') from fun v wx hbx hv => by
    exact top_ld _ y m v LV wx (HW.out wx hbx) hv MM.out EF2.out (by
      rw [hLV]
      exact top_lod rfl rfl rfl HFI.out HN.out (by rw [MI.out]; exact TX.out.evl)))
  have mib : 0 ≤ mi ∧ mi < 1440 := by rw [MI.out]; omega
  have LD := Lib.hid (top_load TX.out.up TX.out.mem mib (n := n))
  rw [← hLV] at LD
  have LL := Lib.hid (show LV.length = n by rw [hLV, loadC_len])
  have LN := Lib.hid (show ∀ x ∈ LV, 0 ≤ x from fun x hx => by
    obtain ⟨i, hi, rfl⟩ := List.mem_iff_getElem.1 hx
    rw [hLV] at hi
    have := (loadC_le hi).1
    simpa [hLV] using this)
  have ZL := Lib.hid (show ∀ d ∈ X, ∀ wx, Calls Tryz.prog 19 #[.agg #[.int .i64 ah, .slice none 0 0], .int .i64 (kkT mi d - ah)] wx (fun e w' => e = .returned (.tuple #[.int .i64 (kkT mi d), .nilIface]) ∧ Below wx.heap.size wx w') from fun d hd wx => by
    have fb := FB.out
    have hdm := TX.out.mem d hd
    exact top_zone ah d mi wx EZ2.out (by omega) (by omega) mib)
  clear hLV
  have z0 := Z07.out; have z1 := Z17.out
  have k0 := EC7.out.k0; have k1 := EC7.out.k1; have k2 := EC7.out.k2; have k3 := EC7.out.k3; have k4 := EC7.out.k4; have k5 := EC7.out.k5; have k6 := EC7.out.k6; have k7 := EC7.out.k7; have k8 := EC7.out.k8; have k9 := EC7.out.k9; have k10 := EC7.out.k10; have k11 := EC7.out.k11; have k12 := EC7.out.k12; have k13 := EC7.out.k13; have k14 := EC7.out.k14; have k15 := EC7.out.k15; have k16 := EC7.out.k16
  obtain ⟨fb1, fb2⟩ := FB.out
  have g1 : IntKind.i64.wrap (fi + (n : Int)) = fi + (n : Int) := IntWalk.i64_in _ (by omega)
  have g2 : IntKind.i64.wrap (fi + (n : Int) - 1) = fi + (n : Int) - 1 := IntWalk.i64_in _ (by omega)
  go_upto_region 19 with fail
  go_cut [16, 17] (fun s16 s17 wx => (∃ (xa : Option Addr) (xc : Nat), s16 = .slice xa X.length xc ∧ IntsR wx (.slice xa X.length xc) X) ∧ s17 = .nilIface ∧ Below w7.heap.size w7 wx)
  case first => as_aux_lemma =>
    go_wp2_with fail
    refine (SB.out w7 B7.out).mono ?_; rintro e w8 ⟨v, rfl, hv, hb⟩
    obtain ⟨xa, xc, rfl, -, -, -⟩ := intsR_open hv
    have HV := Lib.hid hv; have HB := Lib.hid hb
    clear hv hb z0 z1 g1 g2 k0 k1 k2 k3 k4 k5 k6 k7 k8 k9 k10 k11 k12 k13 k14 k15 k16
    go_wp2
    go_meet
    exact ⟨⟨_, _, rfl, HV.out⟩, rfl, HB.out⟩
  case rest => as_aux_lemma =>
  obtain ⟨⟨xa, xc, rfl, hxv⟩, rfl, hb8⟩ := hcut
  obtain ⟨w8, rfl⟩ : ∃ x, x = wc := ⟨_, rfl⟩
  have B8 := Lib.hid (B7.out.trans (hb8.mono B7.out.size))
  have EC8 := Lib.hid (EC7.out.below hb8)
  have Z08 := Lib.hid (cell_below hb8 Z07.out); have Z18 := Lib.hid (cell_below hb8 Z17.out)
  have XV := Lib.hid hxv
  clear hb8 hxv z0 z1 g1 g2 k0 k1 k2 k3 k4 k5 k6 k7 k8 k9 k10 k11 k12 k13 k14 k15 k16 EC7 Z07 Z17 SB B7
  have za := zf_mem EZ2.out
  have g1 : IntKind.i64.wrap (fi - 1) = fi - 1 := IntWalk.i64_in _ (by omega)
  have g2 : IntKind.i64.wrap ((fi - 1) * 1440) = (fi - 1) * 1440 := IntWalk.i64_in _ (by omega)
  have g3 : IntKind.i64.wrap ((fi - 1) * 1440 - ah) = (fi - 1) * 1440 - ah := IntWalk.i64_in _ (by omega)
  have g4 : IntKind.i64.wrap ((n : Int) * 1440) = (n : Int) * 1440 := IntWalk.i64_in _ (by omega)
  have g5 : IntKind.i64.wrap ((fi - 1) * 1440 - ah + (n : Int) * 1440) = (fi - 1) * 1440 - ah + (n : Int) * 1440 := IntWalk.i64_in _ (by omega)
  have z0 := Z08.out; have z1 := Z18.out
  have k0 := EC8.out.k0; have k1 := EC8.out.k1; have k2 := EC8.out.k2; have k3 := EC8.out.k3; have k4 := EC8.out.k4; have k5 := EC8.out.k5; have k6 := EC8.out.k6; have k7 := EC8.out.k7; have k8 := EC8.out.k8; have k9 := EC8.out.k9; have k10 := EC8.out.k10; have k11 := EC8.out.k11; have k12 := EC8.out.k12; have k13 := EC8.out.k13; have k14 := EC8.out.k14; have k15 := EC8.out.k15; have k16 := EC8.out.k16
  go_upto_region 21 with fail
  go_cut [19, 20] (fun s19 s20 wx => (∃ (ta : Option Addr) (tc : Nat), s19 = .slice ta X.length tc ∧ TmsR ln wx (.slice ta X.length tc) (X.map (fun d => (kkT mi d, kkT mi d - ah)))) ∧ s20 = .nilIface ∧ Below w8.heap.size w8 wx)
  case first => as_aux_lemma =>
    go_wp2_with fail
    refine (TB.out w8 B8.out).mono ?_; rintro e w9 ⟨v, rfl, hv, hb⟩
    obtain ⟨ta, tc, rfl, -, -, -⟩ := tmsR_open hv
    rw [List.length_map] at hv ⊢
    have HV := Lib.hid hv; have HB := Lib.hid hb
    clear hv hb z0 z1 g1 g2 g3 g4 g5 k0 k1 k2 k3 k4 k5 k6 k7 k8 k9 k10 k11 k12 k13 k14 k15 k16
    go_wp2
    go_meet
    exact ⟨⟨_, _, rfl, HV.out⟩, rfl, HB.out⟩
  case rest => as_aux_lemma =>
  obtain ⟨⟨ta, tc, rfl, htv⟩, rfl, hb9⟩ := hcut
  obtain ⟨w9, rfl⟩ : ∃ x, x = wc := ⟨_, rfl⟩
  have B9 := Lib.hid (B8.out.trans (hb9.mono B8.out.size))
  have EC9 := Lib.hid (EC8.out.below hb9)
  have Z09 := Lib.hid (cell_below hb9 Z08.out); have Z19 := Lib.hid (cell_below hb9 Z18.out)
  have XV := Lib.hid (XV.out.below hb9)
  have TV := Lib.hid htv
  clear hb9 htv z0 z1 g1 g2 g3 g4 g5 k0 k1 k2 k3 k4 k5 k6 k7 k8 k9 k10 k11 k12 k13 k14 k15 k16 EC8 Z08 Z18 TB B8
  have k0 := EC9.out.k0; have k1 := EC9.out.k1; have k2 := EC9.out.k2; have k3 := EC9.out.k3; have k4 := EC9.out.k4; have k5 := EC9.out.k5; have k6 := EC9.out.k6; have k7 := EC9.out.k7; have k8 := EC9.out.k8; have k9 := EC9.out.k9; have k10 := EC9.out.k10; have k11 := EC9.out.k11; have k12 := EC9.out.k12; have k13 := EC9.out.k13; have k14 := EC9.out.k14; have k15 := EC9.out.k15; have k16 := EC9.out.k16
  go_upto_region 22 with fail
  go_cut [21, 22] (fun s21 s22 wx => (∃ (la : Option Addr) (lc : Nat), s21 = .slice la n lc ∧ IntsR wx (.slice la n lc) LV) ∧ s22 = .nilIface ∧ Below w9.heap.size w9 wx)
  case first => as_aux_lemma =>
    obtain ⟨iE, zE, hiE, hzE, hkE, hnE⟩ := ev_info
    have RDX := Lib.hid (show ((⟨nm, tx, st, ln, true, fr, ev, ct, ti, .slice am mo.length km, .slice ad da.length kd, .slice aw we.length kw, .slice ap pk.length kp, .slice none 0 0, .slice none 0 0, .slice none 0 0, .slice aA A.length kA, mo, da, we, pk, [], [], [], A⟩ : Ev)).Rd w9 from ⟨HRD.out w9 B9.out, NM.out, TXn.out, by simp⟩)
    go_wp2_with (refine wpList_build1 rfl 51 _ rfl 29 iE zE 17 Tryz.underlying51 hiE hzE hkE hnE (by decide) (by decide) _ rfl rfl ?_)
    refine (PLc.out (.slice (some ⟨w9.heap.size, 0, none⟩) 1 1) _ (B9.out.alloc B9.out.size _) ?r3).mono ?_
    case r3 =>
      have h := fun cs hcs => evs_new2 (w := w9) (t := 29) [(⟨nm, tx, st, ln, true, fr, ev, ct, ti, .slice am mo.length km, .slice ad da.length kd, .slice aw we.length kw, .slice ap pk.length kp, .slice none 0 0, .slice none 0 0, .slice none 0 0, .slice aA A.length kA, mo, da, we, pk, [], [], [], A⟩ : Ev)] cs hcs (fun e he => by simp at he; subst he; exact RDX.out) (show 1 ≤ maxLen by decide)
      exact h _ (by simp [Value.cells, Ev.cells, ← SNM.out, ← STX.out])
    rintro e w10 ⟨u, rfl, hu, hb⟩
    obtain ⟨la, lc, rfl, -, -, -⟩ := intsR_open hu
    rw [LL.out] at hu ⊢
    have HU := Lib.hid hu
    have HB := Lib.hid (below_next ((Below.refl _ _).alloc (Nat.le_refl _) _) hb)
    clear hu hb k0 k1 k2 k3 k4 k5 k6 k7 k8 k9 k10 k11 k12 k13 k14 k15 k16
    go_wp2
    go_meet
    exact ⟨⟨_, _, rfl, HU.out⟩, rfl, HB.out⟩
  case rest => as_aux_lemma =>
  obtain ⟨⟨la, lc, rfl, hlv⟩, rfl, hb10⟩ := hcut
  obtain ⟨w10, rfl⟩ : ∃ x, x = wc := ⟨_, rfl⟩
  have B10 := Lib.hid (B9.out.trans (hb10.mono B9.out.size))
  have Z010 := Lib.hid (cell_below hb10 Z09.out); have Z110 := Lib.hid (cell_below hb10 Z19.out)
  obtain ⟨_, _, e9, -, -, hls⟩ := intsR_open hlv
  rw [LL.out] at e9
  cases e9
  obtain ⟨_, _, e9, -, -, hxs⟩ := intsR_open (XV.out.below hb10)
  cases e9
  obtain ⟨_, _, e9, -, -, hts⟩ := tmsR_open (show TmsR ln w10 _ _ from Reads.below TV.out hb10)
  rw [List.length_map] at e9
  cases e9
  have LS := Lib.hid hls; have XS := Lib.hid hxs; have TS := Lib.hid hts
  obtain ⟨xl, hxl⟩ : ∃ z, z = X.length := ⟨_, rfl⟩
  have XL := Lib.hid hxl
  have xl31 : xl ≤ 31 := by rw [hxl]; exact XL31.out
  rw [← hxl]
  clear hb10 hlv hls hxs hts hxl k0 k1 k2 k3 k4 k5 k6 k7 k8 k9 k10 k11 k12 k13 k14 k15 k16 EC9 Z09 Z19 XV TV PLc B9
  go_upto_region 25 with fail
  go_upto_block 0 with fail
  go_cut [23] (fun s23 wx => s23 = .int .i64 xl ∧ Below w10.heap.size w10 wx)
  case first => as_aux_lemma =>
    go_wp2_with fail
    go_loopg [23, 24] n (fun g sv iv wr => ∃ k : Nat, k ≤ n ∧ iv = .int .i64 k ∧ g = n - k ∧ sv = .int .i64 (LV.take k).sum ∧ w10 = wr)
    case atStart => exact ⟨0, Nat.zero_le _, rfl, rfl, rfl, rfl⟩
    case round => as_aux_lemma =>
      obtain ⟨k, hk, rfl, hg, rfl, rfl⟩ := hrel
      have G := Lib.hid hg
      clear hg
      have sb := top_sum LN.out k
      have st1 : LV.sum = X.length := LD.out.1
      have sm : LV.sum ≤ 31 := by rw [st1]; have := XL31.out; omega
      by_cases hlt : k < n
      · have hk1 : k < LV.length := by rw [LL.out]; exact hlt
        obtain ⟨b1, o1, rfl, q⟩ := LS.out (by omega)
        have c0 := q k hk1
        have sb2 := top_sum LN.out (k + 1)
        have SS := Lib.hid (show (LV.take (k + 1)).sum = (LV.take k).sum + LV[k] by rw [List.take_succ_eq_append_getElem hk1, List.sum_append]; simp)
        have x0 := LN.out LV[k] (List.getElem_mem hk1)
        obtain ⟨x, hx⟩ : ∃ x, x = LV[k] := ⟨_, rfl⟩
        rw [← hx] at c0 SS x0
        rw [SS.out] at sb2
        obtain ⟨sk, hsk⟩ : ∃ z, z = (LV.take k).sum := ⟨_, rfl⟩
        rw [← hsk] at SS sb sb2 ⊢
        have i0 : (0 : Int) ≤ (k : Int) := Int.natCast_nonneg _
        have i1 : (k : Int) < (n : Int) := by omega
        have s1 : IntKind.i64.wrap (sk + x) = sk + x := IntWalk.i64_in _ (by omega)
        have s2 : IntKind.i64.wrap ((k : Int) + 1) = (k : Int) + 1 := IntWalk.i64_in _ (by omega)
        clear hx hsk q st1 sm sb sb2
        go_wp2
        go_roundg (n - (k + 1))
        case measure => rw [G.out]; omega
        case rel => exact ⟨k + 1, by omega, by go_num, rfl, by rw [SS.out], rfl⟩
      · obtain rfl : k = n := by omega
        have i1 : ¬ (k : Int) < (k : Int) := by omega
        have SX := Lib.hid (show (LV.take k).sum = (xl : Int) by rw [List.take_of_length_le (by rw [LL.out]; exact Nat.le_refl _), st1, XL.out])
        clear st1 sm sb
        go_wp2
        go_meet
        exact ⟨by rw [SX.out], Below.refl _ _⟩
  case rest => as_aux_lemma =>
  obtain ⟨rfl, hb11⟩ := hcut
  obtain ⟨w11, rfl⟩ : ∃ x, x = wc := ⟨_, rfl⟩
  have H11 := Lib.hid hb11
  clear hb11
  go_upto_block 2 with fail
  go_cut [25] (fun s25 wx => Below w10.heap.size w10 wx)
  case first => as_aux_lemma =>
    go_wp2_with fail
    go_loopg [25] xl (fun g iv wr => ∃ k : Nat, k ≤ xl ∧ iv = .int .i64 k ∧ g = xl - k ∧ Below w10.heap.size w10 wr)
    case atStart => exact ⟨0, Nat.zero_le _, rfl, rfl, H11.out⟩
    case round => as_aux_lemma =>
      obtain ⟨k, hk, rfl, hg, hb⟩ := hrel
      obtain ⟨w12, rfl⟩ : ∃ x, x = wr := ⟨_, rfl⟩
      have G := Lib.hid hg
      have H12 := Lib.hid hb
      clear hg
      by_cases hlt : k < xl
      · have hk1 : k < X.length := by rw [← XL.out]; exact hlt
        have hk2 : k < (X.map (fun d => (kkT mi d, kkT mi d - ah))).length := by rw [List.length_map]; exact hk1
        obtain ⟨b1, o1, rfl, q1⟩ := XS.out (by omega)
        obtain ⟨b2, o2, rfl, q2⟩ := TS.out (by rw [List.length_map]; omega)
        have c0 := cell_below hb (q1 k hk1)
        have t0 := cell_below hb (q2 k hk2).1
        have t1 := cell_below hb (q2 k hk2).2.1
        rw [List.getElem_map] at t0 t1
        have dm := TX.out.mem X[k] (List.getElem_mem hk1)
        have ZX := Lib.hid (ZL.out X[k] (List.getElem_mem hk1))
        have lo := LD.out.2 X[k] (List.getElem_mem hk1)
        obtain ⟨d, hd⟩ : ∃ d, d = X[k] := ⟨_, rfl⟩
        rw [← hd] at c0 t0 t1 dm ZX lo
        obtain ⟨kd2, hkd⟩ : ∃ z, z = kkT mi d := ⟨_, rfl⟩
        have KE := Lib.hid hkd
        rw [← hkd] at t0 t1 ZX
        simp only at t0 t1
        obtain ⟨fr2, hfr⟩ : ∃ z, z = kd2 - ah := ⟨_, rfl⟩
        rw [← hfr] at t1 ZX
        obtain ⟨ix, hix⟩ : ∃ ix : Nat, (ix : Int) = d - fi := ⟨(d - fi).toNat, by omega⟩
        have hix2 : (d - fi).toNat = ix := by omega
        rw [hix2] at lo
        have hix3 : ix < LV.length := by rw [LL.out]; omega
        obtain ⟨b3, o3, rfl, q3⟩ := LS.out (by omega)
        have l0 := cell_below hb (q3 ix hix3)
        rw [List.getElem?_eq_getElem hix3] at lo
        have lo2 : LV[ix] = 1 := by simpa using lo
        rw [lo2] at l0
        have z0 := cell_below hb Z010.out; have z1 := cell_below hb Z110.out
        have i0 : (0 : Int) ≤ (k : Int) := Int.natCast_nonneg _
        have i1 : (k : Int) < (xl : Int) := by omega
        have s1 : IntKind.i64.wrap (d - 1) = d - 1 := IntWalk.i64_in _ (by omega)
        have s2 : IntKind.i64.wrap ((d - 1) * 1440) = (d - 1) * 1440 := IntWalk.i64_in _ (by omega)
        have s3 : IntKind.i64.wrap ((d - 1) * 1440 + mi) = (d - 1) * 1440 + mi := IntWalk.i64_in _ (by omega)
        have s4 : (d - 1) * 1440 + mi = kd2 := by rw [hkd]; rfl
        clear hd hkd hfr hix2 lo lo2 q1 q2 q3
        go_upto_region 34 with fail
        clear s1 s2 s3 s4
        go_cut [27, 28] (fun s27 s28 wx => s27 = .int .i64 kd2 ∧ s28 = .nilIface ∧ Below w12.heap.size w12 wx)
        case first => as_aux_lemma =>
          go_region_held3 (fun w' => w'.cell? ⟨zb, 0, none⟩ = some (.int .i64 ah) ∧ w'.cell? ⟨zb, 1, none⟩ = some (.slice none 0 0) ∧ w'.cell? ⟨b2, o2 + k * 3 + 1, none⟩ = some (.int .i64 fr2))
            (first | (refine ⟨?_, ?_, ?_⟩ <;> assumption) | (refine ⟨?_, ?_, ?_⟩ <;> (first | exact cell_below hb7 (by assumption))))
            ((go_at_call 19; refine (ZX.out _).mono ?_; rintro e w13 ⟨rfl, hb7⟩))
          have HB := Lib.hid (below_next (Below.refl _ _).drew hb7)
          clear hb7 z0 z1 t0 t1 c0 l0
          go_wp2
          go_meet
          exact ⟨rfl, rfl, HB.out⟩
        case rest => as_aux_lemma =>
        obtain ⟨rfl, rfl, hb13⟩ := hcut
        obtain ⟨w13, rfl⟩ : ∃ x, x = wc := ⟨_, rfl⟩
        have H13 := Lib.hid (H12.out.trans (hb13.mono H12.out.size))
        have c0 := cell_below hb13 c0; have t0 := cell_below hb13 t0; have l0 := cell_below hb13 l0
        have s1 : IntKind.i64.wrap (d - fi) = d - fi := IntWalk.i64_in _ (by omega)
        have s2 : d - fi = (ix : Int) := hix.symm
        have s3 : IntKind.i64.wrap (ix : Int) = (ix : Int) := IntWalk.i64_in _ (by omega)
        have j0 : (0 : Int) ≤ (ix : Int) := Int.natCast_nonneg _
        have j1 : (ix : Int) < (n : Int) := by rw [LL.out] at hix3; omega
        have s5 : IntKind.i64.wrap ((k : Int) + 1) = (k : Int) + 1 := IntWalk.i64_in _ (by omega)
        clear hb13 z0 z1 t1 hix
        go_wp2
        go_roundg (xl - (k + 1))
        case measure => rw [G.out]; omega
        case rel => exact ⟨k + 1, by omega, by go_num, rfl, H13.out⟩
      · obtain rfl : k = xl := by omega
        have i1 : ¬ (k : Int) < (k : Int) := by omega
        go_wp2
        go_meet
        exact H12.out
  case rest => as_aux_lemma =>
  obtain ⟨w12, rfl⟩ : ∃ x, x = wc := ⟨_, rfl⟩
  have B12 := Lib.hid (B10.out.trans (hcut.mono B10.out.size))
  clear hcut
  go_wp2
  go_ret
  exact ⟨by first | rfl | simp, B12.out⟩

end Go.Proofs.YtgelojhpanbnaaaGreatDoor
