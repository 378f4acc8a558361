/- alarm.Span of an event and a zone that are right: its contract. -/
import Derived.Test.YtgelojhpanbnaaaGreatDoorQ27
import Derived.Test.YtgelojhpanbnaaaGreatDoorTimG
namespace Go.Proofs.YtgelojhpanbnaaaGreatDoor
open Go.RowKit Go.Shelf
set_option linter.unusedSimpArgs false
set_option linter.unusedVariables false
attribute [local go_sem] Oper.semAt_some

theorem ringInfo : (Tryz.prog.info? 66).map (fun i => (i.zero, i.size, i.bytes)) = some (some (.agg #[.int .i64 0, .string ⟨#[]⟩, .int .i64 0, .int .i64 0, .int .i64 0]), 5, 48) := by kernel_rfl

/-- rings of one's own that grow: all else that was there stays. -/
structure GrowR (nm : ByteArray) (wb ws : World) (v0 : Value) (wr : World) (v : Value) (L : List Rng) : Prop where
  own : OwnR nm wb.heap.size wr v L
  bl : Below wb.heap.size wb wr
  sz : ws.heap.size ≤ wr.heap.size
  kp : ∀ p u, ws.cell? p = some u → v0.ownBlock ≠ some p.block → wr.cell? p = some u
  ne : ∀ b, v.ownBlock = some b → v0.ownBlock = some b ∨ ws.heap.size ≤ b

theorem GrowR.start {nm : ByteArray} {wb ws : World} {v : Value} {L : List Rng} (h : OwnR nm wb.heap.size ws v L) (hb : Below wb.heap.size wb ws) : GrowR nm wb ws v ws v L :=
  ⟨h, hb, Nat.le_refl _, fun _ _ hp _ => hp, fun _ hb => .inl hb⟩

theorem GrowR.alloc {nm : ByteArray} {wb ws : World} {v0 v : Value} {wr : World} {L : List Rng} (h : GrowR nm wb ws v0 wr v L) (o : Obj) : GrowR nm wb ws v0 (wr.alloc o) v L :=
  ⟨World.ownsRow.alloc h.own o, h.bl.alloc h.bl.size o, by rw [World.size_alloc]; have := h.sz; omega, fun p u hp hn => cell_below ((Below.refl _ _).alloc (Nat.le_refl _) o) (h.kp p u hp hn), h.ne⟩

theorem GrowR.grown {nm : ByteArray} {wb ws : World} {v0 v : Value} {wr w3 : World} {L K : List Rng} {g n c : Nat} (h : GrowR nm wb ws v0 wr v L) (hg : wr.grownBy w3 v.ownBlock) (ho : OwnR nm wb.heap.size w3 (.slice (some ⟨g, 0, none⟩) n c) K) (hv : v.ownBlock = some g ∨ g = wr.heap.size) :
    GrowR nm wb ws v0 w3 (.slice (some ⟨g, 0, none⟩) n c) K := by
  refine ⟨ho, h.bl.grown hg h.bl.size (ownBlock_ge h.own), Nat.le_trans h.sz hg.size, fun p u hp hn => ?_, fun b hb => ?_⟩
  · have h1 := h.kp p u hp hn
    refine hg.cell h1 (fun he => ?_)
    rcases h.ne p.block he.symm with h2 | h2
    · exact hn h2
    · have := World.block_lt_of_cell? ws p hp; omega
  · obtain rfl : g = b := by simpa [Value.ownBlock] using hb
    rcases hv with hv | hv
    · exact h.ne g hv
    · right; have := h.sz; omega

theorem GrowR.comp {nm : ByteArray} {wb ws w2 : World} {v0 v v2 : Value} {wr wr2 : World} {L K : List Rng} (h : GrowR nm wb ws v0 wr v L) (hs : wr.heap.size ≤ w2.heap.size) (hc : ∀ p u, wr.cell? p = some u → w2.cell? p = some u) (h2 : GrowR nm wb w2 v wr2 v2 K) : GrowR nm wb ws v0 wr2 v2 K := by
  refine ⟨h2.own, h2.bl, Nat.le_trans h.sz (Nat.le_trans hs h2.sz), fun p u hp hn => h2.kp p u (hc p u (h.kp p u hp hn)) fun he => ?_, fun b hb => ?_⟩
  · rcases h.ne p.block he with h3 | h3
    · exact hn h3
    · have := World.block_lt_of_cell? ws p hp; omega
  · rcases h2.ne b hb with h3 | h3
    · exact h.ne b h3
    · right; have := h.sz; omega

theorem cell_allocX {w : World} {o : Obj} {p : Addr} {u : Value} (h : w.cell? p = some u) : (w.alloc o).cell? p = some u := cell_below ((Below.refl _ _).alloc (Nat.le_refl _) o) h

theorem GrowR.new {nm : ByteArray} {wb ws : World} {v0 v : Value} {wr : World} {L : List Rng} (h : GrowR nm wb ws v0 wr v L) {b : Nat} (hb : wr.heap.size ≤ b) : v.ownBlock ≠ some b := fun he => by
  have := (World.ownsRow.lt h.own b he).2; omega

theorem turnsL_len (at_ b lo hi wh ix : Int) (n : Nat) : (turnsL at_ b lo hi wh ix n).length ≤ n := by
  unfold turnsL
  have := List.length_filterMap_le (fun (k : Nat) => if timeB (at_ + (k : Int) * b) = true ∧ lo ≤ at_ + (k : Int) * b ∧ at_ + (k : Int) * b ≤ hi then some ((at_ + (k : Int) * b, wh, ix, (k : Int)) : Rng) else none) (List.range n)
  rwa [List.length_range] at this

theorem almsL_len {ln lo hi : Int} {x : Int × Int} : ∀ {L : List Alm} {i : Int}, (∀ a ∈ L, almBad a = false) → (almsL ln lo hi x i L).length ≤ 6 * L.length
  | [], i, _ => by simp [almsL]
  | a :: r, i, h => by
    rw [almsL, List.length_append, List.length_cons]
    have h1 := turnsL_len (almAt a x.2 ln) a.2.2.2 lo hi x.1 i (a.2.2.1 + 1).toNat
    have h2 := alm_ok (h a List.mem_cons_self)
    have h3 := almsL_len (ln := ln) (lo := lo) (hi := hi) (x := x) (L := r) (i := i + 1) (fun b hb => h b (List.mem_cons_of_mem _ hb))
    omega

theorem flat_len {ln lo hi : Int} {A : List Alm} (hA : ∀ a ∈ A, almBad a = false) (hl : A.length ≤ 4) : ∀ R : List (Int × Int), (R.flatMap fun x => almsL ln lo hi x 0 A).length ≤ 24 * R.length
  | [] => by simp
  | x :: R => by
    rw [List.flatMap_cons, List.length_append, List.length_cons]
    have h1 := almsL_len (ln := ln) (lo := lo) (hi := hi) (x := x) (i := 0) hA
    have h2 := flat_len (ln := ln) (lo := lo) (hi := hi) hA hl R
    omega

theorem tmsOf_len (ah : Int) (Z : List (Int × Int)) (B M N : List Int) (C : List (Int × Int)) (ln a b : Int) : (tmsOf ah Z B M N C ln a b).length ≤ B.length + M.length + C.length := by
  unfold tmsOf
  rw [srtT_len]
  refine Nat.le_trans (List.length_filterMap_le _ _) ?_
  unfold whichL
  refine Nat.le_trans (compact_le _) ?_
  rw [srt_len, List.length_append, List.length_map]
  have h1 := evL_len B M N (a - 2000) (b + 2000)
  have h2 : (chgL B M N C).length ≤ C.length := List.length_filter_le ..
  omega

theorem flat_take {f : (Int × Int) → List Rng} {R : List (Int × Int)} {k : Nat} (h : k < R.length) : (R.take (k + 1)).flatMap f = (R.take k).flatMap f ++ f R[k] := by
  rw [List.take_succ_eq_append_getElem h, List.flatMap_append]; simp

theorem OwnR.app {nm : ByteArray} (O : List Rng) (x : Rng) : (O ++ [x]).flatMap (encR nm) = O.flatMap (encR nm) ++ [.int .i64 x.1, .string nm, .int .i64 x.2.1, .int .i64 x.2.2.1, .int .i64 x.2.2.2] := by simp [encR]

/-- are there more rings than may be? -/
def manyE (n : Nat) : Int := if 400 < n then 4 else 0

/-- what alarm.Span answers. -/
def SpanP (nm : ByteArray) (R : List Rng) (w : World) (e : Ending) (w' : World) : Prop := ∃ v, e = .returned (.tuple #[v, errV (manyE R.length)]) ∧ OwnR nm w.heap.size w' v (if manyE R.length = 0 then R else []) ∧ Below w.heap.size w w'

set_option maxRecDepth 100000 in
set_option maxHeartbeats 16000000 in
theorem span_any (snm stx : ByteArray) (st ln : Int) (rp : Bool) (fr ev ct ti : Int) (vm vd vw vp vM vN vC vA : Value) (mo da : List Int) (we : List (Int × Int)) (pk M N : List Int) (C : List (Int × Int)) (A : List Alm) (ah : Int) (vZ : Value) (Z : List (Int × Int)) (lo hi : Int) (w : World) (hw : Months w)
    (hR : EvR w vm vd vw vp vM vN vC vA mo da we pk M N C A) (hF : EvFacts st ln rp fr ev ct ti mo da we pk M N C A) (hZ : PairsR w vZ Z) (hz : zfault ah Z = 0) (ha : -100000000 ≤ lo ∧ lo ≤ 900000000) (hb : -100000000 ≤ hi ∧ hi ≤ 900000000) :
    Calls Tryz.prog 91 #[.agg #[.int .i64 ah, vZ], .agg #[.string snm, .string stx, .int .i64 st, .int .i64 ln, .bool rp, .int .i64 fr, .int .i64 ev, .int .i64 ct, .int .i64 ti, vm, vd, vw, vp, vM, vN, vC, vA], .int .i64 lo, .int .i64 hi] w
      (SpanP snm (ringsL ah Z (ruleT rp st fr ev ct ti mo da we pk) M N C A ln lo hi) w) := by
  have hR0 := hR
  obtain ⟨h1, h2, h3, h4, hM, hN, hC, hA⟩ := hR
  obtain ⟨am, km, rfl, -, -, -⟩ := intsR_open h1
  obtain ⟨ad, kd, rfl, -, -, -⟩ := intsR_open h2
  obtain ⟨aw, kw, rfl, -, -, -⟩ := pairsR_open h3
  obtain ⟨ap, kp, rfl, -, -, -⟩ := intsR_open h4
  obtain ⟨aM, kM, rfl, -, -, -⟩ := intsR_open hM
  obtain ⟨aN, kN, rfl, -, -, -⟩ := intsR_open hN
  obtain ⟨aC, kC, rfl, -, kC2, hds⟩ := pairsR_open hC
  obtain ⟨aA, kA, rfl, -, kA2, hdA⟩ := almsR_open hA
  unfold maxLen at kC2 kA2
  obtain ⟨aZ, kZ, rfl, -, -, -⟩ := pairsR_open hZ
  obtain ⟨eb, heb⟩ : ∃ x, x = w.heap.size := ⟨_, rfl⟩
  obtain ⟨wz, hwz⟩ : ∃ x, x = w.alloc (.cells #[.int .i64 ah, .slice aZ Z.length kZ] 33) := ⟨_, rfl⟩
  have hbz : Below w.heap.size w wz := by rw [hwz]; exact (Below.refl _ _).alloc (Nat.le_refl _) _
  have hsz : wz.heap.size = eb + 1 := by rw [hwz, heb]; simp
  have z0 : wz.cell? ⟨eb, 0, none⟩ = some (.int .i64 ah) := by rw [hwz, heb]; simp
  have z1 : wz.cell? ⟨eb, 1, none⟩ = some (.slice aZ Z.length kZ) := by rw [hwz, heb]; simp
  obtain ⟨w0, hw0⟩ : ∃ x, x = wz.alloc (.cells #[.string snm, .string stx, .int .i64 st, .int .i64 ln, .bool rp, .int .i64 fr, .int .i64 ev, .int .i64 ct, .int .i64 ti, .slice am mo.length km, .slice ad da.length kd, .slice aw we.length kw, .slice ap pk.length kp, .slice aM M.length kM, .slice aN N.length kN, .slice aC C.length kC, .slice aA A.length kA] 29) := ⟨_, rfl⟩
  have hb0 : Below wz.heap.size wz w0 := by rw [hw0]; exact (Below.refl _ _).alloc (Nat.le_refl _) _
  have ec := hw0 ▸ evC_new wz 29 snm stx st ln rp fr ev ct ti (.slice am mo.length km) (.slice ad da.length kd) (.slice aw we.length kw) (.slice ap pk.length kp) (.slice aM M.length kM) (.slice aN N.length kN) (.slice aC C.length kC) (.slice aA A.length kA)
  rw [hsz] at ec
  have z0 := cell_below hb0 z0; have z1 := cell_below hb0 z1
  have hbw : Below w.heap.size w w0 := hbz.trans (hb0.mono hbz.size)
  obtain ⟨T, hT⟩ : ∃ T, T = ruleT rp st fr ev ct ti mo da we pk := ⟨_, rfl⟩
  rw [← hT]
  obtain ⟨R, hRR⟩ : ∃ R, R = tmsOf ah Z T M N C ln (lo - 300000) (hi + 300000) := ⟨_, rfl⟩
  have TO := Lib.hid (show ∀ wx, Below w0.heap.size w0 wx → Calls Tryz.prog 78 #[.agg #[.int .i64 ah, .slice aZ Z.length kZ], .agg #[.string snm, .string stx, .int .i64 st, .int .i64 ln, .bool rp, .int .i64 fr, .int .i64 ev, .int .i64 ct, .int .i64 ti, .slice am mo.length km, .slice ad da.length kd, .slice aw we.length kw, .slice ap pk.length kp, .slice aM M.length kM, .slice aN N.length kN, .slice aC C.length kC, .slice aA A.length kA], .int .i64 (lo - 300000), .int .i64 (hi + 300000)] wx (fun e w' => ∃ v, e = .returned v ∧ OwnT ln wx.heap.size w' v R ∧ Below wx.heap.size wx w') from fun wx hbx => by
    have hbw : Below w.heap.size w wx := hbw.trans (hbx.mono hbw.size)
    rw [hRR, hT]
    exact tof_any snm stx st ln rp fr ev ct ti _ _ _ _ _ _ _ _ mo da we pk M N C A ah _ Z _ _ wx (hw.below hbw) (hR0.below hbw) hF (hZ.below hbw) hz (by omega) (by omega))
  have RT := Lib.hid (show ∀ x ∈ R, 1 ≤ x.2 ∧ x.2 < 157785120 from fun x hx => by
    rw [hRR] at hx
    unfold tmsOf srtT at hx
    rw [List.mem_mergeSort, List.mem_filterMap] at hx
    obtain ⟨t, ht, hwn⟩ := hx
    exact timeB_yes (oneT_which (winT_mem.1 hwn).1).2.1)
  have lR : R.length ≤ 109773 := by
    have h1 := tmsOf_len ah Z T M N C ln (lo - 300000) (hi + 300000)
    rw [← hRR] at h1
    have h2 : T.length ≤ 109573 := by rw [hT]; exact ruleT_len hF.ok
    have h3 := hF.lenM; have h4 := hF.lenC
    omega
  have RU := Lib.hid (show ringsL ah Z T M N C A ln lo hi = srtR (R.flatMap fun x => almsL ln lo hi x 0 A) by rw [ringsL, ringsU, hRR])
  have lnb : 0 ≤ ln ∧ ln ≤ 100000 := hF.ln
  have AL := Lib.hid hF.alm
  have lA : A.length ≤ 4 := hF.lenA
  have HA := Lib.hid (show 0 < A.length → ∃ b off, aA = some ⟨b, off, none⟩ ∧ ∀ j (hj : j < A.length), w0.cell? ⟨b, off + j * 4, none⟩ = some (.int .i64 A[j].1) ∧ w0.cell? ⟨b, off + j * 4 + 1, none⟩ = some (.bool A[j].2.1) ∧ w0.cell? ⟨b, off + j * 4 + 2, none⟩ = some (.int .i64 A[j].2.2.1) ∧ w0.cell? ⟨b, off + j * 4 + 3, none⟩ = some (.int .i64 A[j].2.2.2) from fun hp => by
    obtain ⟨b, off, e1, e2⟩ := hdA hp
    exact ⟨b, off, e1, fun j hj => ⟨cell_below hbw (e2 j hj).1, cell_below hbw (e2 j hj).2.1, cell_below hbw (e2 j hj).2.2.1, cell_below hbw (e2 j hj).2.2.2⟩⟩)
  have EC := Lib.hid ec; have BW := Lib.hid hbw; have WZ := Lib.hid hwz; have W0 := Lib.hid hw0; have EB := Lib.hid heb
  have Z0 := Lib.hid z0; have Z1 := Lib.hid z1
  have wa : IntKind.i64.wrap (lo - 300000) = lo - 300000 := IntWalk.i64_in _ (by omega)
  have wb : IntKind.i64.wrap (hi + 300000) = hi + 300000 := IntWalk.i64_in _ (by omega)
  clear hR0 h1 h2 h3 h4 hM hN hC hA hw hF hZ hz hwz hbz hsz hw0 hb0 ec hbw hT heb hds hdA hRR
  go_enter Tryz.func91, Tryz.ntmps91
  go_upto_region 1 with fail
  rw [← WZ.out, ← W0.out]
  rw [← EB.out]
  go_upto_region 2 with fail
  have k0 := EC.out.k0; have k1 := EC.out.k1; have k2 := EC.out.k2; have k3 := EC.out.k3; have k4 := EC.out.k4; have k5 := EC.out.k5; have k6 := EC.out.k6; have k7 := EC.out.k7; have k8 := EC.out.k8; have k9 := EC.out.k9; have k10 := EC.out.k10; have k11 := EC.out.k11; have k12 := EC.out.k12; have k13 := EC.out.k13; have k14 := EC.out.k14; have k15 := EC.out.k15; have k16 := EC.out.k16
  go_cut [24, 25, 26] (fun s24 s25 s26 wx => ∃ va, ∃ vc : Nat, s24 = .slice va R.length vc ∧ s25 = .int .i64 R.length ∧ s26 = .int .i64 0 ∧ OwnT ln w0.heap.size wx (.slice va R.length vc) R ∧ Below w0.heap.size w0 wx)
  case first => as_aux_lemma =>
    go_wp2_with fail
    refine (TO.out _ (Below.refl _ _)).mono ?_; rintro e w1 ⟨v, rfl, hv, hbv⟩
    obtain ⟨va, vc, rfl, -, -, -⟩ := owns_cells hv
    have HV := Lib.hid hv; have HB := Lib.hid hbv
    clear hv hbv z0 z1 k0 k1 k2 k3 k4 k5 k6 k7 k8 k9 k10 k11 k12 k13 k14 k15 k16
    go_wp2
    go_meet
    exact ⟨_, _, rfl, rfl, rfl, HV.out, HB.out⟩
  case rest =>
  clear z0 z1 wa wb k0 k1 k2 k3 k4 k5 k6 k7 k8 k9 k10 k11 k12 k13 k14 k15 k16
  obtain ⟨va, vc, rfl, rfl, rfl, hv, hb1⟩ := hcut
  obtain ⟨w1, rfl⟩ : ∃ x, x = wc := ⟨_, rfl⟩
  obtain ⟨va', vc', e1, -, -, hcs⟩ := owns_cells hv
  cases e1
  have HD := Lib.hid (show 0 < R.length → ∃ g, va = some ⟨g, 0, none⟩ ∧ ∀ (k : Nat) (hk : k < R.length), w1.cell? ⟨g, k * 3, none⟩ = some (.int .i64 R[k].1) ∧ w1.cell? ⟨g, k * 3 + 1, none⟩ = some (.int .i64 R[k].2) ∧ w1.cell? ⟨g, k * 3 + 2, none⟩ = some (.int .i64 (R[k].2 + ln)) from fun hp => by
    obtain ⟨g, e1, -, q⟩ := hcs hp
    refine ⟨g, e1, fun k hk => ⟨q (k * 3) _ ?_, q (k * 3 + 1) _ ?_, q (k * 3 + 2) _ ?_⟩⟩
    · have := flatMap_at (enc := encT ln) (k := 3) (fun _ => rfl) R k 0 hk (by omega); simpa [encT] using this
    · have := flatMap_at (enc := encT ln) (k := 3) (fun _ => rfl) R k 1 hk (by omega); simpa [encT] using this
    · have := flatMap_at (enc := encT ln) (k := 3) (fun _ => rfl) R k 2 hk (by omega); simpa [encT] using this)
  have B1 := Lib.hid hb1
  have E1 := Lib.hid (EC.out.below hb1)
  clear hv hb1 hcs
  obtain ⟨it, hit, ht0, ht1, ht2⟩ := info_parts ringInfo
  go_wp2_with fail
  go_loopg [10, 26] R.length (fun g ov iv wr => ∃ k : Nat, k ≤ R.length ∧ iv = .int .i64 k ∧ g = R.length - k ∧ GrowR snm w1 w1 (.slice none 0 0) wr ov ((R.take k).flatMap fun x => almsL ln lo hi x 0 A))
  case atStart => exact ⟨0, Nat.zero_le _, rfl, rfl, GrowR.start (World.ownsRow_nil _ _ _ _) (Below.refl _ _)⟩
  case round => as_aux_lemma =>
    obtain ⟨k, hk, rfl, hg, ho⟩ := hrel
    obtain ⟨wo, rfl⟩ : ∃ z, z = wr := ⟨_, rfl⟩
    have G := Lib.hid hg; have OW := Lib.hid ho
    clear hg
    by_cases hlt : k < R.length
    · obtain ⟨kb, rfl, hcs⟩ := HD.out (by omega)
      have q0 := cell_below ho.bl (hcs k hlt).1
      have q1 := cell_below ho.bl (hcs k hlt).2.1
      have q2 := cell_below ho.bl (hcs k hlt).2.2
      obtain ⟨x, hx⟩ : ∃ x, x = R[k] := ⟨_, rfl⟩
      rw [← hx] at q0 q1 q2
      have HT := Lib.hid (show ((R.take (k + 1)).flatMap fun x => almsL ln lo hi x 0 A) = ((R.take k).flatMap fun x => almsL ln lo hi x 0 A) ++ almsL ln lo hi x 0 A by rw [flat_take hlt, hx])
      have hxb := RT.out x (by rw [hx]; exact List.getElem_mem _)
      obtain ⟨O, hO⟩ : ∃ O, O = (R.take k).flatMap fun x => almsL ln lo hi x 0 A := ⟨_, rfl⟩
      have ol : O.length ≤ 2634552 := by
        have h1 := flat_len (ln := ln) (lo := lo) (hi := hi) AL.out lA (R.take k)
        have h2 := List.length_take_le k R
        rw [hO]; omega
      rw [← hO] at OW HT
      obtain ⟨oa, oc, rfl, -, -, -⟩ := owns_cells OW.out.own
      obtain ⟨x1, x2⟩ := x
      simp only at q0 q1 q2 hxb
      obtain ⟨y, hy⟩ : ∃ y, y = x2 + ln := ⟨_, rfl⟩
      rw [← hy] at q2
      have Y := Lib.hid hy
      have hyb : 1 ≤ y ∧ y < 157885121 := by omega
      obtain ⟨wt, hwt⟩ : ∃ z, z = wo.alloc (.cells #[.int .i64 x1, .int .i64 x2, .int .i64 y] 54) := ⟨_, rfl⟩
      obtain ⟨tb, htb⟩ : ∃ z, z = wo.heap.size := ⟨_, rfl⟩
      have GT := Lib.hid (show GrowR snm w1 wt (.slice oa O.length oc) wt (.slice oa O.length oc) O from GrowR.start (by rw [hwt]; exact (OW.out.alloc _).own) (by rw [hwt]; exact (OW.out.alloc _).bl))
      have CT := Lib.hid (show wt.cell? ⟨tb, 0, none⟩ = some (.int .i64 x1) ∧ wt.cell? ⟨tb, 1, none⟩ = some (.int .i64 x2) ∧ wt.cell? ⟨tb, 2, none⟩ = some (.int .i64 y) by rw [hwt, htb]; exact ⟨by simp, by simp, by simp⟩)
      have CW := Lib.hid (show ∀ p u, wo.cell? p = some u → wt.cell? p = some u by rw [hwt]; exact fun p u h => cell_allocX h)
      have SW := Lib.hid (show wo.heap.size ≤ wt.heap.size by rw [hwt, World.size_alloc]; omega)
      have NT := Lib.hid (OW.out.new (b := tb) (by omega))
      have WT := Lib.hid hwt; have TB := Lib.hid htb
      have k16 := (E1.out.below GT.out.bl).k16
      clear hx hO hcs hy hwt htb ho
      have i0 : (0 : Int) ≤ (k : Int) := Int.natCast_nonneg _
      have i2 : (k : Int) < (R.length : Int) := by omega
      go_upto_region 5 with fail
      rw [← WT.out]
      rw [← TB.out]
      clear q0 q1 q2
      go_wp2_with fail
      clear k16
      go_loopg [10, 33] A.length (fun g pv iv wx => ∃ j : Nat, j ≤ A.length ∧ iv = .int .i64 j ∧ g = A.length - j ∧ GrowR snm w1 wt (.slice oa O.length oc) wx pv (O ++ almsL ln lo hi (x1, x2) 0 (A.take j)))
      case atStart => exact ⟨0, Nat.zero_le _, rfl, rfl, by simpa [almsL] using GT.out⟩
      case round =>
        obtain ⟨j, hj, rfl, hg2, ho2⟩ := hrel
        obtain ⟨wx, rfl⟩ : ∃ z, z = wr := ⟨_, rfl⟩
        have G2 := Lib.hid hg2; have OW2 := Lib.hid ho2
        clear hg2
        by_cases hlt2 : j < A.length
        · obtain ⟨ab0, aof, rfl, hcs⟩ := HA.out (by omega)
          have hbx := B1.out.trans (ho2.bl.mono B1.out.size)
          have q0 := cell_below hbx (hcs j hlt2).1
          have q1 := cell_below hbx (hcs j hlt2).2.1
          have q2 := cell_below hbx (hcs j hlt2).2.2.1
          have q3 := cell_below hbx (hcs j hlt2).2.2.2
          obtain ⟨al, hal⟩ : ∃ x, x = A[j] := ⟨_, rfl⟩
          rw [← hal] at q0 q1 q2 q3
          have aok := alm_ok (AL.out al (by rw [hal]; exact List.getElem_mem _))
          have HT2 := Lib.hid (show almsL ln lo hi (x1, x2) 0 (A.take (j + 1)) = almsL ln lo hi (x1, x2) 0 (A.take j) ++ turnsL (almAt al x2 ln) al.2.2.2 lo hi x1 (j : Int) (al.2.2.1 + 1).toNat by
            rw [List.take_succ_eq_append_getElem hlt2, almsL_snoc, ← hal, List.length_take, Nat.min_eq_left (by omega)]; simp)
          obtain ⟨af, ae, ar, ab⟩ := al
          simp only at q0 q1 q2 q3 aok HT2
          obtain ⟨P, hP⟩ : ∃ P, P = O ++ almsL ln lo hi (x1, x2) 0 (A.take j) := ⟨_, rfl⟩
          have pl : P.length ≤ 2634576 := by
            have h1 := almsL_len (ln := ln) (lo := lo) (hi := hi) (x := (x1, x2)) (i := 0) (L := A.take j) (fun a ha => AL.out a (List.mem_of_mem_take ha))
            have h2 := List.length_take_le j A
            rw [hP, List.length_append]; omega
          have PE := Lib.hid (show P ++ turnsL (almAt (af, ae, ar, ab) x2 ln) ab lo hi x1 (j : Int) (ar + 1).toNat = O ++ almsL ln lo hi (x1, x2) 0 (A.take (j + 1)) by rw [HT2.out, hP, List.append_assoc])
          rw [← hP] at OW2
          obtain ⟨pa, pc, rfl, -, -, -⟩ := owns_cells OW2.out.own
          obtain ⟨at_, hat⟩ : ∃ z, z = almAt (af, ae, ar, ab) x2 ln := ⟨_, rfl⟩
          have AT := Lib.hid (show at_ = if ae = true then y + af else x2 + af by rw [hat, almAt, Y.out])
          have atb : -100000 ≤ at_ ∧ at_ ≤ 158000000 := by
            have := AT.out
            cases ae
            · rw [if_neg (by simp)] at this; omega
            · rw [if_pos rfl] at this; omega
          rw [← hat] at PE
          obtain ⟨wa, hwa⟩ : ∃ z, z = wx.alloc (.cells #[.int .i64 af, .bool ae, .int .i64 ar, .int .i64 ab] 84) := ⟨_, rfl⟩
          obtain ⟨ag, hag⟩ : ∃ z, z = wx.heap.size := ⟨_, rfl⟩
          have GA := Lib.hid (show GrowR snm w1 wa (.slice pa P.length pc) wa (.slice pa P.length pc) P from GrowR.start (by rw [hwa]; exact (OW2.out.alloc _).own) (by rw [hwa]; exact (OW2.out.alloc _).bl))
          have t0 := OW2.out.kp _ _ CT.out.1 NT.out
          have t1 := OW2.out.kp _ _ CT.out.2.1 NT.out
          have t2 := OW2.out.kp _ _ CT.out.2.2 NT.out
          have CA := Lib.hid (show (wa.cell? ⟨ag, 0, none⟩ = some (.int .i64 af) ∧ wa.cell? ⟨ag, 1, none⟩ = some (.bool ae) ∧ wa.cell? ⟨ag, 2, none⟩ = some (.int .i64 ar) ∧ wa.cell? ⟨ag, 3, none⟩ = some (.int .i64 ab)) ∧ wa.cell? ⟨tb, 0, none⟩ = some (.int .i64 x1) ∧ wa.cell? ⟨tb, 1, none⟩ = some (.int .i64 x2) ∧ wa.cell? ⟨tb, 2, none⟩ = some (.int .i64 y) by
            rw [hwa, hag]; exact ⟨⟨by simp, by simp, by simp, by simp⟩, cell_allocX t0, cell_allocX t1, cell_allocX t2⟩)
          have CW2 := Lib.hid (show ∀ p u, wx.cell? p = some u → wa.cell? p = some u by rw [hwa]; exact fun p u h => cell_allocX h)
          have SW2 := Lib.hid (show wx.heap.size ≤ wa.heap.size by rw [hwa, World.size_alloc]; omega)
          have NA := Lib.hid (OW2.out.new (b := ag) (by omega))
          have NT2 := Lib.hid (show ∀ b, (Value.slice pa P.length pc).ownBlock = some b → b ≠ tb from fun b hb he => by
            subst he
            rcases OW2.out.ne _ hb with h3 | h3
            · exact NT.out h3
            · have := World.block_lt_of_cell? wt _ CT.out.1; simp only at this; omega)
          have WA := Lib.hid hwa; have AG := Lib.hid hag
          have i4 : (0 : Int) ≤ (j : Int) := Int.natCast_nonneg _
          have i5 : (j : Int) < (A.length : Int) := by omega
          clear hal hcs hbx hP hat hwa hag ho2 t0 t1 t2 HT2
          go_upto_region 8 with fail
          rw [← WA.out]
          rw [← AG.out]
          clear q0 q1 q2 q3
          obtain ⟨⟨a0, a1, a2, a3⟩, t0, t1, t2⟩ := CA.out
          have s1 : IntKind.i64.wrap (x2 + af) = x2 + af := IntWalk.i64_in _ (by omega)
          have s2 : IntKind.i64.wrap (y + af) = y + af := IntWalk.i64_in _ (by omega)
          go_upto_if 44 with fail
          go_cut [15] (fun s15 wz => s15 = .int .i64 at_ ∧ wa = wz)
          case first => as_aux_lemma =>
            cases ae
            · have A2 := Lib.hid (show at_ = x2 + af by rw [AT.out, if_neg (by simp)])
              go_wp2
              go_meet
              exact ⟨by rw [A2.out], rfl⟩
            · have A2 := Lib.hid (show at_ = y + af by rw [AT.out, if_pos rfl])
              go_wp2
              go_meet
              exact ⟨by rw [A2.out], rfl⟩
          case rest =>
          obtain ⟨rfl, rfl⟩ := hcut
          obtain ⟨n, hn⟩ : ∃ n, n = (ar + 1).toNat := ⟨_, rfl⟩
          have hn2 : ar + 1 = (n : Int) := by omega
          have hn6 : n ≤ 6 := by omega
          rw [← hn] at PE
          have s3 : IntKind.i64.wrap (ar + 1) = (n : Int) := by rw [hn2]; exact IntWalk.i64_in _ (by omega)
          clear hn s1 s2
          go_wp2_with fail
          clear a0 a1 a2 a3 t0 t1 t2 s3
          go_loopg [10, 53] n (fun g qv iv wy => ∃ m : Nat, m ≤ n ∧ iv = .int .i64 m ∧ g = n - m ∧ GrowR snm w1 wa (.slice pa P.length pc) wy qv (P ++ turnsL at_ ab lo hi x1 (j : Int) m))
          case atStart => exact ⟨0, Nat.zero_le _, rfl, rfl, by simpa [turnsL] using GA.out⟩
          case round => as_aux_lemma =>
            obtain ⟨m, hm, rfl, hg3, ho3⟩ := hrel
            obtain ⟨wy, rfl⟩ : ∃ z, z = wr := ⟨_, rfl⟩
            have G3 := Lib.hid hg3; have OW3 := Lib.hid ho3
            clear hg3 ho3
            by_cases hlt3 : m < n
            · obtain ⟨mb, hmb⟩ : ∃ z, z = (m : Int) * ab := ⟨_, rfl⟩
              have mb0 : 0 ≤ mb := by rw [hmb]; exact Int.mul_nonneg (by omega) (by omega)
              have mb1 : mb ≤ 60000 := by
                rw [hmb]
                exact Int.le_trans (Int.mul_le_mul_of_nonneg_left aok.2.2.2.2.2.1 (by omega)) (by omega)
              obtain ⟨r, hr⟩ : ∃ z, z = at_ + mb := ⟨_, rfl⟩
              have HT3 := Lib.hid (show P ++ turnsL at_ ab lo hi x1 (j : Int) (m + 1) = (P ++ turnsL at_ ab lo hi x1 (j : Int) m) ++ (if timeB r = true ∧ lo ≤ r ∧ r ≤ hi then [(r, x1, (j : Int), (m : Int))] else []) by
                rw [turnsL_succ, ← hmb, ← hr, List.append_assoc])
              obtain ⟨Q, hQ⟩ : ∃ Q, Q = P ++ turnsL at_ ab lo hi x1 (j : Int) m := ⟨_, rfl⟩
              have ql : Q.length ≤ 2634600 := by
                have h1 := turnsL_len at_ ab lo hi x1 (j : Int) m
                rw [hQ, List.length_append]; omega
              rw [← hQ] at OW3 HT3
              have a3 := OW3.out.kp _ _ CA.out.1.2.2.2 NA.out
              have t0 := OW3.out.kp _ _ CA.out.2.1 (fun h => NT2.out _ h rfl)
              have k0 := (E1.out.below OW3.out.bl).k0
              obtain ⟨qa, qc, rfl, -, -, -⟩ := owns_cells OW3.out.own
              have s1 : IntKind.i64.wrap ((m : Int) * ab) = mb := by rw [← hmb]; exact IntWalk.i64_in _ (by omega)
              have s2 : IntKind.i64.wrap (at_ + mb) = r := by rw [← hr]; exact IntWalk.i64_in _ (by omega)
              obtain ⟨q, hq⟩ : ∃ q, q = timeB r := ⟨_, rfl⟩
              have QB := Lib.hid hq
              have i6 : (m : Int) < (n : Int) := by omega
              clear hmb hr hQ hq
              go_wp2_with fail
              refine (valid_q r q _ QB.out).mono ?_; rintro e w2 ⟨rfl, rfl⟩
              have nxt : ∀ b : Prop, [Decidable b] → ¬ b → (timeB r = true ∧ lo ≤ r ∧ r ≤ hi → b) → P ++ turnsL at_ ab lo hi x1 (j : Int) (m + 1) = Q := fun b _ h1 h2 => by rw [HT3.out, if_neg (fun h => h1 (h2 h)), List.append_nil]
              cases q
              · have N2 := Lib.hid (show P ++ turnsL at_ ab lo hi x1 (j : Int) (m + 1) = Q by rw [HT3.out, if_neg (by rw [← QB.out]; simp), List.append_nil])
                clear nxt
                go_wp2
                go_roundg (n - (m + 1))
                case measure => rw [G3.out]; omega
                case rel => exact ⟨m + 1, by omega, by go_num, rfl, by rw [N2.out]; exact OW3.out⟩
              by_cases g1 : lo ≤ r
              · by_cases g2 : r ≤ hi
                · have N2 := Lib.hid (show P ++ turnsL at_ ab lo hi x1 (j : Int) (m + 1) = Q ++ [(r, x1, (j : Int), (m : Int))] by rw [HT3.out, if_pos ⟨QB.out.symm, g1, g2⟩])
                  have d1 : decide (lo ≤ r) = true := decide_eq_true g1
                  have d2 : decide (r ≤ hi) = true := decide_eq_true g2
                  obtain ⟨ro, hro⟩ : ∃ o : Obj, o = .cells #[.int .i64 r, .string snm, .int .i64 x1, .int .i64 j, .int .i64 m] 66 := ⟨_, rfl⟩
                  have RO : ∀ jj u, ([.int .i64 r, .string snm, .int .i64 x1, .int .i64 j, .int .i64 m] : List Value)[jj]? = some u → (wy.alloc ro).cell? ((⟨wy.heap.size, 0, none⟩ : Addr).add jj) = some u := fun jj u hj => by
                    rw [hro]
                    match jj, hj with
                    | 0, hj => (simp at hj; subst hj; simp [Addr.add])
                    | 1, hj => (simp at hj; subst hj; simp [Addr.add])
                    | 2, hj => (simp at hj; subst hj; simp [Addr.add])
                    | 3, hj => (simp at hj; subst hj; simp [Addr.add])
                    | 4, hj => (simp at hj; subst hj; simp [Addr.add])
                  have OP := Lib.hid (OW3.out.alloc ro)
                  have hsz := OP.out.bl.size
                  rw [hro] at RO OP hsz
                  clear g1 g2 nxt hro
                  go_wp2_with (at_builtin; refine wpList_append_lies _ rfl _ _ 62 rfl w1.heap.size 66 it _ 5 48 Tryz.underlying62 hit ht0 ht1 ht2 rfl (by decide) (.slice qa Q.length qc) Q.length (Q.flatMap (encR snm)) rfl OP.out.own ⟨wy.heap.size, 0, none⟩ 1 1 [.int .i64 r, .string snm, .int .i64 x1, .int .i64 j, .int .i64 m] rfl rfl RO (by simp [Value.oneCell']) (by omega) (by unfold maxLen; omega) (by omega) hsz _ rfl ?_; intro g4 c4 w4 hown4 hg4 hat4 hlt4)
                  have OX := Lib.hid (OP.out.grown hg4 (K := Q ++ [(r, x1, (j : Int), (m : Int))]) (n := Q.length + 1) (c := c4) (by unfold OwnR; rw [List.length_append, OwnR.app]; exact hown4) (by rcases hat4 with h | h; exact .inl h; exact .inr (by rw [h])))
                  clear hown4 hg4 hat4 RO a3 t0 k0
                  go_wp2
                  go_roundg (n - (m + 1))
                  case measure => rw [G3.out]; omega
                  case rel => exact ⟨m + 1, by omega, by go_num, rfl, by rw [N2.out]; exact OX.out⟩
                · have N2 := Lib.hid (nxt (r ≤ hi) g2 (fun h => h.2.2))
                  have d1 : decide (lo ≤ r) = true := decide_eq_true g1
                  have d2 : decide (r ≤ hi) = false := decide_eq_false g2
                  clear g1 g2 nxt
                  go_wp2
                  go_roundg (n - (m + 1))
                  case measure => rw [G3.out]; omega
                  case rel => exact ⟨m + 1, by omega, by go_num, rfl, by rw [N2.out]; exact OW3.out⟩
              · have N2 := Lib.hid (nxt (lo ≤ r) g1 (fun h => h.2.1))
                have d1 : decide (lo ≤ r) = false := decide_eq_false g1
                clear g1 nxt
                go_wp2
                go_roundg (n - (m + 1))
                case measure => rw [G3.out]; omega
                case rel => exact ⟨m + 1, by omega, by go_num, rfl, by rw [N2.out]; exact OW3.out⟩
            · obtain rfl : m = n := by omega
              have i6 : ¬ (m : Int) < (m : Int) := by omega
              go_wp2
              go_roundg (A.length - (j + 1))
              case measure => rw [G2.out]; omega
              case rel => exact ⟨j + 1, by omega, by go_num, rfl, by rw [← PE.out]; exact OW2.out.comp SW2.out CW2.out OW3.out⟩
        · obtain rfl : j = A.length := by omega
          have i5 : ¬ (A.length : Int) < (A.length : Int) := by omega
          rw [List.take_length] at OW2
          clear ho2
          go_wp2
          go_roundg (R.length - (k + 1))
          case measure => rw [G.out]; omega
          case rel => exact ⟨k + 1, by omega, by go_num, rfl, by rw [HT.out]; exact OW.out.comp SW.out CW.out OW2.out⟩
    · obtain rfl : k = R.length := by omega
      have i2 : ¬ (R.length : Int) < (R.length : Int) := by omega
      rw [List.take_length] at OW
      obtain ⟨O, hO⟩ : ∃ O, O = R.flatMap fun x => almsL ln lo hi x 0 A := ⟨_, rfl⟩
      have ol : O.length ≤ 2634552 := by
        have h1 := flat_len (ln := ln) (lo := lo) (hi := hi) AL.out lA R
        rw [hO]; omega
      rw [← hO] at OW RU
      have RL := Lib.hid (show (ringsL ah Z T M N C A ln lo hi).length = O.length by rw [RU.out, srtR_len])
      obtain ⟨oa, oc, rfl, -, -, -⟩ := owns_cells OW.out.own
      clear hO ho
      by_cases hl : 400 < O.length
      · have t1 : decide ((400 : Int) < (O.length : Int)) = true := decide_eq_true (by omega)
        have t1b : decide (400 < O.length) = true := decide_eq_true hl
        have ME := Lib.hid (show manyE (ringsL ah Z T M N C A ln lo hi).length = 4 by rw [RL.out, manyE, if_pos hl])
        clear hl
        go_wp2
        go_ret2
        exact ⟨_, by rw [ME.out]; rfl, by rw [ME.out, if_neg (by decide)]; exact World.ownsRow_nil _ _ _ _, BW.out.trans ((B1.out.trans (OW.out.bl.mono B1.out.size)).mono BW.out.size)⟩
      · have t1 : decide ((400 : Int) < (O.length : Int)) = false := decide_eq_false (by omega)
        have t1b : decide (400 < O.length) = false := decide_eq_false hl
        have ME := Lib.hid (show manyE (ringsL ah Z T M N C A ln lo hi).length = 0 by rw [RL.out, manyE, if_neg hl])
        clear hl
        go_wp2_with fail
        refine (sortR_any snm _ O _ OW.out.own (by omega)).mono ?_; rintro e w7 ⟨rfl, hs7, hg7⟩
        have B7 := Lib.hid (OW.out.bl.grown hg7 OW.out.bl.size (ownBlock_ge OW.out.own))
        have V7 := Lib.hid hs7
        clear hs7 hg7
        go_wp2
        go_ret2
        exact ⟨_, by rw [ME.out]; rfl, by rw [ME.out, if_pos rfl, RU.out]; unfold OwnR; rw [srtR_len]; have h := V7.out; unfold OwnR at h; rw [srtR_len] at h; exact World.ownsRow.mono h (Nat.le_trans BW.out.size B1.out.size), BW.out.trans ((B1.out.trans (B7.out.mono B1.out.size)).mono BW.out.size)⟩

end Go.Proofs.YtgelojhpanbnaaaGreatDoor
