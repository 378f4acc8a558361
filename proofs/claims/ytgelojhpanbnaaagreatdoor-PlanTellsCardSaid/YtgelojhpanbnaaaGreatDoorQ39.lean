/- Texts joined into one (a claim has at most 60 files): The law PlanTells, plainly: where two groups of events have time, told in two ways; The law PlanTells: what any events take, which meet, where all have time, how many are on each day of any month: the walk; The law PlanTells, as its frame takes it. -/
import Derived.Test.YtgelojhpanbnaaaGreatDoorQ20
import Derived.Test.YtgelojhpanbnaaaGreatDoorQ37
import Derived.Test.YtgelojhpanbnaaaGreatDoorQ38
import Derived.Test.YtgelojhpanbnaaaGreatDoorRefLd
import Derived.Test.YtgelojhpanbnaaaGreatDoorRefEv
import Derived.Test.YtgelojhpanbnaaaGreatDoorQ40
import Derived.Test.YtgelojhpanbnaaaGreatDoorQ33
import Derived.Test.YtgelojhpanbnaaaGreatDoorQ36
import Derived.Test.YtgelojhpanbnaaaGreatDoorQ21
import Derived.ChangeKeysEq
namespace Go.Proofs.YtgelojhpanbnaaaGreatDoor
open Go.RowKit Go.Shelf
set_option linter.unusedSimpArgs false
set_option linter.unusedVariables false

theorem tk_two {A B : List (Int × Int)} (h1 : ∀ x ∈ A, x.1 ≤ x.2) (h2 : ∀ x ∈ B, x.1 ≤ x.2) : normL (tkL [A, B]) = normL (normL B ++ normL A) := by
  have g : ∀ K ∈ [A, B], ∀ b ∈ K, b.1 ≤ b.2 := fun K hK => by
    rcases List.mem_cons.1 hK with rfl | hK
    · exact h1
    · obtain rfl := List.mem_singleton.1 hK; exact h2
  have up : ∀ {L : List (Int × Int)}, (∀ x ∈ L, x.1 ≤ x.2) → ∀ x ∈ normL L, x.1 ≤ x.2 := fun {L} h x hx => by
    have := ofL_up h x (by rw [ofL_norm h]; exact hx)
    exact this
  have h3 : ∀ x ∈ normL B ++ normL A, x.1 ≤ x.2 := fun x hx => by
    rcases List.mem_append.1 hx with h | h
    · exact up h2 x h
    · exact up h1 x h
  refine sep_uniq _ _ (norm_sep (tkL_up g)) (norm_sep h3) fun t => ?_
  rw [norm_cov (tkL_up g), norm_cov h3, tkL_cov g, covB_append, norm_cov h2, norm_cov h1]
  simp [Bool.or_comm]

def twoF (E1 E2 : Int) (K1 K2 : List (Int × Int)) (a b n : Int) : Int := if E1 ≠ 0 then E1 else if E2 ≠ 0 then E2 else if strE a b ≠ 0 then strE a b else bfirstE n (freeL b (normL (normL K2 ++ normL K1)) a)
def twoV (E1 E2 : Int) (K1 K2 : List (Int × Int)) (a b n : Int) : Int := if E1 ≠ 0 then 0 else if E2 ≠ 0 then 0 else if strE a b ≠ 0 then 0 else firstV n (freeL b (normL (normL K2 ++ normL K1)) a)

theorem meet_two (g1 g2 : Grp) (a b n : Int) : meetF [g1, g2] a b n = twoF (g1.E a b) (g2.E a b) (g1.K a b) (g2.K a b) a b n ∧ meetV [g1, g2] a b n = twoV (g1.E a b) (g2.E a b) (g1.K a b) (g2.K a b) a b n := by
  unfold meetF meetV twoF twoV
  have e0 : fstE ([g1, g2].map (Grp.E a b)) = if g1.E a b ≠ 0 then g1.E a b else g2.E a b := by
    simp only [List.map_cons, List.map_nil, fstE]
    by_cases h : g1.E a b ≠ 0
    · rw [if_pos h, if_pos h]
    · rw [if_neg h, if_neg h]
      by_cases h2 : g2.E a b ≠ 0
      · rw [if_pos h2]
      · rw [if_neg h2]; omega
  rw [e0]
  by_cases h1 : g1.E a b ≠ 0
  · simp only [if_pos h1]; exact ⟨trivial, trivial⟩
  · rw [if_neg h1]
    simp only [if_neg h1]
    by_cases h2 : g2.E a b ≠ 0
    · simp only [if_pos h2]; exact ⟨trivial, trivial⟩
    · simp only [if_neg h2]
      have u1 := grp_up (show g1.E a b = 0 by omega)
      have u2 := grp_up (show g2.E a b = 0 by omega)
      have e1 : [g1, g2].map (Grp.K a b) = [g1.K a b, g2.K a b] := rfl
      unfold seekE seekV
      rw [e1, tk_two u1 u2]
      exact ⟨rfl, rfl⟩

end Go.Proofs.YtgelojhpanbnaaaGreatDoor

namespace Go.Proofs.YtgelojhpanbnaaaGreatDoor
open Go.RowKit Go.Shelf
set_option linter.unusedSimpArgs false
set_option linter.unusedVariables false
attribute [local go_sem] Oper.semAt_some

theorem reads_new2 {w : World} {t : TypeId} {k n : Nat} (xs : List Value) (hl : xs.length = n * k) (hn : n ≤ maxLen) : Reads (w.alloc (.cells xs.toArray t)) (.slice (some ⟨w.heap.size, 0, none⟩) n n) k n xs :=
  ⟨_, n, rfl, hl, Nat.le_refl _, hn, fun _ => ⟨w.heap.size, 0, rfl, fun j u hj => by rw [Nat.zero_add, World.cell?_alloc_new, List.getElem?_toArray]; exact hj⟩⟩

def sizeP (y m : Int) : Int := if Cal.monthB y m = true then Cal.dim y m else 0

theorem rsizeP_any (y m : Int) (w : World) :
    Calls Tryz.prog 48 #[.int .i64 y, .int .i64 m] w fun e w' => e = .returned (.int .i64 (sizeP y m)) ∧ w = w' := by
  by_cases h : Cal.monthB y m = true
  · rw [sizeP, if_pos h]; exact rdays_yes y m w h
  · rw [sizeP, if_neg h]; exact rdays_no y m w (by simpa using h)

def lodE0 (y m : Int) (k : Nat) : Int := if Cal.monthB y m = true then (if 20 < k then 4 else 0) else 1

theorem lodE_two (y m : Int) (L : List Ev) : lodE y m L = if lodE0 y m L.length ≠ 0 then lodE0 y m L.length else fstE (L.map Ev.F) := by
  unfold lodE lodE0
  by_cases h : Cal.monthB y m = true
  · rw [if_pos h, if_pos h]
    by_cases h2 : 20 < L.length
    · rw [if_pos h2, if_pos h2]; rfl
    · rw [if_neg h2, if_neg h2]; rfl
  · rw [if_neg h, if_neg h]; rfl

theorem fstE_nz {es : List Int} {k : Nat} (h : fstE (es.take k) ≠ 0) : fstE es = fstE (es.take k) := by
  have h2 : fstE es = fstE (es.take k ++ es.drop k) := by rw [List.take_append_drop]
  rw [h2, fstE_app, if_pos h]

theorem ints_sameP (u v : Value) (R : List Int) (w : World) (ha : IntsR w u R) (hb : IntsR w v R) : Calls Tryz.prog 51 #[u, v] w fun e w' => e = .returned (.bool true) ∧ Below w.heap.size w w' := by
  have h := ints_any u v R R w ha hb
  rwa [show intsB R R = true by simp [intsB]] at h

theorem neq_two (x y : Int) (w : World) : (binOp .neq 100 (.agg #[.int .i64 x, .int .i64 y]) (.agg #[.int .i64 x, .int .i64 y])).run Tryz.prog w = .ok (.bool false) w := by
  obtain ⟨i0, hi0, hz0, hz1, hz2⟩ := info_parts intInfoP
  have hc : Tryz.prog.cellsOf 3 = 1 := by kernel_rfl
  rw [run_neq_struct, show (10000 : Nat) = 9999 + 1 from rfl, run_equalIn_array w 9999 _ _ Tryz.underlying100 hi0, hc]
  simp [Op.eqItems, List.range_succ, part, isAgg, run_underlying Tryz.underlying3, run_equalIn_int w 9998 3 .i64 .i64 _ _ Tryz.underlying3]

set_option maxRecDepth 100000 in
set_option maxHeartbeats 32000000 in
theorem planTells_any (ah : Int) (vZ : Value) (Z : List (Int × Int)) (v1 : Value) (L1 : List Ev) (ah2 : Int) (vY : Value) (Z2 : List (Int × Int)) (v2 : Value) (L2 : List Ev) (a b n y m : Int) (w : World) (hw : Months w) (hE : ErrT w)
    (hZ : PairsR w vZ Z) (hL1 : EvsR w v1 L1 ∧ ∀ e ∈ L1, e.Sm) (hZ2 : PairsR w vY Z2) (hL2 : EvsR w v2 L2 ∧ ∀ e ∈ L2, e.Sm) :
    Calls Tryz.prog 7 #[.agg #[.int .i64 ah, vZ], v1, .agg #[.int .i64 ah2, vY], v2, .int .i64 a, .int .i64 b, .int .i64 n, .int .i64 y, .int .i64 m] w fun e w' => e = .returned (.bool true) ∧ Below w.heap.size w w' := by
  obtain ⟨hL1, hS1⟩ := hL1
  obtain ⟨hL2, hS2⟩ := hL2
  have hZ0 := hZ; have hY0 := hZ2; have hE1 := hL1; have hE2 := hL2
  obtain ⟨aZ, kZ, rfl, -, -, -⟩ := pairsR_open hZ
  obtain ⟨aY, kY, rfl, -, -, -⟩ := pairsR_open hZ2
  obtain ⟨p1, c1, rfl, k1a, k1b, hc1⟩ := evsR_open hL1
  obtain ⟨p2, c2, rfl, k2a, k2b, hc2⟩ := evsR_open hL2
  unfold maxLen at k1b k2b
  obtain ⟨eb, heb⟩ : ∃ x, x = w.heap.size := ⟨_, rfl⟩
  obtain ⟨wz, hwz⟩ : ∃ x, x = w.alloc (.cells #[.int .i64 ah, .slice aZ Z.length kZ] 33) := ⟨_, rfl⟩
  have hbz : Below w.heap.size w wz := by rw [hwz]; exact (Below.refl _ _).alloc (Nat.le_refl _) _
  have hsz : wz.heap.size = eb + 1 := by rw [hwz, heb]; simp
  have z0 : wz.cell? ⟨eb, 0, none⟩ = some (.int .i64 ah) := by rw [hwz, heb]; simp
  have z1 : wz.cell? ⟨eb, 1, none⟩ = some (.slice aZ Z.length kZ) := by rw [hwz, heb]; simp
  obtain ⟨w0, hw0⟩ : ∃ x, x = wz.alloc (.cells #[.int .i64 ah2, .slice aY Z2.length kY] 33) := ⟨_, rfl⟩
  have hb0 : Below wz.heap.size wz w0 := by rw [hw0]; exact (Below.refl _ _).alloc (Nat.le_refl _) _
  have y0 : w0.cell? ⟨eb + 1, 0, none⟩ = some (.int .i64 ah2) := by rw [hw0, ← hsz]; simp
  have y1 : w0.cell? ⟨eb + 1, 1, none⟩ = some (.slice aY Z2.length kY) := by rw [hw0, ← hsz]; simp
  have z0 := cell_below hb0 z0; have z1 := cell_below hb0 z1
  have hbw : Below w.heap.size w w0 := hbz.trans (hb0.mono hbz.size)
  obtain ⟨T1, hT1⟩ : ∃ T, T = L1.map fun e => (e.ln, e.times ah Z a b) := ⟨_, rfl⟩
  obtain ⟨T2, hT2⟩ : ∃ T, T = L2.map fun e => (e.ln, e.times ah2 Z2 a b) := ⟨_, rfl⟩
  obtain ⟨E1, hE1'⟩ : ∃ E, E = allE L1.length (L1.map (Ev.err ah Z a b)) (sumN T1) := ⟨_, rfl⟩
  obtain ⟨E2, hE2'⟩ : ∃ E, E = allE L2.length (L2.map (Ev.err ah2 Z2 a b)) (sumN T2) := ⟨_, rfl⟩
  have lT1 : T1.length = L1.length := by rw [hT1, List.length_map]
  have up1 : E1 = 0 → ∀ t ∈ T1, 0 ≤ t.1 := fun h t ht => by
    rw [hT1] at ht
    obtain ⟨e, he, rfl⟩ := List.mem_map.1 ht
    exact ev_up (fstE_all (allE_0 (hE1'.symm.trans h)).2.1 _ (List.mem_map_of_mem he))
  have up2 : E2 = 0 → ∀ t ∈ T2, 0 ≤ t.1 := fun h t ht => by
    rw [hT2] at ht
    obtain ⟨e, he, rfl⟩ := List.mem_map.1 ht
    exact ev_up (fstE_all (allE_0 (hE2'.symm.trans h)).2.1 _ (List.mem_map_of_mem he))
  have ku : ∀ (E : Int) (T : List TL), (E = 0 → ∀ t ∈ T, 0 ≤ t.1) → ∀ x ∈ takenL (if E = 0 then T else []), x.1 ≤ x.2 := fun E T h x hx => by
    obtain ⟨t, ht, y, hy, rfl⟩ := takenL_mem.1 hx
    by_cases h0 : E = 0
    · rw [if_pos h0] at ht; have := h h0 t ht; simp only; omega
    · rw [if_neg h0] at ht; cases ht
  obtain ⟨K1, hK1⟩ : ∃ K, K = takenL (if E1 = 0 then T1 else []) := ⟨_, rfl⟩
  obtain ⟨K2, hK2⟩ : ∃ K, K = takenL (if E2 = 0 then T2 else []) := ⟨_, rfl⟩
  have KU1 : ∀ x ∈ K1, x.1 ≤ x.2 := by rw [hK1]; exact ku E1 T1 up1
  have KU2 : ∀ x ∈ K2, x.1 ≤ x.2 := by rw [hK2]; exact ku E2 T2 up2
  have kl : ∀ (E : Int) (T : List TL), (E = 0 → sumN T ≤ 200) → (takenL (if E = 0 then T else [])).length ≤ 200 := fun E T h => by
    rw [takenL_len]
    by_cases h0 : E = 0
    · rw [if_pos h0]; exact h h0
    · rw [if_neg h0]; simp [sumN]
  have KL1 : K1.length ≤ 200 := by rw [hK1]; exact kl E1 T1 fun h => (allE_0 (hE1'.symm.trans h)).2.2
  have KL2 : K2.length ≤ 200 := by rw [hK2]; exact kl E2 T2 fun h => (allE_0 (hE2'.symm.trans h)).2.2
  have T20 : E1 = 0 → T1.length ≤ 20 := fun h => by rw [lT1]; exact sumN_len (hE1'.symm.trans h)
  have TK1 := Lib.hid (show ∀ wx, Below w0.heap.size w0 wx → Calls Tryz.prog 38 #[.agg #[.int .i64 ah, .slice aZ Z.length kZ], .slice p1 L1.length c1, .int .i64 a, .int .i64 b] wx (fun e w' => ∃ u, e = .returned (.tuple #[u, .int .i64 E1]) ∧ PairsR w' u (normL K1) ∧ Below wx.heap.size wx w') from fun wx hbx => by
    have hbx2 : Below w.heap.size w wx := hbw.trans (hbx.mono hbw.size)
    rw [hK1]
    exact (rtaken_any ah _ Z _ L1 a b wx (hE1.below hbx2) hS1 (hZ0.below hbx2) E1 T1 hT1 hE1' up1).mono fun _ _ ⟨u, h1, h2, h3⟩ => ⟨u, h1, ownsRow_reads h2, h3⟩)
  have TK2 := Lib.hid (show ∀ wx, Below w0.heap.size w0 wx → Calls Tryz.prog 38 #[.agg #[.int .i64 ah2, .slice aY Z2.length kY], .slice p2 L2.length c2, .int .i64 a, .int .i64 b] wx (fun e w' => ∃ u, e = .returned (.tuple #[u, .int .i64 E2]) ∧ w'.ownsRow wx.heap.size 177 2 u (normL K2).length (pairsV (normL K2)) ∧ Below wx.heap.size wx w') from fun wx hbx => by
    have hbx2 : Below w.heap.size w wx := hbw.trans (hbx.mono hbw.size)
    rw [hK2]
    exact rtaken_any ah2 _ Z2 _ L2 a b wx (hE2.below hbx2) hS2 (hY0.below hbx2) E2 T2 hT2 hE2' up2)
  have PB := Lib.hid (show ∀ wx, Below w0.heap.size w0 wx → Calls Tryz.prog 39 #[.agg #[.int .i64 ah, .slice aZ Z.length kZ], .slice p1 L1.length c1, .int .i64 a, .int .i64 b] wx (fun e w' => ∃ u, e = .returned (.tuple #[u, errV E1]) ∧ PairsR w' u (normL K1) ∧ Below wx.heap.size wx w') from fun wx hbx => by
    have hbx2 : Below w.heap.size w wx := hbw.trans (hbx.mono hbw.size)
    have h := busyAll_any ah _ Z _ L1 a b wx (hw.below hbx2) (hE1.below hbx2) (hZ0.below hbx2)
    rw [← hT1, ← hE1'] at h
    refine h.mono ?_
    rintro e w' ⟨v, rfl, ho, hb⟩
    refine ⟨v, rfl, ?_, hb⟩
    have e1 : (if E1 = 0 then ofL (takenL T1) else []) = normL K1 := by
      by_cases h0 : E1 = 0
      · rw [if_pos h0, hK1, if_pos h0, ofL_norm]
        have := ku E1 T1 up1; rw [if_pos h0] at this; exact this
      · rw [if_neg h0, hK1, if_neg h0]; rfl
    rw [← e1]
    exact ownsRow_reads ho)
  have AL := Lib.hid (show ∀ wx, Below w0.heap.size w0 wx → Calls Tryz.prog 41 #[.agg #[.int .i64 ah, .slice aZ Z.length kZ], .slice p1 L1.length c1, .int .i64 a, .int .i64 b] wx (RallP E1 T1 wx) from fun wx hbx => by
    have hbx2 : Below w.heap.size w wx := hbw.trans (hbx.mono hbw.size)
    have h := rall_any ah _ Z _ L1 a b wx (hE1.below hbx2) hS1 (hZ0.below hbx2)
    rw [← hT1, ← hE1'] at h; exact h)
  obtain ⟨UU, hUU⟩ : ∃ U, U = if E1 = 0 then clU T1 T1.length else [] := ⟨_, rfl⟩
  have UE := Lib.hid (show UU = clU (if E1 = 0 then T1 else []) (if E1 = 0 then T1 else []).length by
    rw [hUU]
    by_cases h0 : E1 = 0
    · simp [h0]
    · simp [h0, clU])
  have CL := Lib.hid (show ∀ wx, Below w0.heap.size w0 wx → Calls Tryz.prog 43 #[.agg #[.int .i64 ah, .slice aZ Z.length kZ], .slice p1 L1.length c1, .int .i64 a, .int .i64 b] wx (fun e w' => ∃ u, e = .returned (.tuple #[u, errV E1]) ∧ PairsR w' u UU ∧ Below wx.heap.size wx w') from fun wx hbx => by
    have hbx2 : Below w.heap.size w wx := hbw.trans (hbx.mono hbw.size)
    have h := clashes_any ah _ Z _ L1 a b wx (hw.below hbx2) (hE1.below hbx2) (hZ0.below hbx2)
    rw [← hT1, ← hE1'] at h
    refine h.mono ?_
    rintro e w' ⟨v, rfl, ho, hb⟩
    refine ⟨v, rfl, ?_, hb⟩
    rw [hUU, lT1]
    exact ownsRow_reads ho)
  obtain ⟨D, hD⟩ : ∃ D : List Grp, D = [⟨ah, .slice aZ Z.length kZ, Z, .slice p1 L1.length c1, L1⟩, ⟨ah2, .slice aY Z2.length kY, Z2, .slice p2 L2.length c2, L2⟩] := ⟨_, rfl⟩
  obtain ⟨V, hV⟩ : ∃ V, V = twoV E1 E2 K1 K2 a b n := ⟨_, rfl⟩
  obtain ⟨F, hF⟩ : ∃ F, F = twoF E1 E2 K1 K2 a b n := ⟨_, rfl⟩
  have hDF : meetF D a b n = F ∧ meetV D a b n = V := by
    have h := meet_two ⟨ah, .slice aZ Z.length kZ, Z, .slice p1 L1.length c1, L1⟩ ⟨ah2, .slice aY Z2.length kY, Z2, .slice p2 L2.length c2, L2⟩ a b n
    have g1 : Grp.E a b ⟨ah, .slice aZ Z.length kZ, Z, .slice p1 L1.length c1, L1⟩ = E1 := by rw [hE1', hT1]; rfl
    have g2 : Grp.E a b ⟨ah2, .slice aY Z2.length kY, Z2, .slice p2 L2.length c2, L2⟩ = E2 := by rw [hE2', hT2]; rfl
    have g3 : Grp.K a b ⟨ah, .slice aZ Z.length kZ, Z, .slice p1 L1.length c1, L1⟩ = takenL T1 := by rw [hT1]; rfl
    have g4 : Grp.K a b ⟨ah2, .slice aY Z2.length kY, Z2, .slice p2 L2.length c2, L2⟩ = takenL T2 := by rw [hT2]; rfl
    rw [g1, g2, g3, g4] at h
    rw [hD, h.1, h.2, hF, hV, hK1, hK2]
    unfold twoF twoV
    by_cases h1 : E1 = 0
    · by_cases h2 : E2 = 0
      · simp [h1, h2]
      · simp [h1, h2]
    · simp [h1]
  have dz : D.flatMap Grp.zc = [.int .i64 ah, .slice aZ Z.length kZ, .int .i64 ah2, .slice aY Z2.length kY] := by rw [hD]; rfl
  have dv : D.map (·.v) = [.slice p1 L1.length c1, .slice p2 L2.length c2] := by rw [hD]; rfl
  have dl : D.length = 2 := by rw [hD]; rfl
  have ME := Lib.hid (show ∀ (u v : Value) (wx : World), Below w0.heap.size w0 wx → Reads wx u 2 2 [.int .i64 ah, .slice aZ Z.length kZ, .int .i64 ah2, .slice aY Z2.length kY] → Reads wx v 1 2 [.slice p1 L1.length c1, .slice p2 L2.length c2] →
      Calls Tryz.prog 47 #[u, v, .int .i64 a, .int .i64 b, .int .i64 n] wx (fun e w' => e = .returned (.tuple #[.int .i64 V, errV F]) ∧ Below wx.heap.size wx w') from fun u v wx hbx hu hv => by
    have hbx2 : Below w.heap.size w wx := hbw.trans (hbx.mono hbw.size)
    rw [← hDF.1, ← hDF.2]
    refine meetAll_any u v D a b n wx (hw.below hbx2) ⟨by rw [dl, dz]; exact hu, by rw [dl, dv]; exact hv, fun g hg => ?_, fun g hg => ?_⟩ (by omega)
    · rw [hD] at hg; simp at hg; rcases hg with rfl | rfl
      · exact hZ0.below hbx2
      · exact hY0.below hbx2
    · rw [hD] at hg; simp at hg; rcases hg with rfl | rfl
      · exact hE1.below hbx2
      · exact hE2.below hbx2)
  have VE := Lib.hid (show F = (if E1 ≠ 0 then E1 else if E2 ≠ 0 then E2 else if strE a b ≠ 0 then strE a b else bfirstE n (freeL b (normL (normL K2 ++ normL K1)) a)) ∧ V = (if E1 ≠ 0 then 0 else if E2 ≠ 0 then 0 else if strE a b ≠ 0 then 0 else firstV n (freeL b (normL (normL K2 ++ normL K1)) a)) from ⟨by rw [hF]; rfl, by rw [hV]; rfl⟩)
  have n2 : ∀ {L : List (Int × Int)}, (∀ x ∈ L, x.1 ≤ x.2) → ∀ x ∈ normL L, x.1 ≤ x.2 := fun {L} h x hx => ofL_up h x (by rw [ofL_norm h]; exact hx)
  have MU := Lib.hid (show ∀ x ∈ normL K2 ++ normL K1, x.1 ≤ x.2 from fun x hx => by
    rcases List.mem_append.1 hx with h | h
    · exact n2 KU2 x h
    · exact n2 KU1 x h)
  have ML := Lib.hid (show (normL K2).length ≤ 200 ∧ (normL K1).length ≤ 200 from ⟨Nat.le_trans (norm_len _) KL2, Nat.le_trans (norm_len _) KL1⟩)
  have MG := Lib.hid (show strE a b = 0 → Good (freeL b (normL (normL K2 ++ normL K1)) a) from fun h => seek_good MU.out h)
  obtain ⟨LE, hLE⟩ : ∃ z, z = lodE y m L1 := ⟨_, rfl⟩
  obtain ⟨LV, hLV⟩ : ∃ z, z = lodV y m L1 := ⟨_, rfl⟩
  obtain ⟨G0, hG0⟩ : ∃ z, z = lodE0 y m L1.length := ⟨_, rfl⟩
  obtain ⟨es, hes⟩ : ∃ z, z = L1.map Ev.F := ⟨_, rfl⟩
  have les : es.length = L1.length := by rw [hes, List.length_map]
  have LT := Lib.hid (show LE = if G0 ≠ 0 then G0 else fstE es by rw [hLE, lodE_two, ← hG0, ← hes])
  have PL := Lib.hid (show ∀ wx, Below w0.heap.size w0 wx → Calls Tryz.prog 18 #[.slice p1 L1.length c1, .int .i64 y, .int .i64 m] wx (PlodP LE LV wx) from fun wx hbx => by
    have hbx2 : Below w.heap.size w wx := hbw.trans (hbx.mono hbw.size)
    rw [hLE, hLV]
    exact pload_any _ L1 y m wx (hw.below hbx2) (hE1.below hbx2))
  have RL := Lib.hid (show LE = 0 → ∀ wx, Below w0.heap.size w0 wx → Calls Tryz.prog 50 #[.slice p1 L1.length c1, .int .i64 y, .int .i64 m] wx (fun e w' => ∃ u, e = .returned u ∧ IntsR w' u LV ∧ Below wx.heap.size wx w') from fun h wx hbx => by
    have hbx2 : Below w.heap.size w wx := hbw.trans (hbx.mono hbw.size)
    rw [hLE] at h
    unfold lodE at h
    by_cases hm : Cal.monthB y m = true
    · rw [if_pos hm] at h
      by_cases h20 : 20 < L1.length
      · rw [if_pos h20] at h; cases h
      · rw [if_neg h20] at h
        rw [hLV]
        exact rload_any _ L1 y m wx (hE1.below hbx2) (fun e he => fstE_zero h _ (List.mem_map_of_mem he)) hm (by omega)
    · rw [if_neg hm] at h; cases h)
  have RV := Lib.hid (show ∀ (k : Nat) (hk : k < L1.length) (hk2 : k < es.length) (wx : World), Below w0.heap.size w0 wx → Calls Tryz.prog 49 #[.agg L1[k].cells.toArray] wx (fun e w' => e = .returned (.int .i64 es[k]) ∧ Below wx.heap.size wx w') from fun k hk hk2 wx hbx => by
    have hbx2 : Below w.heap.size w wx := hbw.trans (hbx.mono hbw.size)
    have hr := (hE1.2 _ (List.getElem_mem hk)).below hbx2
    have e2 : es[k] = L1[k].F := by simp [hes]
    rw [e2]
    exact revent_any _ _ _ _ _ _ _ _ _ _ _ _ _ _ _ _ _ _ _ _ _ _ _ _ _ wx hr.r.1 hr.r.2 hr.r.3 hr.r.4 hr.r.5 hr.r.6 hr.r.7 hr.r.8 hr.nm hr.tx hr.cl (hS1 _ (List.getElem_mem hk)))
  have ERT := Lib.hid (show ErrT w0 from hE.below hbw)
  have HC1 := Lib.hid (show 0 < L1.length → ∃ b off, p1 = some ⟨b, off, none⟩ ∧ ∀ (k : Nat) (hk : k < L1.length), EvO w0 b (off + k * 17) L1[k] from fun hp => by
    obtain ⟨b, off, e1, e2⟩ := hc1 hp
    exact ⟨b, off, e1, fun k hk => (e2 k hk).below hbw⟩)
  have RDo := Lib.hid (show ∀ (k : Nat) (hk : k < L1.length), L1[k].Rd w0 from fun k hk => (hE1.2 _ (List.getElem_mem _)).below hbw)
  obtain ⟨G1, hG1⟩ : ∃ z, z = sizeP y m := ⟨_, rfl⟩
  have GS := Lib.hid (show (G1 = 0 → G0 = 1) ∧ (G1 ≠ 0 → G0 = if 20 < L1.length then 4 else 0) by
    rw [hG0, hG1]
    unfold lodE0 sizeP
    by_cases hm : Cal.monthB y m = true
    · rw [if_pos hm, if_pos hm]
      have := Cal.dim_bd y m
      exact ⟨fun h => by omega, fun _ => rfl⟩
    · rw [if_neg hm, if_neg hm]
      exact ⟨fun _ => rfl, fun h => absurd rfl h⟩)
  have SZ := Lib.hid (show ∀ wx, Calls Tryz.prog 48 #[.int .i64 y, .int .i64 m] wx (fun e w' => e = .returned (.int .i64 G1) ∧ wx = w') from fun wx => by rw [hG1]; exact rsizeP_any y m wx)
  obtain ⟨TT, hTT⟩ : ∃ TT, TT = if E1 = 0 then T1 else [] := ⟨_, rfl⟩
  have TTE := Lib.hid hTT
  have T20b := Lib.hid (show TT.length ≤ 20 by
    rw [hTT]
    by_cases h0 : E1 = 0
    · rw [if_pos h0]; exact T20 h0
    · rw [if_neg h0]; simp)
  rw [← hTT] at UE
  obtain ⟨n1, hn1⟩ : ∃ n, n = L1.length := ⟨_, rfl⟩
  obtain ⟨n2', hn2⟩ : ∃ n, n = L2.length := ⟨_, rfl⟩
  have N1 := Lib.hid hn1; have N2 := Lib.hid hn2
  have LES := Lib.hid les
  rw [← hn1, ← hn2] at ME
  rw [← hn1] at TK1 PB AL CL PL RL GS k1a ⊢
  rw [← hn2] at TK2 k2a ⊢
  have BW := Lib.hid hbw; have WZ := Lib.hid hwz; have W0 := Lib.hid hw0; have EB := Lib.hid heb
  have Z0 := Lib.hid z0; have Z1 := Lib.hid z1; have Y0 := Lib.hid y0; have Y1 := Lib.hid y1
  clear hw hE hZ hZ2 hL1 hL2 hZ0 hY0 hE1 hE2 hc1 hc2 hwz hbz hsz hw0 hb0 hbw heb z0 z1 y0 y1 hD dz dv dl hV hF hn1 hn2 hDF hT1 hT2 hE1' hE2' lT1 up1 up2 ku hK1 hK2 KU1 KU2 kl KL1 KL2 T20 hUU hLE hLV hG0 hes les hG1 hTT D hS1 hS2 n2
  go_enter Tryz.func7, Tryz.ntmps7
  go_upto_region 1 with fail
  rw [← WZ.out, ← W0.out]
  rw [← EB.out]
  have z0 := Z0.out; have z1 := Z1.out
  go_cut [19, 20] (fun s19 s20 wx => (∃ u, s19 = u ∧ PairsR wx u (normL K1)) ∧ s20 = .int .i64 E1 ∧ Below w0.heap.size w0 wx)
  case first => as_aux_lemma =>
    go_wp2_with fail
    refine (TK1.out w0 (Below.refl _ _)).mono ?_; rintro e w1 ⟨u, rfl, hu, hb⟩
    have HU := Lib.hid hu; have HB := Lib.hid hb
    clear hu hb z0 z1
    go_wp2
    go_meet
    exact ⟨⟨_, rfl, HU.out⟩, rfl, HB.out⟩
  case rest => as_aux_lemma =>
  obtain ⟨⟨u1, rfl, hu1⟩, rfl, hb1⟩ := hcut
  obtain ⟨w1, rfl⟩ : ∃ x, x = wc := ⟨_, rfl⟩
  have B1 := Lib.hid hb1
  have U1 := Lib.hid hu1
  clear hb1 hu1 z0 z1 TK1
  have z0 := cell_below B1.out Z0.out; have z1 := cell_below B1.out Z1.out
  go_upto_region 2 with fail
  go_cut [21, 22] (fun s21 s22 wx => (∃ u, s21 = u ∧ PairsR wx u (normL K1)) ∧ s22 = errV E1 ∧ Below w1.heap.size w1 wx)
  case first => as_aux_lemma =>
    go_wp2_with fail
    refine (PB.out w1 B1.out).mono ?_; rintro e w2 ⟨u, rfl, hu, hb⟩
    have HU := Lib.hid hu; have HB := Lib.hid hb
    clear hu hb z0 z1
    go_wp2
    go_meet
    exact ⟨⟨_, rfl, HU.out⟩, rfl, HB.out⟩
  case rest => as_aux_lemma =>
  obtain ⟨⟨u2, rfl, hu2⟩, rfl, hb2⟩ := hcut
  obtain ⟨w2, rfl⟩ : ∃ x, x = wc := ⟨_, rfl⟩
  have B2 := Lib.hid (B1.out.trans (hb2.mono B1.out.size))
  have U1 := Lib.hid (U1.out.below hb2)
  have U2 := Lib.hid hu2
  clear hb2 hu2 z0 z1 PB
  go_upto_region 3 with fail
  go_cut [23] (fun s23 wx => s23 = .bool true ∧ Below w2.heap.size w2 wx)
  case first => as_aux_lemma =>
    go_wp2_with fail
    refine (error_same E1 w2 (ERT.out.below B2.out)).mono ?_; rintro e w3 ⟨rfl, hb⟩
    have HB := Lib.hid hb
    clear hb
    go_wp2
    go_meet
    exact ⟨rfl, HB.out⟩
  case rest => as_aux_lemma =>
  obtain ⟨rfl, hb3⟩ := hcut
  obtain ⟨w3, rfl⟩ : ∃ x, x = wc := ⟨_, rfl⟩
  have B3 := Lib.hid (B2.out.trans (hb3.mono B2.out.size))
  have U1 := Lib.hid (U1.out.below hb3)
  have U2 := Lib.hid (U2.out.below hb3)
  clear hb3
  go_upto_region 4 with fail
  go_cut [24] (fun s24 wx => s24 = .bool true ∧ Below w3.heap.size w3 wx)
  case first => as_aux_lemma =>
    have BS := Lib.hid (busies_same _ _ _ w3 U2.out U1.out)
    go_wp2_with fail
    refine BS.out.mono ?_; rintro e w4 ⟨rfl, hb⟩
    have HB := Lib.hid hb
    clear hb
    go_wp2
    go_meet
    exact ⟨rfl, HB.out⟩
  case rest => as_aux_lemma =>
  obtain ⟨rfl, hb4⟩ := hcut
  obtain ⟨w4, rfl⟩ : ∃ x, x = wc := ⟨_, rfl⟩
  have B4 := Lib.hid (B3.out.trans (hb4.mono B3.out.size))
  have U1 := Lib.hid (U1.out.below hb4)
  clear hb4 U2
  have z0 := cell_below B4.out Z0.out; have z1 := cell_below B4.out Z1.out
  go_upto_region 5 with fail
  go_cut [25, 20] (fun s25 s20 wx => (∃ (ta : Option Addr) (tc : Nat), s25 = .slice ta TT.length tc ∧ TssR w4.heap.size wx (.slice ta TT.length tc) TT) ∧ s20 = .int .i64 E1 ∧ Below w4.heap.size w4 wx)
  case first => as_aux_lemma =>
    go_wp2_with fail
    refine (AL.out w4 B4.out).mono ?_; rintro e w5 ⟨v, rfl, hv, hb⟩
    rw [← TTE.out] at hv
    obtain ⟨S, hS⟩ := hv
    obtain ⟨ta, tc, rfl, -, -, -⟩ := tss_at hS
    have HV := Lib.hid hS; have HB := Lib.hid hb
    clear hS hb z0 z1
    go_wp2
    go_meet
    exact ⟨⟨_, _, rfl, ⟨S, HV.out⟩⟩, rfl, HB.out⟩
  case rest => as_aux_lemma =>
  obtain ⟨⟨ta, tc, rfl, ⟨S, hS⟩⟩, rfl, hb5⟩ := hcut
  obtain ⟨w5, rfl⟩ : ∃ x, x = wc := ⟨_, rfl⟩
  have B5 := Lib.hid (B4.out.trans (hb5.mono B4.out.size))
  have U1 := Lib.hid (U1.out.below hb5)
  obtain ⟨ta', tc', e9, -, -, hcs⟩ := tss_at hS
  cases e9
  have HD := Lib.hid hcs
  obtain ⟨nt, hnt⟩ : ∃ n, n = TT.length := ⟨_, rfl⟩
  have NE := Lib.hid hnt
  rw [← hnt] at UE ⊢
  have nt20 : nt ≤ 20 := by rw [hnt]; exact T20b.out
  clear hb5 hS hcs hnt z0 z1 AL TTE
  go_upto_block 0 with fail
  go_cut [26] (fun s26 wx => (∃ (ua : Option Addr) (uc : Nat), s26 = .slice ua UU.length uc ∧ PairsR wx (.slice ua UU.length uc) UU) ∧ Below w5.heap.size w5 wx)
  case first => as_aux_lemma =>
    obtain ⟨it, hit, ht0, ht1, ht2⟩ := info_parts twoInfo
    go_wp2_with fail
    go_loopg [26, 27] nt (fun g ov iv wr => ∃ k : Nat, k ≤ nt ∧ iv = .int .i64 k ∧ g = nt - k ∧ wr.ownsRow w5.heap.size 100 2 ov (clU TT k).length (pairsV (clU TT k)) ∧ Below w5.heap.size w5 wr)
    case atStart => exact ⟨0, Nat.zero_le _, rfl, rfl, World.ownsRow_nil _ _ _ _, Below.refl _ _⟩
    case round => as_aux_lemma =>
      obtain ⟨k, hk, rfl, hg, ho, hb⟩ := hrel
      obtain ⟨w6, rfl⟩ : ∃ x, x = wr := ⟨_, rfl⟩
      have G := Lib.hid hg; have OW := Lib.hid ho; have B6 := Lib.hid hb
      clear hg ho hb
      by_cases hlt : k < nt
      · have UN := Lib.hid (show clU TT (k + 1) = clU TT k ++ rowC TT k nt by rw [clU_next, ← NE.out])
        obtain ⟨O, hO⟩ : ∃ O, O = clU TT k := ⟨_, rfl⟩
        have ol : O.length ≤ 400 := by
          have h1 := clU_len TT k
          rw [← NE.out] at h1
          have h2 : k * nt ≤ 20 * 20 := Nat.mul_le_mul (by omega) (by omega)
          rw [hO]; omega
        rw [← hO] at OW UN
        have s1 : IntKind.i64.wrap ((k : Int) + 1) = (k : Int) + 1 := IntWalk.i64_in _ (by omega)
        have i1 : (k : Int) < (nt : Int) := by omega
        clear hO
        go_wp2_with fail
        go_loopg [26, 28] (nt - (k + 1)) (fun g pv iv wx => ∃ j : Nat, k < j ∧ j ≤ nt ∧ iv = .int .i64 j ∧ g = nt - j ∧ wx.ownsRow w5.heap.size 100 2 pv (O ++ rowC TT k j).length (pairsV (O ++ rowC TT k j)) ∧ Below w5.heap.size w5 wx)
        case atStart => exact ⟨k + 1, by omega, by omega, by go_num, rfl, by rw [rowC_0, List.append_nil]; exact OW.out, B6.out⟩
        case round => as_aux_lemma =>
          obtain ⟨j, hkj, hj, rfl, hg2, ho2, hb2⟩ := hrel
          obtain ⟨w7, rfl⟩ : ∃ x, x = wr := ⟨_, rfl⟩
          have G2 := Lib.hid hg2; have OW2 := Lib.hid ho2; have B7 := Lib.hid hb2
          clear hg2 ho2 hb2
          by_cases hlt2 : j < nt
          · obtain ⟨gb, rfl, hcs⟩ := HD.out (by rw [← NE.out]; omega)
            obtain ⟨p3, c3, q1, r1⟩ := hcs k (by rw [← NE.out]; exact hlt)
            obtain ⟨p4, c4, q2, r2⟩ := hcs j (by rw [← NE.out]; exact hlt2)
            have q1 := cell_below B7.out q1; have q2 := cell_below B7.out q2
            have RN := Lib.hid (rowC_next TT k j hkj)
            have MA := Lib.hid (show metAt TT k j = meetB (TT[k]'(by rw [← NE.out]; exact hlt)) (TT[j]'(by rw [← NE.out]; exact hlt2)) by rw [metAt, dif_pos ⟨by rw [← NE.out]; exact hlt, by rw [← NE.out]; exact hlt2⟩])
            have R1 := Lib.hid (r1.below B7.out); have R2 := Lib.hid (r2.below B7.out)
            obtain ⟨x, hx⟩ : ∃ x, x = TT[k]'(by rw [← NE.out]; exact hlt) := ⟨_, rfl⟩
            obtain ⟨yy, hy⟩ : ∃ y, y = TT[j]'(by rw [← NE.out]; exact hlt2) := ⟨_, rfl⟩
            rw [← hx] at R1 q1 MA; rw [← hy] at R2 q2 MA
            obtain ⟨x1, X⟩ := x
            obtain ⟨y1, Y⟩ := yy
            simp only at R1 R2 q1 q2 MA
            obtain ⟨Q, hQ⟩ : ∃ Q, Q = O ++ rowC TT k j := ⟨_, rfl⟩
            have ql : Q.length ≤ 500 := by have := rowC_len TT k j; rw [hQ, List.length_append]; omega
            rw [← hQ] at OW2
            have QE := Lib.hid (show O ++ rowC TT k (j + 1) = Q ++ (if metAt TT k j then [((k : Int), (j : Int))] else []) by rw [RN.out, hQ, List.append_assoc])
            obtain ⟨mt, hmt⟩ : ∃ m, m = meetB (x1, X) (y1, Y) := ⟨_, rfl⟩
            rw [← hmt] at MA
            rw [MA.out] at QE
            have MC := Lib.hid (show ∀ wx, Below w7.heap.size w7 wx → Calls Tryz.prog 42 #[.slice p3 X.length c3, .slice p4 Y.length c4] wx fun e w' => e = .returned (.bool mt) ∧ wx = w' from fun wx hbx => by rw [hmt]; exact meetl_any x1 y1 X Y _ _ wx (R1.out.below hbx) (R2.out.below hbx))
            have i0 : (0 : Int) ≤ (k : Int) := Int.natCast_nonneg _
            have i2 : (0 : Int) ≤ (j : Int) := Int.natCast_nonneg _
            have i3 : (j : Int) < (nt : Int) := by omega
            have s2 : IntKind.i64.wrap ((j : Int) + 1) = (j : Int) + 1 := IntWalk.i64_in _ (by omega)
            obtain ⟨oa, oc, rfl, -, -, -⟩ := owns_cells OW2.out
            clear hcs r1 r2 hx hy hQ hmt
            go_upto_region 13 with fail
            go_cut [29] (fun s29 wx => s29 = .bool mt ∧ Below w7.heap.size w7 wx)
            case first => as_aux_lemma =>
              go_still_tail 8, (by kernel_rfl)
              change wpList _ _ _ _ _ w7.drew
              go_wp2_with fail
              refine (MC.out _ (Below.refl _ _).drew).mono ?_; rintro e w8 ⟨rfl, rfl⟩
              clear q1 q2
              go_wp2
              go_meet
              exact ⟨rfl, (Below.refl _ _).drew⟩
            case rest => as_aux_lemma =>
            obtain ⟨rfl, hb4⟩ := hcut
            obtain ⟨w8, rfl⟩ : ∃ x, x = wc := ⟨_, rfl⟩
            have B8 := Lib.hid (B7.out.trans (hb4.mono B7.out.size))
            have OW4 := Lib.hid (own_kept OW2.out hb4)
            have hs8 := B8.out.size
            clear hb4 q1 q2 MC
            cases mt
            · have Q2 := Lib.hid (show O ++ rowC TT k (j + 1) = Q by rw [QE.out]; simp)
              go_wp2
              go_roundg (nt - (j + 1))
              case measure => rw [G2.out]; omega
              case rel => exact ⟨j + 1, by omega, by omega, by go_num, rfl, by rw [Q2.out]; exact OW4.out, B8.out⟩
            · have Q2 := Lib.hid (show O ++ rowC TT k (j + 1) = Q ++ [((k : Int), (j : Int))] by rw [QE.out]; simp)
              go_wp2_with (at_builtin; refine wpList_append_lies _ rfl _ _ 98 rfl w5.heap.size 100 it _ 2 16 Tryz.underlying98 hit ht0 ht1 ht2 rfl (by decide) _ _ _ rfl (OW4.out.alloc _) ⟨w8.heap.size, 0, none⟩ 1 1 [.int .i64 k, .int .i64 j] rfl rfl ?c1x1 ?c1x2 (by decide) (by unfold maxLen; omega) (by omega) (by simp; omega) _ rfl ?_)
              try (case c1x1 => exact World.news_of_block (cs := #[.int .i64 k, .int .i64 j]) (heap_alloc_new w8 _))
              case c1x2 => first | exact ⟨rfl, rfl⟩ | (intro u hu; simp at hu; rcases hu with rfl | rfl <;> rfl)
              intro g cap1 w9 hown1 hgrow1 hat1 hlt1
              have hB1 := Lib.hid ((B8.out.alloc hs8 (.cells #[.int .i64 k, .int .i64 j] 100)).grown hgrow1 (by simp; omega) (ownBlock_ge OW4.out))
              have R := Lib.hid (show w9.ownsRow w5.heap.size 100 2 (.slice (some ⟨g, 0, none⟩) (Q.length + 1) cap1) (O ++ rowC TT k (j + 1)).length (pairsV (O ++ rowC TT k (j + 1))) by
                rw [Q2.out, List.length_append, show pairsV (Q ++ [((k : Int), (j : Int))]) = pairsV Q ++ [.int .i64 k, .int .i64 j] by simp [pairsV]]; exact hown1)
              clear hgrow1 hown1 hat1 hlt1
              go_wp2
              go_roundg (nt - (j + 1))
              case measure => rw [G2.out]; omega
              case rel => exact ⟨j + 1, by omega, by omega, by go_num, rfl, R.out, hB1.out⟩
          · obtain rfl : j = nt := by omega
            have i3 : ¬ (j : Int) < (j : Int) := by omega
            go_wp2
            go_roundg (j - (k + 1))
            case measure => rw [G.out]; omega
            case rel => exact ⟨k + 1, by omega, by go_num, rfl, by rw [UN.out]; exact OW2.out, B7.out⟩
      · obtain rfl : k = nt := by omega
        have i2 : ¬ (k : Int) < (k : Int) := by omega
        have hpu := ownsRow_reads OW.out
        rw [← UE.out] at hpu
        obtain ⟨ua, uc, rfl, -, -, -⟩ := pairsR_open hpu
        have PU := Lib.hid hpu
        clear hpu
        go_wp2
        go_meet
        exact ⟨⟨_, _, rfl, PU.out⟩, B6.out⟩
  case rest => as_aux_lemma =>
  obtain ⟨⟨ua, uc, rfl, hpu⟩, hb6⟩ := hcut
  obtain ⟨w6, rfl⟩ : ∃ x, x = wc := ⟨_, rfl⟩
  have B6 := Lib.hid (B5.out.trans (hb6.mono B5.out.size))
  have U1 := Lib.hid (U1.out.below hb6)
  have PU := Lib.hid hpu
  clear hb6 hpu HD UE nt20
  have z0 := cell_below B6.out Z0.out; have z1 := cell_below B6.out Z1.out
  go_upto_region 16 with fail
  go_cut [30, 22] (fun s30 s22 wx => (∃ (qa : Option Addr) (qc : Nat), s30 = .slice qa UU.length qc ∧ PairsR wx (.slice qa UU.length qc) UU) ∧ s22 = errV E1 ∧ Below w6.heap.size w6 wx)
  case first => as_aux_lemma =>
    go_wp2_with fail
    refine (CL.out w6 B6.out).mono ?_; rintro e w7 ⟨u, rfl, hu, hb⟩
    obtain ⟨qa, qc, rfl, -, -, -⟩ := pairsR_open hu
    have HU := Lib.hid hu; have HB := Lib.hid hb
    clear hu hb z0 z1
    go_wp2
    go_meet
    exact ⟨⟨_, _, rfl, HU.out⟩, rfl, HB.out⟩
  case rest => as_aux_lemma =>
  obtain ⟨⟨qa, qc, rfl, hqu⟩, rfl, hb7⟩ := hcut
  obtain ⟨w7, rfl⟩ : ∃ x, x = wc := ⟨_, rfl⟩
  have B7 := Lib.hid (B6.out.trans (hb7.mono B6.out.size))
  have U1 := Lib.hid (U1.out.below hb7)
  have PU := Lib.hid (PU.out.below hb7)
  have QU := Lib.hid hqu
  clear hb7 hqu z0 z1 CL
  go_upto_region 17 with fail
  go_cut [31] (fun s31 wx => s31 = .bool true ∧ Below w7.heap.size w7 wx)
  case first => as_aux_lemma =>
    go_wp2_with fail
    refine (error_same E1 w7 (ERT.out.below B7.out)).mono ?_; rintro e w8 ⟨rfl, hb⟩
    have HB := Lib.hid hb
    clear hb
    go_wp2
    go_meet
    exact ⟨rfl, HB.out⟩
  case rest => as_aux_lemma =>
  obtain ⟨rfl, hb8⟩ := hcut
  obtain ⟨w8, rfl⟩ : ∃ x, x = wc := ⟨_, rfl⟩
  have B8 := Lib.hid (B7.out.trans (hb8.mono B7.out.size))
  have U1 := Lib.hid (U1.out.below hb8)
  obtain ⟨_, _, e9, hq1, hq2, hqs⟩ := pairsR_open (QU.out.below hb8)
  cases e9
  obtain ⟨_, _, e9, -, hp2, hps⟩ := pairsR_open (PU.out.below hb8)
  cases e9
  unfold maxLen at hq2 hp2
  have QS := Lib.hid hqs; have PS := Lib.hid hps
  obtain ⟨ul, hul⟩ : ∃ n, n = UU.length := ⟨_, rfl⟩
  have UL := Lib.hid hul
  have ub : ul ≤ 9223372036854775807 := by rw [hul]; omega
  rw [← hul]
  clear hb8 hqs hps hul PU QU hq1 hq2 hp2
  go_upto_block 4 with fail
  go_cut [32] (fun s32 wx => Below w8.heap.size w8 wx)
  case first => as_aux_lemma =>
    go_wp2_with fail
    go_loopg [32] ul (fun g iv wr => ∃ k : Nat, k ≤ ul ∧ iv = .int .i64 k ∧ g = ul - k ∧ Below w8.heap.size w8 wr)
    case atStart => exact ⟨0, Nat.zero_le _, rfl, rfl, Below.refl _ _⟩
    case round => as_aux_lemma =>
      obtain ⟨k, hk, rfl, hg, hb⟩ := hrel
      obtain ⟨w9, rfl⟩ : ∃ x, x = wr := ⟨_, rfl⟩
      have G := Lib.hid hg; have B9 := Lib.hid hb
      clear hg hb
      by_cases hlt : k < ul
      · have hk1 : k < UU.length := by rw [← UL.out]; exact hlt
        obtain ⟨b3, o3, rfl, g3⟩ := QS.out (by omega)
        obtain ⟨b4, o4, rfl, g4⟩ := PS.out (by omega)
        have q1 := cell_below B9.out (g3 k hk1).1; have q2 := cell_below B9.out (g3 k hk1).2
        have q3 := cell_below B9.out (g4 k hk1).1; have q4 := cell_below B9.out (g4 k hk1).2
        obtain ⟨x, hx⟩ : ∃ x, x = UU[k] := ⟨_, rfl⟩
        rw [← hx] at q1 q2 q3 q4
        obtain ⟨x1, x2⟩ := x
        simp only at q1 q2 q3 q4
        have i0 : (0 : Int) ≤ (k : Int) := Int.natCast_nonneg _
        have i1 : (k : Int) < (ul : Int) := by omega
        have s1 : IntKind.i64.wrap ((k : Int) + 1) = (k : Int) + 1 := IntWalk.i64_in _ (by omega)
        have nq := fun W => neq_two x1 x2 W
        clear hx g3 g4
        go_upto_region 23 with fail
        go_cut [135] (fun s135 wx => s135 = .bool false ∧ Below w9.heap.size w9 wx)
        case first => as_aux_lemma =>
          go_quiet (fail)
          go_wp2
          go_meet
          exact ⟨by first | rfl | simp, below_drewN (Below.refl _ _) _⟩
        case rest => as_aux_lemma =>
        obtain ⟨rfl, hb2⟩ := hcut
        have B10 := Lib.hid (B9.out.trans (hb2.mono B9.out.size))
        clear hb2 q1 q2 q3 q4
        go_wp2
        go_roundg (ul - (k + 1))
        case measure => rw [G.out]; omega
        case rel => exact ⟨k + 1, by omega, by go_num, rfl, B10.out⟩
      · obtain rfl : k = ul := by omega
        have i1 : ¬ (k : Int) < (k : Int) := by omega
        go_wp2
        go_meet
        exact B9.out
  case rest => as_aux_lemma =>
  obtain ⟨w9, rfl⟩ : ∃ x, x = wc := ⟨_, rfl⟩
  have B9 := Lib.hid (B8.out.trans (hcut.mono B8.out.size))
  have U1 := Lib.hid (U1.out.below hcut)
  clear hcut QS PS ub UL
  go_upto_region 28 with fail
  obtain ⟨X1, hX1⟩ : ∃ X, X = if E1 ≠ 0 then E1 else E2 := ⟨_, rfl⟩
  have XE := Lib.hid hX1
  go_upto_if 138 with fail
  go_cut [35, 34] (fun s35 s34 wx => (∃ u, s35 = u ∧ (X1 = 0 → wx.ownsRow w9.heap.size 177 2 u (normL K2).length (pairsV (normL K2)))) ∧ s34 = .int .i64 X1 ∧ Below w9.heap.size w9 wx)
  case first => as_aux_lemma =>
    by_cases h0 : E1 = 0
    case neg =>
      have d0 : (E1 == 0) = false := by simpa using h0
      have e : X1 = E1 := by rw [hX1, if_pos h0]
      subst e
      have NO := Lib.hid (show X1 = 0 → w9.ownsRow w9.heap.size 177 2 (.slice none 0 0) (normL K2).length (pairsV (normL K2)) from fun h => absurd h h0)
      clear h0 hX1
      go_wp2
      go_meet
      exact ⟨⟨_, rfl, NO.out⟩, rfl, Below.refl _ _⟩
    have d0 : (E1 == 0) = true := by simpa using h0
    have e : X1 = E2 := by rw [hX1, if_neg (by omega)]
    subst e
    have z0 := cell_below B9.out Y0.out; have z1 := cell_below B9.out Y1.out
    clear h0 hX1
    go_wp2_with fail
    refine (TK2.out w9 B9.out).mono ?_; rintro e w10 ⟨u, rfl, hu, hb⟩
    have HU := Lib.hid hu; have HB := Lib.hid hb
    clear hu hb z0 z1
    go_wp2
    go_meet
    exact ⟨⟨_, rfl, fun _ => HU.out⟩, rfl, HB.out⟩
  case rest => as_aux_lemma =>
  obtain ⟨⟨u3, rfl, hu3⟩, rfl, hb10⟩ := hcut
  obtain ⟨w10, rfl⟩ : ∃ x, x = wc := ⟨_, rfl⟩
  have H10 := Lib.hid hb10
  have B10 := Lib.hid (B9.out.trans (hb10.mono B9.out.size))
  have U1 := Lib.hid (U1.out.below hb10)
  have U3 := Lib.hid hu3
  clear hb10 hu3 TK2 hX1
  go_upto_if 148 with fail
  go_cut [33, 34] (fun s33 s34 wx => s33 = .int .i64 V ∧ s34 = .int .i64 F ∧ Below w9.heap.size w9 wx)
  case first => as_aux_lemma =>
    by_cases h0 : X1 = 0
    case neg =>
      have d0 : (X1 == 0) = false := by simpa using h0
      have eF : F = X1 := by
        rw [VE.out.1, XE.out]
        rw [XE.out] at h0
        by_cases h1 : E1 ≠ 0
        · rw [if_pos h1, if_pos h1]
        · rw [if_neg h1, if_neg h1]; rw [if_neg h1] at h0; rw [if_pos h0]
      have eV : V = 0 := by
        rw [VE.out.2]
        rw [XE.out] at h0
        by_cases h1 : E1 ≠ 0
        · rw [if_pos h1]
        · rw [if_neg h1]; rw [if_neg h1] at h0; rw [if_pos h0]
      subst eF
      subst eV
      clear h0 VE ME
      go_wp2
      go_meet
      exact ⟨rfl, rfl, H10.out⟩
    have d0 : (X1 == 0) = true := by simpa using h0
    have VE2 := Lib.hid (show F = (if strE a b ≠ 0 then strE a b else bfirstE n (freeL b (normL (normL K2 ++ normL K1)) a)) ∧ V = (if strE a b ≠ 0 then 0 else firstV n (freeL b (normL (normL K2 ++ normL K1)) a)) by
      rw [XE.out] at h0
      have h1 : ¬ E1 ≠ 0 := fun h => by rw [if_pos h] at h0; exact h h0
      rw [if_neg h1] at h0
      have h2 : ¬ E2 ≠ 0 := by omega
      have hv := VE.out
      rw [if_neg h1, if_neg h2, if_neg h1, if_neg h2] at hv
      exact hv)
    have U3b := Lib.hid (U3.out h0)
    obtain ⟨M2, hM2⟩ : ∃ M, M = normL K2 := ⟨_, rfl⟩
    obtain ⟨M1, hM1⟩ : ∃ M, M = normL K1 := ⟨_, rfl⟩
    rw [← hM2] at U3b; rw [← hM1] at U1
    rw [← hM2, ← hM1] at VE2 MU MG ML
    obtain ⟨ml2, ml1⟩ := ML.out
    obtain ⟨it, hit, ht0, ht1, ht2⟩ := info_parts busyInfo
    obtain ⟨ba, bc, rfl, -, -, -⟩ := owns_cells U3b.out
    obtain ⟨ca, cc, rfl, -, -, -⟩ := pairsR_open U1.out
    have S10 := Lib.hid H10.out.size
    clear h0 hM2 hM1 VE ME XE U3
    go_wp2_with (at_builtin; refine wpList_append_row rfl _ _ 89 rfl 177 it _ 2 16 Tryz.underlying89 hit ht0 ht1 ht2 rfl (by decide) w9.heap.size _ _ M2.length M1.length (pairsV M2) (pairsV M1) rfl rfl U3b.out U1.out pairsV_cell1 S10.out (by omega) (by unfold maxLen; omega) ?_)
    intro v11 w11 hown hb11
    have P11 := Lib.hid (show PairsR w11 v11 (M2 ++ M1) from ownsRow_reads (show w11.ownsRow w9.heap.size 177 2 v11 (M2 ++ M1).length (pairsV (M2 ++ M1)) by rw [List.length_append, show pairsV (M2 ++ M1) = pairsV M2 ++ pairsV M1 by simp [pairsV]]; exact hown))
    have H11 := Lib.hid (H10.out.trans hb11)
    clear hown hb11 U3b U1
    obtain ⟨ta, hta⟩ : ∃ t, t = timeB a := ⟨_, rfl⟩
    obtain ⟨tb, htb⟩ : ∃ t, t = timeB b := ⟨_, rfl⟩
    have RA := Lib.hid (show ∀ wx, Calls Tryz.prog 44 #[.int .i64 a] wx (fun e w' => e = .returned (.bool ta) ∧ wx = w') from fun wx => by rw [hta]; exact rtime_any a wx)
    have RB := Lib.hid (show ∀ wx, Calls Tryz.prog 44 #[.int .i64 b] wx (fun e w' => e = .returned (.bool tb) ∧ wx = w') from fun wx => by rw [htb]; exact rtime_any b wx)
    have SE := Lib.hid (show strE a b = if ta = true ∧ tb = true then (if b < a then 3 else 0) else 1 by rw [hta, htb]; rfl)
    clear hta htb
    go_wp2_with fail
    refine (RA.out _).mono ?_; rintro e w' ⟨rfl, rfl⟩
    go_wp2_with fail
    refine (RB.out _).mono ?_; rintro e w' ⟨rfl, rfl⟩
    cases ta
    case false =>
      have FV := Lib.hid (show F = 1 ∧ V = 0 by rw [VE2.out.1, VE2.out.2, SE.out]; simp)
      clear VE2 SE
      go_wp2
      go_meet
      exact ⟨by rw [FV.out.2], by rw [FV.out.1], H11.out⟩
    cases tb
    case false =>
      have FV := Lib.hid (show F = 1 ∧ V = 0 by rw [VE2.out.1, VE2.out.2, SE.out]; simp)
      clear VE2 SE
      go_wp2
      go_meet
      exact ⟨by rw [FV.out.2], by rw [FV.out.1], H11.out⟩
    by_cases hba : b < a
    · have d1 : decide (b < a) = true := decide_eq_true hba
      have FV := Lib.hid (show F = 3 ∧ V = 0 by rw [VE2.out.1, VE2.out.2, SE.out]; simp [hba])
      clear VE2 SE hba
      go_wp2
      go_meet
      exact ⟨by rw [FV.out.2], by rw [FV.out.1], H11.out⟩
    have d1 : decide (b < a) = false := decide_eq_false hba
    have S0 := Lib.hid (show strE a b = 0 by rw [SE.out]; simp [hba])
    have FV := Lib.hid (show F = bfirstE n (freeL b (normL (M2 ++ M1)) a) ∧ V = firstV n (freeL b (normL (M2 ++ M1)) a) by
      have h := VE2.out
      rw [if_neg (by rw [S0.out]; simp), if_neg (by rw [S0.out]; simp)] at h
      exact h)
    have GD := Lib.hid (MG.out S0.out)
    obtain ⟨FR, hFR⟩ : ∃ z, z = freeL b (normL (M2 ++ M1)) a := ⟨_, rfl⟩
    have RF := Lib.hid (show Calls Tryz.prog 46 #[v11, .int .i64 a, .int .i64 b] w11 (fun e w' => ∃ u, e = .returned u ∧ PairsR w' u FR ∧ Below w11.heap.size w11 w') by
      rw [hFR]; exact rfree_any v11 (M2 ++ M1) a b w11 P11.out (by rw [List.length_append]; omega) MU.out)
    rw [← hFR] at FV GD
    clear VE2 SE S0 MG hba hFR
    go_wp2_with fail
    refine RF.out.mono ?_; rintro e w12 ⟨u, rfl, hu, hb12⟩
    have H12 := Lib.hid (H11.out.trans (hb12.mono H11.out.size))
    have RS := Lib.hid (rslot_any u FR n w12 hu GD.out)
    rw [← FV.out.1, ← FV.out.2] at RS
    clear hu hb12 FV
    go_wp2_with fail
    refine RS.out.mono ?_; rintro e w13 ⟨rfl, hb13⟩
    have H13 := Lib.hid (H12.out.trans (hb13.mono H12.out.size))
    clear hb13
    go_wp2
    go_meet
    exact ⟨rfl, rfl, H13.out⟩
  case rest => as_aux_lemma =>
  obtain ⟨rfl, rfl, hb13⟩ := hcut
  obtain ⟨w13, rfl⟩ : ∃ x, x = wc := ⟨_, rfl⟩
  have B13 := Lib.hid (B9.out.trans (hb13.mono B9.out.size))
  clear hb13 VE XE U1 U3 H10 MG MU ML
  have z0 := cell_below B13.out Z0.out; have z1 := cell_below B13.out Z1.out
  have y0 := cell_below B13.out Y0.out; have y1 := cell_below B13.out Y1.out
  go_upto_region 39 with fail
  go_cut [38, 22] (fun s38 s22 wx => s38 = .int .i64 V ∧ s22 = errV F ∧ Below w13.heap.size w13 wx)
  case first => as_aux_lemma =>
    go_wp2_with fail
    refine (ME.out _ _ _ ((B13.out.alloc B13.out.size _).alloc (by rw [World.size_alloc]; have := B13.out.size; omega) _)
      (Reads.below (reads_new2 [.int .i64 ah, .slice aZ Z.length kZ, .int .i64 ah2, .slice aY Z2.length kY] rfl (by decide)) ((Below.refl _ _).alloc (Nat.le_refl _) _)) ?r2).mono ?_
    case r2 =>
      have h := reads_new2 (w := w13.alloc (.cells #[.int .i64 ah, .slice aZ Z.length kZ, .int .i64 ah2, .slice aY Z2.length kY] 33)) (t := 51) (k := 1) (n := 2) [.slice p1 n1 c1, .slice p2 n2' c2] rfl (by decide)
      rw [World.size_alloc] at h
      exact h
    rintro e w14 ⟨rfl, hb⟩
    have HB := Lib.hid (below_next (((Below.refl _ _).alloc (Nat.le_refl _) _).alloc (by rw [World.size_alloc]; omega) _) hb)
    clear hb z0 z1 y0 y1
    go_wp2
    go_meet
    exact ⟨rfl, rfl, HB.out⟩
  case rest => as_aux_lemma =>
  obtain ⟨rfl, rfl, hb14⟩ := hcut
  obtain ⟨w14, rfl⟩ : ∃ x, x = wc := ⟨_, rfl⟩
  have B14 := Lib.hid (B13.out.trans (hb14.mono B13.out.size))
  clear hb14 ME z0 z1 y0 y1
  go_upto_region 40 with fail
  go_cut [39] (fun s39 wx => s39 = .bool true ∧ Below w14.heap.size w14 wx)
  case first => as_aux_lemma =>
    go_wp2_with fail
    refine (error_same F w14 (ERT.out.below B14.out)).mono ?_; rintro e w15 ⟨rfl, hb⟩
    have HB := Lib.hid hb
    clear hb
    go_wp2
    go_meet
    exact ⟨rfl, HB.out⟩
  case rest => as_aux_lemma =>
  obtain ⟨rfl, hb15⟩ := hcut
  obtain ⟨w15, rfl⟩ : ∃ x, x = wc := ⟨_, rfl⟩
  have B15 := Lib.hid (B14.out.trans (hb15.mono B14.out.size))
  clear hb15
  obtain ⟨gz, hgz⟩ : ∃ g : Bool, g = (G1 == 0) := ⟨_, rfl⟩
  have GZ := Lib.hid hgz
  go_upto_region 42 with fail
  go_cut [193] (fun s193 wx => s193 = .bool gz ∧ w15 = wx)
  case first => as_aux_lemma =>
    go_wp2_with fail
    refine (SZ.out _).mono ?_; rintro e w' ⟨rfl, rfl⟩
    go_wp2
    go_meet
    exact ⟨by rw [GZ.out], rfl⟩
  case rest => as_aux_lemma =>
  obtain ⟨rfl, rfl⟩ := hcut
  go_upto_if 193 with fail
  go_cut [20] (fun s20 wx => s20 = .int .i64 G0 ∧ w15 = wx)
  case first => as_aux_lemma =>
    cases gz
    case true =>
      have e := GS.out.1 (by have := GZ.out; simpa using this.symm)
      subst e
      clear GS hgz LT
      go_wp2
      go_meet
      exact ⟨rfl, rfl⟩
    have e := GS.out.2 (by have := GZ.out; intro h; rw [h] at this; simp at this)
    by_cases h20 : 20 < n1
    · have t1 : decide ((20 : Int) < (n1 : Int)) = true := decide_eq_true (by omega)
      have t1b : decide (20 < n1) = true := decide_eq_true h20
      rw [if_pos h20] at e
      subst e
      clear GS hgz h20 LT
      go_wp2
      go_meet
      exact ⟨rfl, rfl⟩
    · have t1 : decide ((20 : Int) < (n1 : Int)) = false := decide_eq_false (by omega)
      have t1b : decide (20 < n1) = false := decide_eq_false h20
      rw [if_neg h20] at e
      subst e
      clear GS hgz h20 LT
      go_wp2
      go_meet
      exact ⟨rfl, rfl⟩
  case rest => as_aux_lemma =>
  obtain ⟨rfl, rfl⟩ := hcut
  clear GS SZ hgz GZ
  go_upto_region 46 with fail
  go_upto_block 6 with fail
  go_cut [20] (fun s20 wx => s20 = .int .i64 LE ∧ Below w15.heap.size w15 wx)
  case first => as_aux_lemma =>
    have A0 := Lib.hid (show G0 = if G0 ≠ 0 then G0 else fstE (es.take 0) by
      by_cases h : G0 ≠ 0
      · rw [if_pos h]
      · rw [if_neg h]
        have h0 : G0 = 0 := by omega
        rw [h0]; rfl)
    go_wp2_with fail
    go_loopg [20, 40] n1 (fun g ev iv wr => ∃ (k : Nat) (x : Int), k ≤ n1 ∧ iv = .int .i64 k ∧ ev = .int .i64 x ∧ g = n1 - k ∧ Hid (x = if G0 ≠ 0 then G0 else fstE (es.take k)) ∧ Below w15.heap.size w15 wr)
    case atStart => exact ⟨0, G0, Nat.zero_le _, rfl, rfl, rfl, A0, Below.refl _ _⟩
    case round => as_aux_lemma =>
      obtain ⟨k, x, hk, rfl, rfl, hg, HX, hb⟩ := hrel
      obtain ⟨w16, rfl⟩ : ∃ x, x = wr := ⟨_, rfl⟩
      have G := Lib.hid hg; have HB16 := Lib.hid hb
      have B16 := Lib.hid (B15.out.trans (hb.mono B15.out.size))
      clear hg hb
      by_cases hx0 : x = 0
      case neg =>
        have d0 : (x == 0) = false := by simpa using hx0
        have e : LE = x := by
          have h := HX.out
          rw [LT.out]
          by_cases h1 : G0 ≠ 0
          · rw [if_pos h1]; rw [if_pos h1] at h; exact h.symm
          · rw [if_neg h1]; rw [if_neg h1] at h
            rw [h]; exact fstE_nz (by rw [← h]; exact hx0)
        have HL := Lib.hid e
        have H0 := Lib.hid hx0
        clear e hx0
        by_cases hlt : k < n1
        · have i1 : (k : Int) < (n1 : Int) := by omega
          go_wp2
          go_meet
          exact ⟨by rw [HL.out], HB16.out⟩
        · have i1 : ¬ (k : Int) < (n1 : Int) := by omega
          go_wp2
          go_meet
          exact ⟨by rw [HL.out], HB16.out⟩
      subst hx0
      have G00 := Lib.hid (show G0 = 0 ∧ fstE (es.take k) = 0 by
        have h := HX.out
        by_cases h1 : G0 ≠ 0
        · rw [if_pos h1] at h; exact absurd h.symm h1
        · rw [if_neg h1] at h; exact ⟨by omega, h.symm⟩)
      by_cases hlt : k < n1
      · have hk1 : k < L1.length := by rw [← N1.out]; exact hlt
        have hk3 : k < es.length := by rw [LES.out]; exact hk1
        obtain ⟨lb, lo, rfl, hcs⟩ := HC1.out (by omega)
        have eo := (hcs k hk1).below B16.out
        have RX := Lib.hid (RV.out k hk1 hk3)
        have rd := (RDo.out k hk1).below B16.out
        have EN := Lib.hid (show fstE (es.take (k + 1)) = es[k] by rw [List.take_succ_eq_append_getElem hk3, fstE_app, if_neg (by rw [G00.out.2]; simp), fstE_one])
        obtain ⟨e, he⟩ : ∃ e, e = L1[k] := ⟨_, rfl⟩
        rw [← he] at eo RX rd
        obtain ⟨f, hf⟩ : ∃ f, f = es[k] := ⟨_, rfl⟩
        rw [← hf] at RX EN
        obtain ⟨nm, tx, st, ln, rp, fr, ev, ct, ti, vm, vd, vw, vp, vM, vN, vC, vA, mo, da, we, pk, M, N, C, A⟩ := e
        obtain ⟨q0, q1, q2, q3, q4, q5, q6, q7, q8, q9, q10, q11, q12, q13, q14, q15, q16⟩ := eo
        simp only [Ev.cells] at q0 q1 q2 q3 q4 q5 q6 q7 q8 q9 q10 q11 q12 q13 q14 q15 q16 RX
        obtain ⟨hR0, hnm, htx, hcl⟩ := rd
        simp only at hR0
        obtain ⟨h1, h2, h3, h4, hM, hN, hC, hA⟩ := hR0
        obtain ⟨am, km, rfl, -, -, -⟩ := intsR_open h1
        obtain ⟨ad, kd, rfl, -, -, -⟩ := intsR_open h2
        obtain ⟨aw, kw, rfl, -, -, -⟩ := pairsR_open h3
        obtain ⟨ap, kp, rfl, -, -, -⟩ := intsR_open h4
        obtain ⟨aM, kM, rfl, -, -, -⟩ := intsR_open hM
        obtain ⟨aN, kN, rfl, -, -, -⟩ := intsR_open hN
        obtain ⟨aC, kC, rfl, -, -, -⟩ := pairsR_open hC
        obtain ⟨aA, kA, rfl, -, -, -⟩ := almsR_open hA
        obtain ⟨snm, hsnm⟩ : ∃ s, s = bs nm := ⟨_, rfl⟩
        obtain ⟨stx, hstx⟩ : ∃ s, s = bs tx := ⟨_, rfl⟩
        rw [← hsnm] at q0 RX; rw [← hstx] at q1 RX
        have i0 : (0 : Int) ≤ (k : Int) := Int.natCast_nonneg _
        have i1 : (k : Int) < (n1 : Int) := by omega
        have s1 : IntKind.i64.wrap ((k : Int) + 1) = (k : Int) + 1 := IntWalk.i64_in _ (by omega)
        clear he hf h1 h2 h3 h4 hM hN hC hA hnm htx hcl hsnm hstx hcs
        go_wp2_with fail
        refine (RX.out w16 B16.out).mono ?_; rintro e w17 ⟨rfl, hb⟩
        have HB := Lib.hid (HB16.out.trans (hb.mono HB16.out.size))
        have NX := Lib.hid (show f = if G0 ≠ 0 then G0 else fstE (es.take (k + 1)) by rw [if_neg (by rw [G00.out.1]; simp), EN.out])
        clear hb q0 q1 q2 q3 q4 q5 q6 q7 q8 q9 q10 q11 q12 q13 q14 q15 q16
        go_wp2
        go_roundg (n1 - (k + 1))
        case measure => rw [G.out]; omega
        case rel => exact ⟨k + 1, f, by omega, by go_num, rfl, rfl, NX, HB.out⟩
      · obtain rfl : k = n1 := by omega
        have i1 : ¬ (k : Int) < (k : Int) := by omega
        have HL := Lib.hid (show LE = 0 by
          have h := G00.out.2
          rw [List.take_of_length_le (by rw [LES.out, ← N1.out]; exact Nat.le_refl _)] at h
          rw [LT.out, if_neg (by rw [G00.out.1]; simp), h])
        go_wp2
        go_meet
        exact ⟨by rw [HL.out], HB16.out⟩
  case rest => as_aux_lemma =>
  obtain ⟨rfl, hb16⟩ := hcut
  obtain ⟨w16, rfl⟩ : ∃ x, x = wc := ⟨_, rfl⟩
  have B16 := Lib.hid (B15.out.trans (hb16.mono B15.out.size))
  clear hb16 LT RV HC1 RDo
  go_upto_region 51 with fail
  go_upto_if 213 with fail
  go_cut [41] (fun s41 wx => (∃ u, s41 = u ∧ IntsR wx u (if LE = 0 then LV else [])) ∧ Below w16.heap.size w16 wx)
  case first => as_aux_lemma =>
    by_cases h0 : LE = 0
    case neg =>
      have d0 : (LE == 0) = false := by simpa using h0
      have IR := Lib.hid (show IntsR w16 (.slice none 0 0) (if LE = 0 then LV else []) by rw [if_neg h0]; exact intsR_nil _)
      clear h0 RL PL
      go_wp2
      go_meet
      exact ⟨⟨_, rfl, IR.out⟩, Below.refl _ _⟩
    have d0 : (LE == 0) = true := by simpa using h0
    have RX := Lib.hid (RL.out h0 w16 B16.out)
    have H0 := Lib.hid h0
    clear h0 RL PL
    go_wp2_with fail
    refine RX.out.mono ?_; rintro e w17 ⟨u, rfl, hu, hb⟩
    have HU := Lib.hid (show IntsR w17 u (if LE = 0 then LV else []) by rw [if_pos H0.out]; exact hu)
    have HB := Lib.hid hb
    clear hu hb
    go_wp2
    go_meet
    exact ⟨⟨_, rfl, HU.out⟩, HB.out⟩
  case rest => as_aux_lemma =>
  obtain ⟨⟨u5, rfl, hu5⟩, hb17⟩ := hcut
  obtain ⟨w17, rfl⟩ : ∃ x, x = wc := ⟨_, rfl⟩
  have B17 := Lib.hid (B16.out.trans (hb17.mono B16.out.size))
  have U5 := Lib.hid hu5
  have PX := Lib.hid (PL.out w17 B17.out)
  clear hb17 hu5 RL PL
  go_upto_region 53 with fail
  go_cut [42, 22] (fun s42 s22 wx => (∃ u, s42 = u ∧ IntsR wx u (if LE = 0 then LV else [])) ∧ s22 = errV LE ∧ Below w17.heap.size w17 wx)
  case first => as_aux_lemma =>
    go_wp2_with fail
    refine PX.out.mono ?_; rintro e w18 ⟨u, rfl, hu, hb⟩
    have HU := Lib.hid hu; have HB := Lib.hid hb
    clear hu hb
    go_wp2
    go_meet
    exact ⟨⟨_, rfl, HU.out⟩, rfl, HB.out⟩
  case rest => as_aux_lemma =>
  obtain ⟨⟨u6, rfl, hu6⟩, rfl, hb18⟩ := hcut
  obtain ⟨w18, rfl⟩ : ∃ x, x = wc := ⟨_, rfl⟩
  have B18 := Lib.hid (B17.out.trans (hb18.mono B17.out.size))
  have U5 := Lib.hid (U5.out.below hb18)
  have U6 := Lib.hid hu6
  clear hb18 hu6 PX
  go_upto_region 54 with fail
  go_cut [43] (fun s43 wx => s43 = .bool true ∧ Below w18.heap.size w18 wx)
  case first => as_aux_lemma =>
    go_wp2_with fail
    refine (error_same LE w18 (ERT.out.below B18.out)).mono ?_; rintro e w19 ⟨rfl, hb⟩
    have HB := Lib.hid hb
    clear hb
    go_wp2
    go_meet
    exact ⟨rfl, HB.out⟩
  case rest => as_aux_lemma =>
  obtain ⟨rfl, hb19⟩ := hcut
  obtain ⟨w19, rfl⟩ : ∃ x, x = wc := ⟨_, rfl⟩
  have B19 := Lib.hid (B18.out.trans (hb19.mono B18.out.size))
  have IS := Lib.hid (ints_sameP _ _ _ w19 (U6.out.below hb19) (U5.out.below hb19))
  clear hb19 U5 U6
  go_upto_region 55 with fail
  go_cut [44] (fun s44 wx => s44 = .bool true ∧ Below w19.heap.size w19 wx)
  case first => as_aux_lemma =>
    go_wp2_with fail
    refine IS.out.mono ?_; rintro e w20 ⟨rfl, hb⟩
    have HB := Lib.hid hb
    clear hb
    go_wp2
    go_meet
    exact ⟨rfl, HB.out⟩
  case rest => as_aux_lemma =>
  obtain ⟨rfl, hb20⟩ := hcut
  obtain ⟨w20, rfl⟩ : ∃ x, x = wc := ⟨_, rfl⟩
  have B20 := Lib.hid (B19.out.trans (hb20.mono B19.out.size))
  clear hb20 IS
  go_wp2
  go_ret
  exact ⟨by first | rfl | simp, BW.out.trans (B20.out.mono BW.out.size)⟩

end Go.Proofs.YtgelojhpanbnaaaGreatDoor

namespace Go.Proofs.YtgelojhpanbnaaaGreatDoor
open Go.RowKit Go.Shelf
set_option linter.unusedVariables false

theorem planTells_law (ah : Int) (vZ : Value) (Z : List (Int × Int)) (v1 : Value) (L1 : List Ev) (ah2 : Int) (vY : Value) (Z2 : List (Int × Int)) (v2 : Value) (L2 : List Ev) (a b n y m : Int) (w : World) (hw : Months w) (hE : ErrT w)
    (w0 : (Lit.int .i64 ah).wf = true) (hZ : PairsR w vZ Z) (hL1 : EvsR w v1 L1 ∧ ∀ e ∈ L1, e.Sm) (w2 : (Lit.int .i64 ah2).wf = true) (hZ2 : PairsR w vY Z2) (hL2 : EvsR w v2 L2 ∧ ∀ e ∈ L2, e.Sm)
    (w4 : (Lit.int .i64 a).wf = true) (w5 : (Lit.int .i64 b).wf = true) (w6 : (Lit.int .i64 n).wf = true) (w7 : (Lit.int .i64 y).wf = true) (w8 : (Lit.int .i64 m).wf = true) :
    Calls Tryz.prog 7 #[.agg #[.int .i64 ah, vZ], v1, .agg #[.int .i64 ah2, vY], v2, .int .i64 a, .int .i64 b, .int .i64 n, .int .i64 y, .int .i64 m] w fun e w' => e = .returned (.bool true) ∧ Below w.heap.size w w' :=
  planTells_any ah vZ Z v1 L1 ah2 vY Z2 v2 L2 a b n y m w hw hE hZ hL1 hZ2 hL2

end Go.Proofs.YtgelojhpanbnaaaGreatDoor
