/- The law PlanFits: where all have time none is there: the walk. -/
import Derived.Test.YtkpmddlinlcobaaGreatDoorQ20
import Derived.Test.YtkpmddlinlcobaaGreatDoorQ14
namespace Go.Proofs.YtkpmddlinlcobaaGreatDoor
open Go.RowKit Go.Shelf
set_option linter.unusedSimpArgs false
set_option linter.unusedVariables false

/-- a row in a block of its own. -/
theorem reads_new {w : World} {t : TypeId} {k n : Nat} (xs : List Value) (hl : xs.length = n * k) (hn : n ≤ maxLen) : Reads (w.alloc (.cells xs.toArray t)) (.slice (some ⟨w.heap.size, 0, none⟩) n n) k n xs :=
  ⟨_, n, rfl, hl, Nat.le_refl _, hn, fun _ => ⟨w.heap.size, 0, rfl, fun j u hj => by rw [Nat.zero_add, World.cell?_alloc_new, List.getElem?_toArray]; exact hj⟩⟩

def oneFit : Ev := ⟨[97], [], 100, 50, false, 0, 0, 0, 0, .slice none 0 0, .slice none 0 0, .slice none 0 0, .slice none 0 0, .slice none 0 0, .slice none 0 0, .slice none 0 0, .slice none 0 0, [], [], [], [], [], [], [], []⟩

theorem oneFit_rd (w : World) : oneFit.Rd w := ⟨⟨intsR_nil _, intsR_nil _, reads_nil _ _, intsR_nil _, intsR_nil _, intsR_nil _, reads_nil _ _, reads_nil _ _⟩, by decide, by decide, by decide⟩

theorem fits_fact : oneFit.F = 0 := by decide +kernel

theorem fits_times : oneFit.times 0 [] 90 300 = [(100, 100)] :=
  show tmsOf 0 [] [100] [] [] [] 50 90 300 = [(100, 100)] from tmsOf_one (mayZ_nil (by decide)) (by simp) (oneT_nil.2 ⟨rfl, rfl, by decide, by decide, by decide⟩) (by decide) (by decide)

theorem fits_err : oneFit.err 0 [] 90 300 = 0 := by
  rw [Ev.err, fits_times, fits_fact]
  decide

def fitGrp (v : Value) : Grp := ⟨0, .slice none 0 0, [], v, [oneFit]⟩

theorem fit_T (v : Value) : (fitGrp v).T 90 300 = [(50, [(100, 100)])] := by
  unfold Grp.T fitGrp
  simp only [List.map_cons, List.map_nil]
  rw [fits_times]; rfl

theorem fit_E (v : Value) : (fitGrp v).E 90 300 = 0 := by
  unfold Grp.E
  rw [fit_T]
  unfold fitGrp
  simp only [List.map_cons, List.map_nil]
  rw [fits_err]; decide

theorem fit_K (v : Value) : (fitGrp v).K 90 300 = [(100, 150)] := by
  unfold Grp.K
  rw [fit_T]; rfl

theorem fit_tk : tkL [[(100, 150)]] = [(100, 150)] := by
  unfold tkL tkF
  rw [List.foldl_cons, List.foldl_nil, ofL_norm (L := [((100 : Int), (150 : Int))]) (by simp), List.nil_append, show normL [((100 : Int), (150 : Int))] = [(100, 150)] by decide, ofL_norm (by simp)]
  decide

theorem fit_meet (v : Value) : meetF [fitGrp v] 90 300 30 = 0 ∧ meetV [fitGrp v] 90 300 30 = 150 := by
  unfold meetF meetV
  simp only [List.map_cons, List.map_nil]
  rw [fit_E, fit_K, fit_tk]
  decide

theorem fit_call (w : World) (hw : Months w) (u v v2 : Value) (hu : Reads w u 2 1 [.int .i64 0, .slice none 0 0]) (hv : Reads w v 1 1 [v2]) (he : EvsR w v2 [oneFit]) :
    Calls Tryz.prog 39 #[u, v, .int .i64 90, .int .i64 300, .int .i64 30] w fun e w' => e = .returned (.tuple #[.int .i64 150, .nilIface]) ∧ Below w.heap.size w w' := by
  have h := meetAll_any u v [fitGrp v2] 90 300 30 w hw ⟨hu, hv, fun g hg => by simp at hg; subst hg; exact reads_nil _ _, fun g hg => by simp at hg; subst hg; exact he⟩ (by simp)
  rw [(fit_meet v2).1, (fit_meet v2).2] at h
  exact h

/-- what holds of each time of each event where all have time. -/
def FitT (ah : Int) (Z : List (Int × Int)) (a b V n : Int) (e : Ev) : Prop := (0 ≤ e.ln ∧ (e.times ah Z a b).length ≤ 200) ∧ ∀ x ∈ e.times ah Z a b, ¬ (x.2 < V + n ∧ V < x.2 + e.ln ∧ x.2 < x.2 + e.ln)

theorem fit_all {D : List Grp} {a b n : Int} (h : meetF D a b n = 0) : (1 ≤ a ∧ a ≤ meetV D a b n ∧ meetV D a b n + n ≤ b ∧ b < 157785120 ∧ 1 ≤ n ∧ n ≤ 1000000) ∧ ∀ g ∈ D, ∀ e ∈ g.L, e.err g.ah g.Z a b = 0 ∧ FitT g.ah g.Z a b (meetV D a b n) n e := by
  unfold meetF at h
  by_cases h0 : fstE (D.map (Grp.E a b)) ≠ 0
  · rw [if_pos h0] at h; exact absurd h h0
  rw [if_neg h0] at h
  have hV : meetV D a b n = seekV (tkL (D.map (Grp.K a b))) a b n := by unfold meetV; rw [if_neg h0]
  have hE : ∀ g ∈ D, g.E a b = 0 := fun g hg => fstE_all (show fstE (D.map (Grp.E a b)) = 0 by omega) _ (List.mem_map_of_mem hg)
  have hD : ∀ K ∈ D.map (Grp.K a b), ∀ x ∈ K, x.1 ≤ x.2 := fun K hK => by
    obtain ⟨g, hg, rfl⟩ := List.mem_map.1 hK
    exact grp_up (hE g hg)
  obtain ⟨s1, s2, s3, s4, s5, s6, -⟩ := seek_ok (tkL_up hD) h
  rw [← hV] at s2 s3
  refine ⟨⟨s1, s2, s3, s4, s5, s6⟩, fun g hg e he => ?_⟩
  have e0 : e.err g.ah g.Z a b = 0 := fstE_all (allE_0 (hE g hg)).2.1 _ (List.mem_map_of_mem he)
  refine ⟨e0, ⟨ev_up e0, (fullN_0 e0.symm).2⟩, fun x hx => ?_⟩
  have hx2 : (x.2, x.2 + e.ln) ∈ g.K a b := takenL_mem.2 ⟨_, List.mem_map_of_mem he, x, hx, rfl⟩
  exact fits_none hD hV h (List.mem_map_of_mem hg) hx2

set_option maxRecDepth 100000 in
set_option maxHeartbeats 16000000 in
theorem planFits_any (ah : Int) (vZ : Value) (Z : List (Int × Int)) (v1 : Value) (L1 : List Ev) (ah2 : Int) (vY : Value) (Z2 : List (Int × Int)) (v2 : Value) (L2 : List Ev) (a b n : Int) (w : World) (hw : Months w)
    (hZ : PairsR w vZ Z) (hL1 : EvsR w v1 L1) (hZ2 : PairsR w vY Z2) (hL2 : EvsR w v2 L2) :
    Calls Tryz.prog 11 #[.agg #[.int .i64 ah, vZ], v1, .agg #[.int .i64 ah2, vY], v2, .int .i64 a, .int .i64 b, .int .i64 n] w fun e w' => e = .returned (.bool true) ∧ Below w.heap.size w w' := by
  have hZ0 := hZ; have hY0 := hZ2; have hE1 := hL1; have hE2 := hL2
  obtain ⟨aZ, kZ, rfl, -, -, -⟩ := pairsR_open hZ
  obtain ⟨aY, kY, rfl, -, -, -⟩ := pairsR_open hZ2
  obtain ⟨p1, c1, rfl, k1a, k1b, hc1⟩ := evsR_open hL1
  obtain ⟨p2, c2, rfl, k2a, k2b, hc2⟩ := evsR_open hL2
  unfold maxLen at k1b k2b
  obtain ⟨eb, heb⟩ : ∃ x, x = w.heap.size := ⟨_, rfl⟩
  obtain ⟨wz, hwz⟩ : ∃ x, x = w.alloc (.cells #[.int .i64 ah, .slice aZ Z.length kZ] 56) := ⟨_, rfl⟩
  have hbz : Below w.heap.size w wz := by rw [hwz]; exact (Below.refl _ _).alloc (Nat.le_refl _) _
  have hsz : wz.heap.size = eb + 1 := by rw [hwz, heb]; simp
  have z0 : wz.cell? ⟨eb, 0, none⟩ = some (.int .i64 ah) := by rw [hwz, heb]; simp
  have z1 : wz.cell? ⟨eb, 1, none⟩ = some (.slice aZ Z.length kZ) := by rw [hwz, heb]; simp
  obtain ⟨w0, hw0⟩ : ∃ x, x = wz.alloc (.cells #[.int .i64 ah2, .slice aY Z2.length kY] 56) := ⟨_, rfl⟩
  have hb0 : Below wz.heap.size wz w0 := by rw [hw0]; exact (Below.refl _ _).alloc (Nat.le_refl _) _
  have y0 : w0.cell? ⟨eb + 1, 0, none⟩ = some (.int .i64 ah2) := by rw [hw0, ← hsz]; simp
  have y1 : w0.cell? ⟨eb + 1, 1, none⟩ = some (.slice aY Z2.length kY) := by rw [hw0, ← hsz]; simp
  have z0 := cell_below hb0 z0; have z1 := cell_below hb0 z1
  have hbw : Below w.heap.size w w0 := hbz.trans (hb0.mono hbz.size)
  obtain ⟨D, hD⟩ : ∃ D : List Grp, D = [⟨ah, .slice aZ Z.length kZ, Z, .slice p1 L1.length c1, L1⟩, ⟨ah2, .slice aY Z2.length kY, Z2, .slice p2 L2.length c2, L2⟩] := ⟨_, rfl⟩
  have dz : D.flatMap Grp.zc = [.int .i64 ah, .slice aZ Z.length kZ, .int .i64 ah2, .slice aY Z2.length kY] := by rw [hD]; rfl
  have dv : D.map (·.v) = [.slice p1 L1.length c1, .slice p2 L2.length c2] := by rw [hD]; rfl
  have dl : D.length = 2 := by rw [hD]; rfl
  obtain ⟨V, hV⟩ : ∃ V, V = meetV D a b n := ⟨_, rfl⟩
  obtain ⟨F, hF⟩ : ∃ F, F = meetF D a b n := ⟨_, rfl⟩
  have ME := Lib.hid (show ∀ (u v : Value) (wx : World), Below w0.heap.size w0 wx → Reads wx u 2 2 [.int .i64 ah, .slice aZ Z.length kZ, .int .i64 ah2, .slice aY Z2.length kY] → Reads wx v 1 2 [.slice p1 L1.length c1, .slice p2 L2.length c2] →
      Calls Tryz.prog 39 #[u, v, .int .i64 a, .int .i64 b, .int .i64 n] wx (fun e w' => e = .returned (.tuple #[.int .i64 V, errV F]) ∧ Below wx.heap.size wx w') from fun u v wx hbx hu hv => by
    have hbx2 : Below w.heap.size w wx := hbw.trans (hbx.mono hbw.size)
    rw [hV, hF]
    refine meetAll_any u v D a b n wx (hw.below hbx2) ⟨by rw [dl, dz]; exact hu, by rw [dl, dv]; exact hv, fun g hg => ?_, fun g hg => ?_⟩ (by omega)
    · rw [hD] at hg; simp at hg; rcases hg with rfl | rfl
      · exact hZ0.below hbx2
      · exact hY0.below hbx2
    · rw [hD] at hg; simp at hg; rcases hg with rfl | rfl
      · exact hE1.below hbx2
      · exact hE2.below hbx2)
  have FA := Lib.hid (show F = 0 → (1 ≤ a ∧ a ≤ V ∧ V + n ≤ b ∧ b < 157785120 ∧ 1 ≤ n ∧ n ≤ 1000000) ∧ (∀ e ∈ L1, e.err ah Z a b = 0 ∧ FitT ah Z a b V n e) ∧ (∀ e ∈ L2, e.err ah2 Z2 a b = 0 ∧ FitT ah2 Z2 a b V n e) from fun h => by
    rw [hF] at h
    obtain ⟨f1, f2⟩ := fit_all h
    rw [← hV] at f1 f2
    exact ⟨f1, fun e he => f2 _ (by rw [hD]; exact List.mem_cons_self) e he, fun e he => f2 _ (by rw [hD]; exact List.mem_cons_of_mem _ List.mem_cons_self) e he⟩)
  have FITC := Lib.hid (show ∀ (u v v2 : Value) (wx : World), Below w0.heap.size w0 wx → Reads wx u 2 1 [.int .i64 0, .slice none 0 0] → Reads wx v 1 1 [v2] → EvsR wx v2 [oneFit] →
      Calls Tryz.prog 39 #[u, v, .int .i64 90, .int .i64 300, .int .i64 30] wx (fun e w' => e = .returned (.tuple #[.int .i64 150, .nilIface]) ∧ Below wx.heap.size wx w') from fun u v v2 wx hbx hu hv he => fit_call wx (hw.below (hbw.trans (hbx.mono hbw.size))) u v v2 hu hv he)
  have BE := Lib.hid (show F = 0 → (∀ (k : Nat) (hk : k < L1.length) (wx : World), Below w0.heap.size w0 wx → Calls Tryz.prog 28 #[.agg #[.int .i64 ah, .slice aZ Z.length kZ], .agg L1[k].cells.toArray, .int .i64 a, .int .i64 b] wx (BetP L1[k].ln 0 (L1[k].times ah Z a b) wx)) ∧
      (∀ (k : Nat) (hk : k < L2.length) (wx : World), Below w0.heap.size w0 wx → Calls Tryz.prog 28 #[.agg #[.int .i64 ah2, .slice aY Z2.length kY], .agg L2[k].cells.toArray, .int .i64 a, .int .i64 b] wx (BetP L2[k].ln 0 (L2[k].times ah2 Z2 a b) wx)) from fun h => by
    obtain ⟨-, f1, f2⟩ := FA.out h
    refine ⟨fun k hk wx hbx => ?_, fun k hk wx hbx => ?_⟩
    · have hbx2 : Below w.heap.size w wx := hbw.trans (hbx.mono hbw.size)
      have h := ev_between L1[k] ah _ Z a b wx (hw.below hbx2) ((hE1.2 _ (List.getElem_mem _)).below hbx2) (hZ0.below hbx2)
      rw [(f1 _ (List.getElem_mem _)).1] at h; exact h
    · have hbx2 : Below w.heap.size w wx := hbw.trans (hbx.mono hbw.size)
      have h := ev_between L2[k] ah2 _ Z2 a b wx (hw.below hbx2) ((hE2.2 _ (List.getElem_mem _)).below hbx2) (hY0.below hbx2)
      rw [(f2 _ (List.getElem_mem _)).1] at h; exact h)
  have RD1 := Lib.hid (show ∀ (k : Nat) (hk : k < L1.length), L1[k].Rd w0 from fun k hk => (hE1.2 _ (List.getElem_mem _)).below hbw)
  have RD2 := Lib.hid (show ∀ (k : Nat) (hk : k < L2.length), L2[k].Rd w0 from fun k hk => (hE2.2 _ (List.getElem_mem _)).below hbw)
  have HC1 := Lib.hid (show 0 < L1.length → ∃ b off, p1 = some ⟨b, off, none⟩ ∧ ∀ (k : Nat) (hk : k < L1.length), EvO w0 b (off + k * 17) L1[k] from fun hp => by
    obtain ⟨b, off, e1, e2⟩ := hc1 hp
    exact ⟨b, off, e1, fun k hk => (e2 k hk).below hbw⟩)
  have HC2 := Lib.hid (show 0 < L2.length → ∃ b off, p2 = some ⟨b, off, none⟩ ∧ ∀ (k : Nat) (hk : k < L2.length), EvO w0 b (off + k * 17) L2[k] from fun hp => by
    obtain ⟨b, off, e1, e2⟩ := hc2 hp
    exact ⟨b, off, e1, fun k hk => (e2 k hk).below hbw⟩)
  obtain ⟨n1, hn1⟩ : ∃ n, n = L1.length := ⟨_, rfl⟩
  obtain ⟨n2, hn2⟩ : ∃ n, n = L2.length := ⟨_, rfl⟩
  have N1 := Lib.hid hn1; have N2 := Lib.hid hn2
  rw [← hn1, ← hn2] at ME
  rw [← hn1, ← hn2]
  rw [← hn1] at k1a; rw [← hn2] at k2a
  have BW := Lib.hid hbw; have WZ := Lib.hid hwz; have W0 := Lib.hid hw0; have EB := Lib.hid heb
  have Z0 := Lib.hid z0; have Z1 := Lib.hid z1; have Y0 := Lib.hid y0; have Y1 := Lib.hid y1
  obtain ⟨w1, hw1⟩ : ∃ x, x = w0.alloc (.cells #[.string { data := #[97] }, .string { data := #[] }, .int .i64 100, .int .i64 50, .bool false, .int .i64 0, .int .i64 0, .int .i64 0, .int .i64 0, .slice none 0 0, .slice none 0 0, .slice none 0 0, .slice none 0 0, .slice none 0 0, .slice none 0 0, .slice none 0 0, .slice none 0 0] 29) := ⟨_, rfl⟩
  obtain ⟨ob, hob⟩ : ∃ x, x = w0.heap.size := ⟨_, rfl⟩
  have ec1 := hw1 ▸ evC_new w0 29 { data := #[97] } { data := #[] } 100 50 false 0 0 0 0 (.slice none 0 0) (.slice none 0 0) (.slice none 0 0) (.slice none 0 0) (.slice none 0 0) (.slice none 0 0) (.slice none 0 0) (.slice none 0 0)
  rw [← hob] at ec1
  have hb1 : Below w0.heap.size w0 w1 := by rw [hw1]; exact (Below.refl _ _).alloc (Nat.le_refl _) _
  have EC1 := Lib.hid ec1; have B1 := Lib.hid hb1; have W1 := Lib.hid hw1; have OB := Lib.hid hob
  clear hw hZ hZ2 hL1 hL2 hZ0 hY0 hE1 hE2 hc1 hc2 hwz hbz hsz hw0 hb0 hbw heb z0 z1 y0 y1 hD dz dv dl hV hF hn1 hn2 ec1 hb1 hw1 hob D
  obtain ⟨iE, zE, hiE, hzE, hkE, hnE⟩ := ev_info
  go_enter Tryz.func11, Tryz.ntmps11
  go_upto_region 1 with fail
  rw [← WZ.out, ← W0.out]
  rw [← EB.out]
  go_upto_region 2 with fail
  rw [← W1.out]
  rw [← OB.out]
  have k0 := EC1.out.k0; have k1 := EC1.out.k1; have k2 := EC1.out.k2; have k3 := EC1.out.k3; have k4 := EC1.out.k4; have k5 := EC1.out.k5; have k6 := EC1.out.k6; have k7 := EC1.out.k7; have k8 := EC1.out.k8; have k9 := EC1.out.k9; have k10 := EC1.out.k10; have k11 := EC1.out.k11; have k12 := EC1.out.k12; have k13 := EC1.out.k13; have k14 := EC1.out.k14; have k15 := EC1.out.k15; have k16 := EC1.out.k16
  go_cut [16, 17] (fun s16 s17 wx => s16 = .int .i64 150 ∧ s17 = .nilIface ∧ Below w0.heap.size w0 wx)
  case first => as_aux_lemma =>
    have hob2 : ob < w1.heap.size := World.block_lt_of_cell? w1 _ k0
    go_wp2_with (refine wpList_build1 rfl 83 _ rfl 29 iE zE 17 Tryz.underlying83 hiE hzE hkE hnE (by decide) (by decide) _ rfl rfl ?_)
    refine (FITC.out _ _ (.slice (some ⟨w1.heap.size + 1, 0, none⟩) 1 1) _ (((B1.out.alloc B1.out.size _).alloc (by rw [World.size_alloc]; have := B1.out.size; omega) _).alloc (by rw [World.size_alloc, World.size_alloc]; have := B1.out.size; omega) _)
      (Reads.below (Reads.below (reads_new [.int .i64 0, .slice none 0 0] rfl (by decide)) ((Below.refl _ _).alloc (Nat.le_refl _) _)) ((Below.refl _ _).alloc (Nat.le_refl _) _)) ?r2 ?r3).mono ?_
    case r2 =>
      have h := fun cs => reads_new (w := (w1.alloc (.cells #[.int .i64 0, .slice none 0 0] 56)).alloc (.cells cs 29)) (t := 83) (k := 1) (n := 1) [.slice (some ⟨w1.heap.size + 1, 0, none⟩) 1 1] rfl (by decide)
      simp only [World.size_alloc] at h
      exact h _
    case r3 =>
      have h := fun cs hcs => evs_new2 (w := w1.alloc (.cells #[.int .i64 0, .slice none 0 0] 56)) (t := 29) [oneFit] cs hcs (fun e he => by simp at he; subst he; exact oneFit_rd _) (by decide)
      simp only [World.size_alloc] at h
      exact EvsR.below (h _ (by simp [Value.cells, oneFit, Ev.cells, bs])) ((Below.refl _ _).alloc (Nat.le_refl _) _)
    rintro e w3 ⟨rfl, hb⟩
    have HB := Lib.hid (below_next (((B1.out.alloc B1.out.size _).alloc (by rw [World.size_alloc]; have := B1.out.size; omega) _).alloc (by rw [World.size_alloc, World.size_alloc]; have := B1.out.size; omega) _) hb)
    clear hb k0 k1 k2 k3 k4 k5 k6 k7 k8 k9 k10 k11 k12 k13 k14 k15 k16
    go_wp2
    go_meet
    exact ⟨rfl, rfl, HB.out⟩
  case rest =>
  obtain ⟨rfl, rfl, hb2⟩ := hcut
  obtain ⟨w2, rfl⟩ : ∃ x, x = wc := ⟨_, rfl⟩
  have B2 := Lib.hid hb2
  have z0 := cell_below hb2 Z0.out; have z1 := cell_below hb2 Z1.out
  have y0 := cell_below hb2 Y0.out; have y1 := cell_below hb2 Y1.out
  clear hb2 k0 k1 k2 k3 k4 k5 k6 k7 k8 k9 k10 k11 k12 k13 k14 k15 k16 EC1 FITC B1 W1 OB
  go_upto_region 5 with fail
  go_cut [18, 19] (fun s18 s19 wx => s18 = .int .i64 V ∧ s19 = errV F ∧ Below w2.heap.size w2 wx)
  case first => as_aux_lemma =>
    go_wp2_with fail
    refine (ME.out _ _ _ ((B2.out.alloc B2.out.size _).alloc (by rw [World.size_alloc]; have := B2.out.size; omega) _)
      (Reads.below (reads_new [.int .i64 ah, .slice aZ Z.length kZ, .int .i64 ah2, .slice aY Z2.length kY] rfl (by decide)) ((Below.refl _ _).alloc (Nat.le_refl _) _)) ?r2).mono ?_
    case r2 =>
      have h := reads_new (w := w2.alloc (.cells #[.int .i64 ah, .slice aZ Z.length kZ, .int .i64 ah2, .slice aY Z2.length kY] 56)) (t := 83) (k := 1) (n := 2) [.slice p1 n1 c1, .slice p2 n2 c2] rfl (by decide)
      rw [World.size_alloc] at h
      exact h
    rintro e w3 ⟨rfl, hb⟩
    have HB := Lib.hid (below_next (((Below.refl _ _).alloc (Nat.le_refl _) _).alloc (by rw [World.size_alloc]; omega) _) hb)
    clear hb z0 z1 y0 y1
    go_wp2
    go_meet
    exact ⟨rfl, rfl, HB.out⟩
  case rest =>
  obtain ⟨rfl, rfl, hb3⟩ := hcut
  obtain ⟨w3, rfl⟩ : ∃ x, x = wc := ⟨_, rfl⟩
  have B3 := Lib.hid (B2.out.trans (hb3.mono B2.out.size))
  clear hb3 z0 z1 y0 y1 ME
  by_cases h0 : F ≠ 0
  · have EV := Lib.hid (show errV F = .iface 119 (.int .i64 F) by rw [errV, if_neg h0])
    rw [EV.out]
    clear h0
    go_wp2
    go_ret
    exact ⟨rfl, BW.out.trans (B3.out.mono BW.out.size)⟩
  obtain rfl : F = 0 := by omega
  rw [errV_0]
  obtain ⟨vb, ft1, ft2⟩ := FA.out rfl
  obtain ⟨bf1, bf2⟩ := BE.out rfl
  have VB := Lib.hid vb
  have FT1 := Lib.hid (show ∀ (k : Nat) (hk : k < L1.length), FitT ah Z a b V n L1[k] from fun k hk => (ft1 _ (List.getElem_mem _)).2)
  have FT2 := Lib.hid (show ∀ (k : Nat) (hk : k < L2.length), FitT ah2 Z2 a b V n L2[k] from fun k hk => (ft2 _ (List.getElem_mem _)).2)
  have BF1 := Lib.hid bf1; have BF2 := Lib.hid bf2
  have d1 : decide (V < a) = false := decide_eq_false (by omega)
  have d2 : decide (b < V + n) = false := decide_eq_false (by omega)
  have s0 : IntKind.i64.wrap (V + n) = V + n := IntWalk.i64_in _ (by omega)
  clear h0 vb ft1 ft2 bf1 bf2 FA BE
  go_upto_block 0 with fail
  go_cut [20] (fun s20 wx => Below w3.heap.size w3 wx)
  case first => as_aux_lemma =>
    go_wp2_with fail
    go_loopg [20] n1 (fun g iv wr => ∃ k : Nat, k ≤ n1 ∧ iv = .int .i64 k ∧ g = n1 - k ∧ Below w3.heap.size w3 wr)
    case atStart => exact ⟨0, Nat.zero_le _, rfl, rfl, Below.refl _ _⟩
    case round =>
      obtain ⟨k, hk, rfl, hg, hb⟩ := hrel
      obtain ⟨w6, rfl⟩ : ∃ x, x = wr := ⟨_, rfl⟩
      have G := Lib.hid hg
      have BR := Lib.hid hb
      have B6 := Lib.hid (B3.out.trans (hb.mono B3.out.size))
      clear hg hb
      by_cases hlt : k < n1
      · have k1 : k < L1.length := by rw [← N1.out]; exact hlt
        obtain ⟨lb, lo, rfl, hcs⟩ := HC1.out (by omega)
        have eo := (hcs k k1).below B6.out
        have BT := Lib.hid (fun wx => BF1.out k k1 wx)
        have rd := (RD1.out k k1).below B6.out
        have TT := FT1.out k k1
        unfold FitT at TT
        have z0 := cell_below B6.out Z0.out
        have z1 := cell_below B6.out Z1.out
        obtain ⟨e, he⟩ : ∃ e, e = L1[k] := ⟨_, rfl⟩
        rw [← he] at eo BT rd TT
        obtain ⟨R, hR⟩ : ∃ R, R = e.times ah Z a b := ⟨_, rfl⟩
        rw [← hR] at BT TT
        have TT := Lib.hid TT
        obtain ⟨o, hoo⟩ : ∃ o, o = lo + k * 17 := ⟨_, rfl⟩
        rw [← hoo] at eo
        clear hR
        obtain ⟨nm, tx, st, ln, rp, fr, ev, ct, ti, vm, vd, vw, vp, vM, vN, vC, vA, mo, da, we, pk, M, N, C, A⟩ := e
        obtain ⟨q0, q1, q2, q3, q4, q5, q6, q7, q8, q9, q10, q11, q12, q13, q14, q15, q16⟩ := eo
        simp only [Ev.cells] at q0 q1 q2 q3 q4 q5 q6 q7 q8 q9 q10 q11 q12 q13 q14 q15 q16 BT TT
        obtain ⟨hR0, hnm, htx, hcl⟩ := rd
        simp only at hR0
        obtain ⟨h1, h2, h3, h4, hM, hN, hC, hA⟩ := hR0
        obtain ⟨am, km, rfl, -, -, -⟩ := intsR_open h1
        obtain ⟨ad, kd, rfl, -, -, -⟩ := intsR_open h2
        obtain ⟨aw, kw, rfl, -, -, -⟩ := pairsR_open h3
        obtain ⟨ap, kp, rfl, -, -, -⟩ := intsR_open h4
        obtain ⟨aM, kM, rfl, -, -, -⟩ := intsR_open hM
        obtain ⟨aN, kN, rfl, -, -, -⟩ := intsR_open hN
        obtain ⟨aC, kC, rfl, -, -, -⟩ := pairsR_open hC
        obtain ⟨aA, kA, rfl, -, -, -⟩ := almsR_open hA
        obtain ⟨snm, hsnm⟩ : ∃ s, s = bs nm := ⟨_, rfl⟩
        obtain ⟨stx, hstx⟩ : ∃ s, s = bs tx := ⟨_, rfl⟩
        rw [← hsnm] at q0 BT; rw [← hstx] at q1 BT
        have j0 : (0 : Int) ≤ (k : Int) := Int.natCast_nonneg _
        have j2 : (k : Int) < (n1 : Int) := by omega
        have TR := Lib.hid (show ∀ x ∈ R, ¬ (x.2 < V + n ∧ V < x.2 + ln ∧ x.2 < x.2 + ln) from TT.2)
        have LB := Lib.hid (show 0 ≤ ln ∧ R.length ≤ 200 from TT.1)
        rw [hoo] at q0 q1 q2 q3 q4 q5 q6 q7 q8 q9 q10 q11 q12 q13 q14 q15 q16
        clear he hoo h1 h2 h3 h4 hM hN hC hA hnm htx hcl hsnm hstx TT hcs
        go_upto_region 13 with fail
        go_cut [21, 22] (fun s21 s22 wx => (∃ va, ∃ vc : Nat, s21 = .slice va R.length vc ∧ OwnT ln w6.heap.size wx (.slice va R.length vc) R) ∧ s22 = .nilIface ∧ Below w6.heap.size w6 wx)
        case first => as_aux_lemma =>
          go_region_held3 (fun w' => w'.cell? ⟨eb, 0, none⟩ = some (.int .i64 ah) ∧ w'.cell? ⟨eb, 1, none⟩ = some (.slice aZ Z.length kZ) ∧ w'.cell? ⟨lb, lo + k * 17, none⟩ = some (.string snm) ∧ w'.cell? ⟨lb, lo + k * 17 + 1, none⟩ = some (.string stx) ∧ w'.cell? ⟨lb, lo + k * 17 + 2, none⟩ = some (.int .i64 st) ∧ w'.cell? ⟨lb, lo + k * 17 + 3, none⟩ = some (.int .i64 ln) ∧ w'.cell? ⟨lb, lo + k * 17 + 4, none⟩ = some (.bool rp) ∧ w'.cell? ⟨lb, lo + k * 17 + 5, none⟩ = some (.int .i64 fr) ∧ w'.cell? ⟨lb, lo + k * 17 + 6, none⟩ = some (.int .i64 ev) ∧ w'.cell? ⟨lb, lo + k * 17 + 7, none⟩ = some (.int .i64 ct) ∧ w'.cell? ⟨lb, lo + k * 17 + 8, none⟩ = some (.int .i64 ti) ∧ w'.cell? ⟨lb, lo + k * 17 + 9, none⟩ = some (.slice am mo.length km) ∧ w'.cell? ⟨lb, lo + k * 17 + 10, none⟩ = some (.slice ad da.length kd) ∧ w'.cell? ⟨lb, lo + k * 17 + 11, none⟩ = some (.slice aw we.length kw) ∧ w'.cell? ⟨lb, lo + k * 17 + 12, none⟩ = some (.slice ap pk.length kp) ∧ w'.cell? ⟨lb, lo + k * 17 + 13, none⟩ = some (.slice aM M.length kM) ∧ w'.cell? ⟨lb, lo + k * 17 + 14, none⟩ = some (.slice aN N.length kN) ∧ w'.cell? ⟨lb, lo + k * 17 + 15, none⟩ = some (.slice aC C.length kC) ∧ w'.cell? ⟨lb, lo + k * 17 + 16, none⟩ = some (.slice aA A.length kA))
            (first | (refine ⟨?_, ?_, ?_, ?_, ?_, ?_, ?_, ?_, ?_, ?_, ?_, ?_, ?_, ?_, ?_, ?_, ?_, ?_, ?_⟩ <;> assumption) | (refine ⟨?_, ?_, ?_, ?_, ?_, ?_, ?_, ?_, ?_, ?_, ?_, ?_, ?_, ?_, ?_, ?_, ?_, ?_, ?_⟩ <;> (first | exact cell_below hb (by assumption))))
            ((go_at_call 28; refine (BT.out _ (B6.out.trans (Below.mono (Below.refl _ _).drew B6.out.size))).mono ?_; rintro e w7 ⟨v, rfl, hv, hb⟩; rw [if_pos rfl] at hv; rw [errV_0]; obtain ⟨va, vc, rfl, -, -, -⟩ := owns_cells hv))
          have HV := Lib.hid hv
          have HB := Lib.hid (below_next (Below.refl _ _).drew hb)
          clear hv hb z0 z1 q0 q1 q2 q3 q4 q5 q6 q7 q8 q9 q10 q11 q12 q13 q14 q15 q16
          go_wp2
          go_meet
          exact ⟨⟨_, _, rfl, HV.out⟩, rfl, HB.out⟩
        case rest =>
        clear z0 z1 q0 q1 q2 q3 q4 q5 q6 q7 q8 q9 q10 q11 q12 q13 q14 q15 q16
        obtain ⟨⟨va, vc, rfl, hv⟩, rfl, hb7⟩ := hcut
        obtain ⟨w7, rfl⟩ : ∃ x, x = wc := ⟨_, rfl⟩
        have B7 := Lib.hid (BR.out.trans (hb7.mono BR.out.size))
        obtain ⟨va', vc', e1, -, -, hcs⟩ := owns_cells hv
        cases e1
        have HD := Lib.hid (show 0 < R.length → ∃ g, va = some ⟨g, 0, none⟩ ∧ ∀ (k : Nat) (hk : k < R.length), w7.cell? ⟨g, k * 3, none⟩ = some (.int .i64 R[k].1) ∧ w7.cell? ⟨g, k * 3 + 1, none⟩ = some (.int .i64 R[k].2) ∧ w7.cell? ⟨g, k * 3 + 2, none⟩ = some (.int .i64 (R[k].2 + ln)) from fun hp => by
          obtain ⟨g, e1, -, q⟩ := hcs hp
          refine ⟨g, e1, fun k hk => ⟨q (k * 3) _ ?_, q (k * 3 + 1) _ ?_, q (k * 3 + 2) _ ?_⟩⟩
          · have := flatMap_at (enc := encT ln) (k := 3) (fun _ => rfl) R k 0 hk (by omega); simpa [encT] using this
          · have := flatMap_at (enc := encT ln) (k := 3) (fun _ => rfl) R k 1 hk (by omega); simpa [encT] using this
          · have := flatMap_at (enc := encT ln) (k := 3) (fun _ => rfl) R k 2 hk (by omega); simpa [encT] using this)
        obtain ⟨n7, hn7⟩ : ∃ n, n = R.length := ⟨_, rfl⟩
        have NE := Lib.hid hn7
        rw [← hn7]
        clear hv hcs hn7 hb7 BT
        go_wp2_with fail
        go_loopg [23] n7 (fun g iv wr => ∃ j : Nat, j ≤ n7 ∧ iv = .int .i64 j ∧ g = n7 - j ∧ Below w7.heap.size w7 wr)
        case atStart => exact ⟨0, Nat.zero_le _, rfl, rfl, Below.refl _ _⟩
        case round =>
          obtain ⟨j, hj, rfl, hg2, hb⟩ := hrel
          obtain ⟨w8, rfl⟩ : ∃ x, x = wr := ⟨_, rfl⟩
          have G2 := Lib.hid hg2
          have B8 := Lib.hid hb
          clear hg2 hb
          by_cases hlt2 : j < n7
          · have hj1 : j < R.length := by rw [← NE.out]; exact hlt2
            obtain ⟨g3, rfl, hcs⟩ := HD.out (by omega)
            have q1 := cell_below B8.out (hcs j hj1).2.1
            have q2 := cell_below B8.out (hcs j hj1).2.2
            obtain ⟨x, hx⟩ : ∃ x, x = R[j] := ⟨_, rfl⟩
            rw [← hx] at q1 q2
            have XX := Lib.hid (TR.out x (by rw [hx]; exact List.getElem_mem _))
            obtain ⟨x1, x2⟩ := x
            simp only at q1 q2 XX
            obtain ⟨y, hy⟩ : ∃ y, y = x2 + ln := ⟨_, rfl⟩
            rw [← hy] at q2 XX
            have i0 : (0 : Int) ≤ (j : Int) := Int.natCast_nonneg _
            have i2 : (j : Int) < (n7 : Int) := by omega
            have s0 : IntKind.i64.wrap (V + n) = V + n := IntWalk.i64_in _ (by have := VB.out; omega)
            clear hx hy hcs
            go_upto_region 17 with fail
            go_cut [126] (fun s126 wx => s126 = .bool false ∧ Below w8.heap.size w8 wx)
            case first => as_aux_lemma =>
              by_cases g1 : x2 < V + n
              · have d1 : decide (x2 < V + n) = true := decide_eq_true g1
                by_cases g2 : V < y
                · have d2 : decide (V < y) = true := decide_eq_true g2
                  have d3 : decide (x2 < y) = false := decide_eq_false (fun h => XX.out ⟨g1, g2, h⟩)
                  clear g1 g2
                  go_quiet (fail)
                  go_wp2
                  go_meet
                  exact ⟨by first | rfl | simp, below_drewN (Below.refl _ _) _⟩
                · have d2 : decide (V < y) = false := decide_eq_false g2
                  clear g1 g2
                  go_quiet (fail)
                  go_wp2
                  go_meet
                  exact ⟨by first | rfl | simp, below_drewN (Below.refl _ _) _⟩
              · have d1 : decide (x2 < V + n) = false := decide_eq_false g1
                clear g1
                go_quiet (fail)
                go_wp2
                go_meet
                exact ⟨by first | rfl | simp, below_drewN (Below.refl _ _) _⟩
            case rest =>
            obtain ⟨rfl, hbx⟩ := hcut
            have B9 := Lib.hid (B8.out.trans (hbx.mono B8.out.size))
            have s1 : IntKind.i64.wrap ((j : Int) + 1) = (j : Int) + 1 := IntWalk.i64_in _ (by have h200 := LB.out.2; rw [← NE.out] at h200; omega)
            clear hbx q1 q2
            go_wp2
            go_roundg (n7 - (j + 1))
            case measure => rw [G2.out]; omega
            case rel => exact ⟨j + 1, by omega, by go_num, rfl, B9.out⟩
          · obtain rfl : j = n7 := by omega
            have i2 : ¬ (j : Int) < (j : Int) := by omega
            have B9 := Lib.hid (B7.out.trans (B8.out.mono B7.out.size))
            have s1 : IntKind.i64.wrap ((k : Int) + 1) = (k : Int) + 1 := IntWalk.i64_in _ (by omega)
            go_wp2
            go_roundg (n1 - (k + 1))
            case measure => rw [G.out]; omega
            case rel => exact ⟨k + 1, by omega, by go_num, rfl, B9.out⟩
      · obtain rfl : k = n1 := by omega
        have j2 : ¬ (k : Int) < (k : Int) := by omega
        go_wp2
        go_meet
        exact BR.out
  case rest =>
  obtain ⟨w4, rfl⟩ : ∃ z, z = wc := ⟨_, rfl⟩
  have B4 := Lib.hid (B3.out.trans (hcut.mono B3.out.size))
  clear hcut d1 d2
  go_upto_block 4 with fail
  go_cut [24] (fun s24 wx => Below w4.heap.size w4 wx)
  case first => as_aux_lemma =>
    go_wp2_with fail
    go_loopg [24] n2 (fun g iv wr => ∃ k : Nat, k ≤ n2 ∧ iv = .int .i64 k ∧ g = n2 - k ∧ Below w4.heap.size w4 wr)
    case atStart => exact ⟨0, Nat.zero_le _, rfl, rfl, Below.refl _ _⟩
    case round =>
      obtain ⟨k, hk, rfl, hg, hb⟩ := hrel
      obtain ⟨w6, rfl⟩ : ∃ x, x = wr := ⟨_, rfl⟩
      have G := Lib.hid hg
      have BR := Lib.hid hb
      have B6 := Lib.hid (B4.out.trans (hb.mono B4.out.size))
      clear hg hb
      by_cases hlt : k < n2
      · have k1 : k < L2.length := by rw [← N2.out]; exact hlt
        obtain ⟨lb, lo, rfl, hcs⟩ := HC2.out (by omega)
        have eo := (hcs k k1).below B6.out
        have BT := Lib.hid (fun wx => BF2.out k k1 wx)
        have rd := (RD2.out k k1).below B6.out
        have TT := FT2.out k k1
        unfold FitT at TT
        have z0 := cell_below B6.out Y0.out
        have z1 := cell_below B6.out Y1.out
        obtain ⟨e, he⟩ : ∃ e, e = L2[k] := ⟨_, rfl⟩
        rw [← he] at eo BT rd TT
        obtain ⟨R, hR⟩ : ∃ R, R = e.times ah2 Z2 a b := ⟨_, rfl⟩
        rw [← hR] at BT TT
        have TT := Lib.hid TT
        obtain ⟨o, hoo⟩ : ∃ o, o = lo + k * 17 := ⟨_, rfl⟩
        rw [← hoo] at eo
        clear hR
        obtain ⟨nm, tx, st, ln, rp, fr, ev, ct, ti, vm, vd, vw, vp, vM, vN, vC, vA, mo, da, we, pk, M, N, C, A⟩ := e
        obtain ⟨q0, q1, q2, q3, q4, q5, q6, q7, q8, q9, q10, q11, q12, q13, q14, q15, q16⟩ := eo
        simp only [Ev.cells] at q0 q1 q2 q3 q4 q5 q6 q7 q8 q9 q10 q11 q12 q13 q14 q15 q16 BT TT
        obtain ⟨hR0, hnm, htx, hcl⟩ := rd
        simp only at hR0
        obtain ⟨h1, h2, h3, h4, hM, hN, hC, hA⟩ := hR0
        obtain ⟨am, km, rfl, -, -, -⟩ := intsR_open h1
        obtain ⟨ad, kd, rfl, -, -, -⟩ := intsR_open h2
        obtain ⟨aw, kw, rfl, -, -, -⟩ := pairsR_open h3
        obtain ⟨ap, kp, rfl, -, -, -⟩ := intsR_open h4
        obtain ⟨aM, kM, rfl, -, -, -⟩ := intsR_open hM
        obtain ⟨aN, kN, rfl, -, -, -⟩ := intsR_open hN
        obtain ⟨aC, kC, rfl, -, -, -⟩ := pairsR_open hC
        obtain ⟨aA, kA, rfl, -, -, -⟩ := almsR_open hA
        obtain ⟨snm, hsnm⟩ : ∃ s, s = bs nm := ⟨_, rfl⟩
        obtain ⟨stx, hstx⟩ : ∃ s, s = bs tx := ⟨_, rfl⟩
        rw [← hsnm] at q0 BT; rw [← hstx] at q1 BT
        have j0 : (0 : Int) ≤ (k : Int) := Int.natCast_nonneg _
        have j2 : (k : Int) < (n2 : Int) := by omega
        have TR := Lib.hid (show ∀ x ∈ R, ¬ (x.2 < V + n ∧ V < x.2 + ln ∧ x.2 < x.2 + ln) from TT.2)
        have LB := Lib.hid (show 0 ≤ ln ∧ R.length ≤ 200 from TT.1)
        rw [hoo] at q0 q1 q2 q3 q4 q5 q6 q7 q8 q9 q10 q11 q12 q13 q14 q15 q16
        clear he hoo h1 h2 h3 h4 hM hN hC hA hnm htx hcl hsnm hstx TT hcs
        go_upto_region 22 with fail
        go_cut [25, 26] (fun s25 s26 wx => (∃ va, ∃ vc : Nat, s25 = .slice va R.length vc ∧ OwnT ln w6.heap.size wx (.slice va R.length vc) R) ∧ s26 = .nilIface ∧ Below w6.heap.size w6 wx)
        case first => as_aux_lemma =>
          go_region_held3 (fun w' => w'.cell? ⟨eb + 1, 0, none⟩ = some (.int .i64 ah2) ∧ w'.cell? ⟨eb + 1, 1, none⟩ = some (.slice aY Z2.length kY) ∧ w'.cell? ⟨lb, lo + k * 17, none⟩ = some (.string snm) ∧ w'.cell? ⟨lb, lo + k * 17 + 1, none⟩ = some (.string stx) ∧ w'.cell? ⟨lb, lo + k * 17 + 2, none⟩ = some (.int .i64 st) ∧ w'.cell? ⟨lb, lo + k * 17 + 3, none⟩ = some (.int .i64 ln) ∧ w'.cell? ⟨lb, lo + k * 17 + 4, none⟩ = some (.bool rp) ∧ w'.cell? ⟨lb, lo + k * 17 + 5, none⟩ = some (.int .i64 fr) ∧ w'.cell? ⟨lb, lo + k * 17 + 6, none⟩ = some (.int .i64 ev) ∧ w'.cell? ⟨lb, lo + k * 17 + 7, none⟩ = some (.int .i64 ct) ∧ w'.cell? ⟨lb, lo + k * 17 + 8, none⟩ = some (.int .i64 ti) ∧ w'.cell? ⟨lb, lo + k * 17 + 9, none⟩ = some (.slice am mo.length km) ∧ w'.cell? ⟨lb, lo + k * 17 + 10, none⟩ = some (.slice ad da.length kd) ∧ w'.cell? ⟨lb, lo + k * 17 + 11, none⟩ = some (.slice aw we.length kw) ∧ w'.cell? ⟨lb, lo + k * 17 + 12, none⟩ = some (.slice ap pk.length kp) ∧ w'.cell? ⟨lb, lo + k * 17 + 13, none⟩ = some (.slice aM M.length kM) ∧ w'.cell? ⟨lb, lo + k * 17 + 14, none⟩ = some (.slice aN N.length kN) ∧ w'.cell? ⟨lb, lo + k * 17 + 15, none⟩ = some (.slice aC C.length kC) ∧ w'.cell? ⟨lb, lo + k * 17 + 16, none⟩ = some (.slice aA A.length kA))
            (first | (refine ⟨?_, ?_, ?_, ?_, ?_, ?_, ?_, ?_, ?_, ?_, ?_, ?_, ?_, ?_, ?_, ?_, ?_, ?_, ?_⟩ <;> assumption) | (refine ⟨?_, ?_, ?_, ?_, ?_, ?_, ?_, ?_, ?_, ?_, ?_, ?_, ?_, ?_, ?_, ?_, ?_, ?_, ?_⟩ <;> (first | exact cell_below hb (by assumption))))
            ((go_at_call 28; refine (BT.out _ (B6.out.trans (Below.mono (Below.refl _ _).drew B6.out.size))).mono ?_; rintro e w7 ⟨v, rfl, hv, hb⟩; rw [if_pos rfl] at hv; rw [errV_0]; obtain ⟨va, vc, rfl, -, -, -⟩ := owns_cells hv))
          have HV := Lib.hid hv
          have HB := Lib.hid (below_next (Below.refl _ _).drew hb)
          clear hv hb z0 z1 q0 q1 q2 q3 q4 q5 q6 q7 q8 q9 q10 q11 q12 q13 q14 q15 q16
          go_wp2
          go_meet
          exact ⟨⟨_, _, rfl, HV.out⟩, rfl, HB.out⟩
        case rest =>
        clear z0 z1 q0 q1 q2 q3 q4 q5 q6 q7 q8 q9 q10 q11 q12 q13 q14 q15 q16
        obtain ⟨⟨va, vc, rfl, hv⟩, rfl, hb7⟩ := hcut
        obtain ⟨w7, rfl⟩ : ∃ x, x = wc := ⟨_, rfl⟩
        have B7 := Lib.hid (BR.out.trans (hb7.mono BR.out.size))
        obtain ⟨va', vc', e1, -, -, hcs⟩ := owns_cells hv
        cases e1
        have HD := Lib.hid (show 0 < R.length → ∃ g, va = some ⟨g, 0, none⟩ ∧ ∀ (k : Nat) (hk : k < R.length), w7.cell? ⟨g, k * 3, none⟩ = some (.int .i64 R[k].1) ∧ w7.cell? ⟨g, k * 3 + 1, none⟩ = some (.int .i64 R[k].2) ∧ w7.cell? ⟨g, k * 3 + 2, none⟩ = some (.int .i64 (R[k].2 + ln)) from fun hp => by
          obtain ⟨g, e1, -, q⟩ := hcs hp
          refine ⟨g, e1, fun k hk => ⟨q (k * 3) _ ?_, q (k * 3 + 1) _ ?_, q (k * 3 + 2) _ ?_⟩⟩
          · have := flatMap_at (enc := encT ln) (k := 3) (fun _ => rfl) R k 0 hk (by omega); simpa [encT] using this
          · have := flatMap_at (enc := encT ln) (k := 3) (fun _ => rfl) R k 1 hk (by omega); simpa [encT] using this
          · have := flatMap_at (enc := encT ln) (k := 3) (fun _ => rfl) R k 2 hk (by omega); simpa [encT] using this)
        obtain ⟨n7, hn7⟩ : ∃ n, n = R.length := ⟨_, rfl⟩
        have NE := Lib.hid hn7
        rw [← hn7]
        clear hv hcs hn7 hb7 BT
        go_wp2_with fail
        go_loopg [27] n7 (fun g iv wr => ∃ j : Nat, j ≤ n7 ∧ iv = .int .i64 j ∧ g = n7 - j ∧ Below w7.heap.size w7 wr)
        case atStart => exact ⟨0, Nat.zero_le _, rfl, rfl, Below.refl _ _⟩
        case round =>
          obtain ⟨j, hj, rfl, hg2, hb⟩ := hrel
          obtain ⟨w8, rfl⟩ : ∃ x, x = wr := ⟨_, rfl⟩
          have G2 := Lib.hid hg2
          have B8 := Lib.hid hb
          clear hg2 hb
          by_cases hlt2 : j < n7
          · have hj1 : j < R.length := by rw [← NE.out]; exact hlt2
            obtain ⟨g3, rfl, hcs⟩ := HD.out (by omega)
            have q1 := cell_below B8.out (hcs j hj1).2.1
            have q2 := cell_below B8.out (hcs j hj1).2.2
            obtain ⟨x, hx⟩ : ∃ x, x = R[j] := ⟨_, rfl⟩
            rw [← hx] at q1 q2
            have XX := Lib.hid (TR.out x (by rw [hx]; exact List.getElem_mem _))
            obtain ⟨x1, x2⟩ := x
            simp only at q1 q2 XX
            obtain ⟨y, hy⟩ : ∃ y, y = x2 + ln := ⟨_, rfl⟩
            rw [← hy] at q2 XX
            have i0 : (0 : Int) ≤ (j : Int) := Int.natCast_nonneg _
            have i2 : (j : Int) < (n7 : Int) := by omega
            have s0 : IntKind.i64.wrap (V + n) = V + n := IntWalk.i64_in _ (by have := VB.out; omega)
            clear hx hy hcs
            go_upto_region 26 with fail
            go_cut [184] (fun s184 wx => s184 = .bool false ∧ Below w8.heap.size w8 wx)
            case first => as_aux_lemma =>
              by_cases g1 : x2 < V + n
              · have d1 : decide (x2 < V + n) = true := decide_eq_true g1
                by_cases g2 : V < y
                · have d2 : decide (V < y) = true := decide_eq_true g2
                  have d3 : decide (x2 < y) = false := decide_eq_false (fun h => XX.out ⟨g1, g2, h⟩)
                  clear g1 g2
                  go_quiet (fail)
                  go_wp2
                  go_meet
                  exact ⟨by first | rfl | simp, below_drewN (Below.refl _ _) _⟩
                · have d2 : decide (V < y) = false := decide_eq_false g2
                  clear g1 g2
                  go_quiet (fail)
                  go_wp2
                  go_meet
                  exact ⟨by first | rfl | simp, below_drewN (Below.refl _ _) _⟩
              · have d1 : decide (x2 < V + n) = false := decide_eq_false g1
                clear g1
                go_quiet (fail)
                go_wp2
                go_meet
                exact ⟨by first | rfl | simp, below_drewN (Below.refl _ _) _⟩
            case rest =>
            obtain ⟨rfl, hbx⟩ := hcut
            have B9 := Lib.hid (B8.out.trans (hbx.mono B8.out.size))
            have s1 : IntKind.i64.wrap ((j : Int) + 1) = (j : Int) + 1 := IntWalk.i64_in _ (by have h200 := LB.out.2; rw [← NE.out] at h200; omega)
            clear hbx q1 q2
            go_wp2
            go_roundg (n7 - (j + 1))
            case measure => rw [G2.out]; omega
            case rel => exact ⟨j + 1, by omega, by go_num, rfl, B9.out⟩
          · obtain rfl : j = n7 := by omega
            have i2 : ¬ (j : Int) < (j : Int) := by omega
            have B9 := Lib.hid (B7.out.trans (B8.out.mono B7.out.size))
            have s1 : IntKind.i64.wrap ((k : Int) + 1) = (k : Int) + 1 := IntWalk.i64_in _ (by omega)
            go_wp2
            go_roundg (n2 - (k + 1))
            case measure => rw [G.out]; omega
            case rel => exact ⟨k + 1, by omega, by go_num, rfl, B9.out⟩
      · obtain rfl : k = n2 := by omega
        have j2 : ¬ (k : Int) < (k : Int) := by omega
        go_wp2
        go_meet
        exact BR.out
  case rest =>
  obtain ⟨w5, rfl⟩ : ∃ z, z = wc := ⟨_, rfl⟩
  have B5 := Lib.hid (B4.out.trans (hcut.mono B4.out.size))
  clear hcut
  go_wp2
  go_ret
  exact ⟨rfl, BW.out.trans (B5.out.mono BW.out.size)⟩

end Go.Proofs.YtkpmddlinlcobaaGreatDoor
