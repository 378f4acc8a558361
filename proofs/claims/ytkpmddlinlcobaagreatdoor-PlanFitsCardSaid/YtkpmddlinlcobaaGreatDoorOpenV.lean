/- A slice of events as an argument, opened: how it lies, and the bounds that the reach gives. No condition. (printed by gen_openv.py) -/
import Derived.Test.YtkpmddlinlcobaaGreatDoorQ10
import Derived.Test.YtkpmddlinlcobaaGreatDoorPlanA
namespace Go.Proofs.YtkpmddlinlcobaaGreatDoor
open Go.Joins Go.ChangeShapes Go.WideShapes Go.RowKit Go.Deep
set_option linter.unusedVariables false

section
variable {H : Type} {enc : TypeId × Value → H} {P : Program} {w : World} {base : Nat} {spare : Nat → Bool} {held : Bool}

theorem open_cells10 {t : TypeId} {f0 f1 f2 f3 f4 f5 f6 f7 f8 f9 : Field} {fuel : Nat} {c0 c1 c2 c3 c4 c5 c6 c7 c8 c9 c10 c11 c12 c13 c14 c15 c16 : Value} {x : DataW H × List MemPlace} (hs : P.underlying t = some (.struct #[f0, f1, f2, f3, f4, f5, f6, f7, f8, f9])) (o0 : f0.offset = 0) (o1 : f1.offset = 1) (o2 : f2.offset = 2) (o3 : f3.offset = 3) (o4 : f4.offset = 4) (o5 : f5.offset = 5) (o6 : f6.offset = 13) (o7 : f7.offset = 14) (o8 : f8.offset = 15) (o9 : f9.offset = 16) (k0 : P.cellsOf f0.type = 1) (k1 : P.cellsOf f1.type = 1) (k2 : P.cellsOf f2.type = 1) (k3 : P.cellsOf f3.type = 1) (k4 : P.cellsOf f4.type = 1) (k5 : P.cellsOf f5.type = 8) (k6 : P.cellsOf f6.type = 1) (k7 : P.cellsOf f7.type = 1) (k8 : P.cellsOf f8.type = 1) (k9 : P.cellsOf f9.type = 1)
    (h : DataW.trod enc P w base spare held fuel t [c0, c1, c2, c3, c4, c5, c6, c7, c8, c9, c10, c11, c12, c13, c14, c15, c16] = some x) :
    ∃ (y0 y1 y2 y3 y4 y5 y6 y7 y8 y9 : DataW H × List MemPlace) (n : Nat), x.1 = .agg [y0.1, y1.1, y2.1, y3.1, y4.1, y5.1, y6.1, y7.1, y8.1, y9.1] ∧ DataW.trod enc P w base spare held n f0.type [c0] = some y0 ∧ DataW.trod enc P w base spare held n f1.type [c1] = some y1 ∧ DataW.trod enc P w base spare held n f2.type [c2] = some y2 ∧ DataW.trod enc P w base spare held n f3.type [c3] = some y3 ∧ DataW.trod enc P w base spare held n f4.type [c4] = some y4 ∧ DataW.trod enc P w base spare held n f5.type [c5, c6, c7, c8, c9, c10, c11, c12] = some y5 ∧ DataW.trod enc P w base spare held n f6.type [c13] = some y6 ∧ DataW.trod enc P w base spare held n f7.type [c14] = some y7 ∧ DataW.trod enc P w base spare held n f8.type [c15] = some y8 ∧ DataW.trod enc P w base spare held n f9.type [c16] = some y9 := by
  obtain ⟨xs, n, _, hx, _, hlen, hg⟩ := DataW.trod_struct hs h
  match xs, hlen with
  | [y0, y1, y2, y3, y4, y5, y6, y7, y8, y9], _ =>
    exact ⟨y0, y1, y2, y3, y4, y5, y6, y7, y8, y9, n, by rw [hx]; simp, by simpa [o0, k0] using hg 0 f0 rfl, by simpa [o1, k1] using hg 1 f1 rfl, by simpa [o2, k2] using hg 2 f2 rfl, by simpa [o3, k3] using hg 3 f3 rfl, by simpa [o4, k4] using hg 4 f4 rfl, by simpa [o5, k5] using hg 5 f5 rfl, by simpa [o6, k6] using hg 6 f6 rfl, by simpa [o7, k7] using hg 7 f7 rfl, by simpa [o8, k8] using hg 8 f8 rfl, by simpa [o9, k9] using hg 9 f9 rfl⟩

theorem weights_all {e : TypeId} {ds : List (DataW H)} {d : DataW H} (hd : d ∈ ds) : ∀ n ∈ d.weights P e, n ∈ DataW.weightsAll P e ds := by
  induction ds with
  | nil => cases hd
  | cons a r ih =>
    intro n hn
    rw [DataW.weightsAll]
    rcases List.mem_cons.1 hd with rfl | h
    · exact List.mem_append_left _ hn
    · exact List.mem_append_right _ (ih h n hn)

theorem each_head {t : TypeId} {ts : List TypeId} {d : DataW H} {ds : List (DataW H)} (h : (DataW.weightsEach P (t :: ts) (d :: ds)).all (· ≤ reachBytes) = true) : (d.weights P t).all (· ≤ reachBytes) = true := by
  rw [List.all_eq_true] at h ⊢
  intro n hn
  exact h n (by rw [DataW.weightsEach]; exact List.mem_append_left _ hn)

theorem evs_mk {a : Addr} {len cap : Nat} (L : List Ev) (hlen : L.length = len) (h1 : len ≤ cap) (h2 : cap ≤ maxLen)
    (hc : ∀ i (hi : i < L.length), ∀ j u, (L[i].cells)[j]? = some u → w.cell? ((a.add (i * 17)).add j) = some u) : Reads w (.slice (some a) len cap) 17 L.length (L.flatMap Ev.cells) := by
  subst hlen
  have hl17 : ∀ e : Ev, e.cells.length = 17 := fun _ => rfl
  have hll : (L.flatMap Ev.cells).length = L.length * 17 := by
    clear hc h1
    induction L with
    | nil => rfl
    | cons e L ih => rw [List.flatMap_cons, List.length_append, ih, hl17, List.length_cons]; omega
  refine ⟨some a, cap, rfl, hll, h1, h2, fun hn => ?_⟩
  have h0 := hc 0 hn 0 _ rfl
  rw [Go.Addr.add_add] at h0
  have ha := cell_spot (a := a) h0
  refine ⟨a.block, a.off, by rw [← ha], fun j u hj => ?_⟩
  have hjl : j < L.length * 17 := by rw [← hll]; exact (List.getElem?_eq_some_iff.1 hj).1
  have hi : j / 17 < L.length := by omega
  have hp := flatMap_at (enc := Ev.cells) (k := 17) hl17 L (j / 17) (j % 17) hi (by omega)
  rw [show j / 17 * 17 + j % 17 = j by omega, hj] at hp
  have hcc := hc (j / 17) hi (j % 17) u hp.symm
  rw [Go.Addr.add_add, ha, add_spot, show j / 17 * 17 + j % 17 = j by omega] at hcc
  exact hcc
end

set_option maxRecDepth 100000 in
theorem open_event_cells {H : Type} {enc : TypeId × Value → H} {w : World} {base : Nat} {spare : Nat → Bool} {held : Bool} {fuel : Nat} {c0 c1 c2 c3 c4 c5 c6 c7 c8 c9 c10 c11 c12 c13 c14 c15 c16 : Value} {x : DataW H × List MemPlace}
    (h : DataW.trod enc Tryz.prog w base spare held fuel 29 [c0, c1, c2, c3, c4, c5, c6, c7, c8, c9, c10, c11, c12, c13, c14, c15, c16] = some x) :
    ∃ e : Ev, [c0, c1, c2, c3, c4, c5, c6, c7, c8, c9, c10, c11, c12, c13, c14, c15, c16] = e.cells ∧ EvR w e.vm e.vd e.vw e.vp e.vM e.vN e.vC e.vA e.mo e.da e.we e.pk e.M e.N e.C e.A ∧
      ((x.1.weights Tryz.prog 29).all (· ≤ reachBytes) = true → e.nm.length ≤ 140737488351232 ∧ e.tx.length ≤ 140737488351232 ∧ e.C.length ≤ 8796093022208) := by
  obtain ⟨y0, y1, y2, y3, y4, y5, y6, y7, y8, y9, n, hd, g0, g1, g2, g3, g4, g5, g6, g7, g8, g9⟩ := open_cells10 Tryz.underlying29 rfl rfl rfl rfl rfl rfl rfl rfl rfl rfl (by kernel_rfl) (by kernel_rfl) (by kernel_rfl) (by kernel_rfl) (by kernel_rfl) (by kernel_rfl) (by kernel_rfl) (by kernel_rfl) (by kernel_rfl) (by kernel_rfl) h
  obtain ⟨z0, z1, z2, z3, z4, z5, z6, z7, m, r0, r1, r2, r3, r4, r5, r6, r7⟩ := open_cells8 Tryz.underlying25 (by kernel_rfl) g5
  obtain ⟨s0, e0, x0, _⟩ := DataW.trod_string Tryz.underlying9 g0
  obtain ⟨s1, e1, x1, _⟩ := DataW.trod_string Tryz.underlying9 g1
  obtain ⟨st, e2, _, w2⟩ := DataW.trod_int Tryz.underlying3 g2
  obtain ⟨ln, e3, _, w3⟩ := DataW.trod_int Tryz.underlying3 g3
  obtain ⟨rp, e4, _⟩ := DataW.trod_bool Tryz.underlying4 g4
  obtain ⟨fr, e5, _, w5⟩ := DataW.trod_int Tryz.underlying3 r0
  obtain ⟨ev, e6, _, w6⟩ := DataW.trod_int Tryz.underlying3 r1
  obtain ⟨ct, e7, _, w7⟩ := DataW.trod_int Tryz.underlying3 r2
  obtain ⟨ti, e8, _, w8⟩ := DataW.trod_int Tryz.underlying3 r3
  simp only [List.cons.injEq, and_true] at e0 e1 e2 e3 e4 e5 e6 e7 e8
  subst e0; subst e1; subst e2; subst e3; subst e4; subst e5; subst e6; subst e7; subst e8
  obtain ⟨mo, hmo⟩ := open_intsR Tryz.underlying22 (by kernel_rfl) Tryz.underlying3 r4
  obtain ⟨da, hda⟩ := open_intsR Tryz.underlying22 (by kernel_rfl) Tryz.underlying3 r5
  obtain ⟨we, hwe⟩ := open_pairsR Tryz.underlying23 Tryz.underlying162 (by kernel_rfl) rfl rfl (by kernel_rfl) (by kernel_rfl) Tryz.underlying3 Tryz.underlying3 r6
  obtain ⟨pk, hpk⟩ := open_intsR Tryz.underlying22 (by kernel_rfl) Tryz.underlying3 r7
  obtain ⟨M, hM⟩ := open_intsR Tryz.underlying22 (by kernel_rfl) Tryz.underlying3 g6
  obtain ⟨N, hN⟩ := open_intsR Tryz.underlying22 (by kernel_rfl) Tryz.underlying3 g7
  obtain ⟨C, hC⟩ := open_pairsR Tryz.underlying26 Tryz.underlying62 (by kernel_rfl) rfl rfl (by kernel_rfl) (by kernel_rfl) Tryz.underlying3 Tryz.underlying3 g8
  obtain ⟨A, hA⟩ := open_almsR Tryz.underlying27 Tryz.underlying31 (by kernel_rfl) (by kernel_rfl) Tryz.underlying3 Tryz.underlying4 Tryz.underlying3 Tryz.underlying3 g9
  refine ⟨⟨s0.data.toList, s1.data.toList, st, ln, rp, fr, ev, ct, ti, c9, c10, c11, c12, c13, c14, c15, c16, mo, da, we, pk, M, N, C, A⟩, by simp only [Ev.cells]; rw [bs_data, bs_data], ⟨hmo, hda, hwe, hpk, hM, hN, hC, hA⟩, fun hw => ?_⟩
  rw [hd] at hw
  simp only [DataW.weights, Tryz.underlying29] at hw
  have hi := hw
  have l0 := sized_string (j := 0) hi rfl (congrArg some (show y0.1 = DataW.lit (.string s0.data.toList) by rw [x0]))
  have l1 := sized_string (j := 1) hi rfl (congrArg some (show y1.1 = DataW.lit (.string s1.data.toList) by rw [x1]))
  refine ⟨l0, l1, ?_⟩
  obtain ⟨ac, kc, rfl, -, -, -⟩ := pairsR_open hC
  rcases slice_elems Tryz.underlying26 g8 with h0 | ⟨el, sp, he, hl⟩
  · simp only; omega
  · have l8 := sized_slice (j := 8) hi rfl (congrArg some he) Tryz.underlying26
    rw [show Tryz.prog.bytesOf 62 = 16 by kernel_rfl] at l8
    unfold reachBytes at l8
    simp only
    omega

/-- A slice of events. -/
theorem open_evsR {H : Type} {enc : TypeId × Value → H} {w : World} {base : Nat} {spare : Nat → Bool} {held : Bool} {fuel : Nat} {v : Value} {x : DataW H × List MemPlace}
    (h : DataW.trod enc Tryz.prog w base spare held fuel 83 [v] = some x) :
    ∃ L : List Ev, ((x.1.weights Tryz.prog 83).all (· ≤ reachBytes) = true → EvsR w v L) := by
  rcases open_slice Tryz.underlying83 h with ⟨h1, _⟩ | ⟨a, len, cap, m, n, D, Pl, h1, hb, hl, hm, hmm, hx, hi⟩
  · obtain rfl : v = .slice none 0 0 := by simpa using h1
    exact ⟨[], fun _ => ⟨reads_nil w 17, by simp⟩⟩
  · obtain rfl : v = .slice (some a) len cap := by simpa using h1
    have hlm : len ≤ m := by rw [hmm]; split <;> omega
    have hq : ∀ i, ∃ e : Ev, i < len → (∀ j u, (e.cells)[j]? = some u → w.cell? ((a.add (i * 17)).add j) = some u) ∧ EvR w e.vm e.vd e.vw e.vp e.vM e.vN e.vC e.vA e.mo e.da e.we e.pk e.M e.N e.C e.A ∧
        (((D i).weights Tryz.prog 29).all (· ≤ reachBytes) = true → e.nm.length ≤ 140737488351232 ∧ e.tx.length ≤ 140737488351232 ∧ e.C.length ≤ 8796093022208) := by
      intro i
      by_cases hil : i < len
      · obtain ⟨cs', h3, h4⟩ := hi i (by omega)
        rw [show Tryz.prog.cellsOf 29 = 17 by kernel_rfl] at h3
        obtain ⟨_, h5, h6⟩ := World.cells?_some h3
        match cs', h5 with
        | [c0, c1, c2, c3, c4, c5, c6, c7, c8, c9, c10, c11, c12, c13, c14, c15, c16], _ =>
          obtain ⟨e, he, hr, hb⟩ := open_event_cells h4
          refine ⟨e, fun _ => ⟨fun j u hj => ?_, hr, hb⟩⟩
          rw [← he] at hj
          have hj17 : j < 17 := (List.getElem?_eq_some_iff.1 hj).1
          have := h6 j (by omega)
          rw [this]
          exact hj
      · exact ⟨⟨[], [], 0, 0, false, 0, 0, 0, 0, .nilIface, .nilIface, .nilIface, .nilIface, .nilIface, .nilIface, .nilIface, .nilIface, [], [], [], [], [], [], [], []⟩, fun h => absurd h hil⟩
    obtain ⟨g, hg⟩ := Classical.axiomOfChoice hq
    refine ⟨(List.range len).map g, fun hw => ⟨evs_mk _ (by simp) hl hm fun i hi' => ?_, fun e he => ?_⟩⟩
    · have hil : i < len := by simpa using hi'
      simpa using (hg i hil).1
    · obtain ⟨i, hil, rfl⟩ := List.mem_map.1 he
      have hil : i < len := by simpa using hil
      obtain ⟨-, hr, hb⟩ := hg i hil
      have hwi : ((D i).weights Tryz.prog 29).all (· ≤ reachBytes) = true := by
        rw [List.all_eq_true] at hw ⊢
        intro n hn
        refine hw n ?_
        rw [hx]
        simp only [DataW.weights, Tryz.underlying83]
        exact List.mem_cons_of_mem _ (List.mem_append_left _ (weights_all (List.mem_map_of_mem (List.mem_range.2 hil)) n hn))
      obtain ⟨b1, b2, b3⟩ := hb hwi
      exact ⟨hr, b1, b2, b3⟩

end Go.Proofs.YtkpmddlinlcobaaGreatDoor
