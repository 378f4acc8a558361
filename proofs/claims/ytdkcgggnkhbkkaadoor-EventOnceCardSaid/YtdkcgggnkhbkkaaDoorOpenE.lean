/- An event as an argument, opened: its cells, its lists, and the bounds that the reach gives. No condition. (printed by gen_opene.py) -/
import Derived.Test.YtdkcgggnkhbkkaaDoorOpen
import Derived.Test.YtdkcgggnkhbkkaaDoorEvM
import Derived.Lib.SmallJoins
import Derived.SizedLaws
import Derived.OpenShut
namespace Go.Proofs.YtdkcgggnkhbkkaaDoor
open Go.Joins Go.ChangeShapes Go.WideShapes Go.RowKit Go.Deep
set_option linter.unusedVariables false

theorem almV_len (L : List Alm) : (almV L).length = L.length * 4 := by
  induction L with
  | nil => rfl
  | cons a r ih =>
    have e : almV (a :: r) = [.int .i64 a.1, .bool a.2.1, .int .i64 a.2.2.1, .int .i64 a.2.2.2] ++ almV r := rfl
    rw [e, List.length_append, ih]; simp; omega

theorem almsR_mk {w : World} {a : Addr} {len cap : Nat} (L : List Alm) (hlen : L.length = len) (h1 : len ≤ cap) (h2 : cap ≤ maxLen)
    (hc : ∀ i (hi : i < L.length), w.cell? (a.add (i * 4)) = some (.int .i64 L[i].1) ∧ w.cell? (a.add (i * 4 + 1)) = some (.bool L[i].2.1) ∧ w.cell? (a.add (i * 4 + 2)) = some (.int .i64 L[i].2.2.1) ∧ w.cell? (a.add (i * 4 + 3)) = some (.int .i64 L[i].2.2.2)) : AlmsR w (.slice (some a) len cap) L := by
  subst hlen
  refine ⟨some a, cap, rfl, almV_len L, h1, h2, fun hn => ?_⟩
  have ha := cell_spot (a := a) (hc 0 hn).1
  refine ⟨a.block, a.off, by rw [← ha], fun j u hj => ?_⟩
  have hjl : j < L.length * 4 := by rw [← almV_len]; exact (List.getElem?_eq_some_iff.1 hj).1
  have hi : j / 4 < L.length := by omega
  obtain ⟨p0, p1, p2, p3⟩ := almV_at L (j / 4) hi
  obtain ⟨c0, c1, c2, c3⟩ := hc (j / 4) hi
  rw [ha, add_spot] at c0 c1 c2 c3
  have h4 : j % 4 = 0 ∨ j % 4 = 1 ∨ j % 4 = 2 ∨ j % 4 = 3 := by omega
  rcases h4 with e | e | e | e
  · have e' : j / 4 * 4 = j := by omega
    rw [e'] at p0 c0
    rw [p0] at hj; rw [← hj]; exact c0
  · have e' : j / 4 * 4 + 1 = j := by omega
    rw [e'] at p1 c1
    rw [p1] at hj; rw [← hj]; exact c1
  · have e' : j / 4 * 4 + 2 = j := by omega
    rw [e'] at p2 c2
    rw [p2] at hj; rw [← hj]; exact c2
  · have e' : j / 4 * 4 + 3 = j := by omega
    rw [e'] at p3 c3
    rw [p3] at hj; rw [← hj]; exact c3

theorem each_inner {H : Type} {P : Program} {ts : List TypeId} {ds : List (DataW H)} {j : Nat} {t : TypeId} {fs : Array Field} {parts : List (DataW H)} (h : (DataW.weightsEach P ts ds).all (· ≤ reachBytes) = true) (ht : ts[j]? = some t) (hd : ds[j]? = some (.agg parts)) (hu : P.underlying t = some (.struct fs)) :
    (DataW.weightsEach P (fs.toList.map (·.type)) parts).all (· ≤ reachBytes) = true := by
  rw [List.all_eq_true]
  intro n hn
  exact List.all_eq_true.1 h n (DataW.weights_mem_each ht hd n (by simp only [DataW.weights, hu]; exact hn))

section
variable {H : Type} {enc : TypeId × Value → H} {P : Program} {w : World} {base : Nat} {spare : Nat → Bool} {held : Bool}

theorem open_almsR {t e : TypeId} {f0 f1 f2 f3 : Field} {fuel : Nat} {v : Value} {x : DataW H × List MemPlace} (ht : P.underlying t = some (.slice e)) (he : P.underlying e = some (.struct #[f0, f1, f2, f3])) (ce : P.cellsOf e = 4) (hone : oneCellFields P #[f0, f1, f2, f3] = true)
    (i0 : P.underlying f0.type = some (.int .i64)) (i1 : P.underlying f1.type = some .bool) (i2 : P.underlying f2.type = some (.int .i64)) (i3 : P.underlying f3.type = some (.int .i64))
    (h : DataW.trod enc P w base spare held fuel t [v] = some x) : ∃ L : List Alm, AlmsR w v L := by
  rcases open_slice ht h with ⟨h1, _⟩ | ⟨a, len, cap, m, n, D, Pl, h1, hb, hl, hm, hmm, hx, hi⟩
  · obtain rfl : v = .slice none 0 0 := by simpa using h1
    exact ⟨[], reads_nil w 4⟩
  · obtain rfl : v = .slice (some a) len cap := by simpa using h1
    have hlm : len ≤ m := by rw [hmm]; split <;> omega
    have hq : ∀ i, ∃ q : Alm, i < len → (w.cell? (a.add (i * 4)) = some (.int .i64 q.1) ∧ w.cell? (a.add (i * 4 + 1)) = some (.bool q.2.1) ∧ w.cell? (a.add (i * 4 + 2)) = some (.int .i64 q.2.2.1) ∧ w.cell? (a.add (i * 4 + 3)) = some (.int .i64 q.2.2.2)) := by
      intro i
      by_cases hil : i < len
      · obtain ⟨cs', h3, h4⟩ := hi i (by omega)
        rw [ce] at h3
        obtain ⟨_, h5, h6⟩ := World.cells?_some h3
        match cs', h5 with
        | [c0, c1, c2, c3], _ =>
          obtain ⟨xs, n', _, _, _, hlen, hg⟩ := DataW.trod_struct he h4
          obtain ⟨o0, k0⟩ := hone_of hone 0 f0 rfl
          obtain ⟨o1, k1⟩ := hone_of hone 1 f1 rfl
          obtain ⟨o2, k2⟩ := hone_of hone 2 f2 rfl
          obtain ⟨o3, k3⟩ := hone_of hone 3 f3 rfl
          match xs, hlen with
          | [y0, y1, y2, y3], _ =>
            obtain ⟨q0, e0, _, _⟩ := DataW.trod_int i0 (show DataW.trod enc P w base spare held n' f0.type [c0] = some y0 by simpa [o0, k0] using hg 0 f0 rfl)
            obtain ⟨q1, e1, _⟩ := DataW.trod_bool i1 (show DataW.trod enc P w base spare held n' f1.type [c1] = some y1 by simpa [o1, k1] using hg 1 f1 rfl)
            obtain ⟨q2, e2, _, _⟩ := DataW.trod_int i2 (show DataW.trod enc P w base spare held n' f2.type [c2] = some y2 by simpa [o2, k2] using hg 2 f2 rfl)
            obtain ⟨q3, e3, _, _⟩ := DataW.trod_int i3 (show DataW.trod enc P w base spare held n' f3.type [c3] = some y3 by simpa [o3, k3] using hg 3 f3 rfl)
            simp only [List.cons.injEq, and_true] at e0 e1 e2 e3
            subst e0; subst e1; subst e2; subst e3
            have t0 := h6 0 (by omega); have t1 := h6 1 (by omega); have t2 := h6 2 (by omega); have t3 := h6 3 (by omega)
            rw [Go.Addr.add_add] at t0 t1 t2 t3
            exact ⟨(q0, q1, q2, q3), fun _ => ⟨t0, t1, t2, t3⟩⟩
      · exact ⟨(0, false, 0, 0), fun h => absurd h hil⟩
    obtain ⟨g, hg⟩ := Classical.axiomOfChoice hq
    refine ⟨(List.range len).map g, almsR_mk _ (by simp) hl hm fun i hi' => ?_⟩
    have hil : i < len := by simpa using hi'
    simpa using hg i hil

theorem slice_elems {t e : TypeId} {fuel : Nat} {a : Option Addr} {l cap : Nat} {x : DataW H × List MemPlace} (ht : P.underlying t = some (.slice e)) (h : DataW.trod enc P w base spare held fuel t [.slice a l cap] = some x) : l = 0 ∨ ∃ el sp, x.1 = .slice el sp ∧ el.length = l := by
  rcases open_slice ht h with ⟨h1, _⟩ | ⟨a, len, cap, m, n, D, Pl, h1, hb, hl, hm, hmm, hx, hi⟩
  · simp only [List.cons.injEq, Value.slice.injEq, and_true] at h1
    exact .inl h1.2.1
  · simp only [List.cons.injEq, Value.slice.injEq, and_true] at h1
    right
    exact ⟨_, _, by rw [hx], by simp; exact h1.2.1.symm⟩

theorem open_cells8 {t : TypeId} {f0 f1 f2 f3 f4 f5 f6 f7 : Field} {fuel : Nat} {c0 c1 c2 c3 c4 c5 c6 c7 : Value} {x : DataW H × List MemPlace} (hs : P.underlying t = some (.struct #[f0, f1, f2, f3, f4, f5, f6, f7])) (hone : oneCellFields P #[f0, f1, f2, f3, f4, f5, f6, f7] = true) (h : DataW.trod enc P w base spare held fuel t [c0, c1, c2, c3, c4, c5, c6, c7] = some x) :
    ∃ (y0 y1 y2 y3 y4 y5 y6 y7 : DataW H × List MemPlace) (n : Nat), DataW.trod enc P w base spare held n f0.type [c0] = some y0 ∧ DataW.trod enc P w base spare held n f1.type [c1] = some y1 ∧ DataW.trod enc P w base spare held n f2.type [c2] = some y2 ∧ DataW.trod enc P w base spare held n f3.type [c3] = some y3 ∧ DataW.trod enc P w base spare held n f4.type [c4] = some y4 ∧ DataW.trod enc P w base spare held n f5.type [c5] = some y5 ∧ DataW.trod enc P w base spare held n f6.type [c6] = some y6 ∧ DataW.trod enc P w base spare held n f7.type [c7] = some y7 := by
  obtain ⟨xs, n, _, _, _, hlen, hg⟩ := DataW.trod_struct hs h
  obtain ⟨o0, k0⟩ := hone_of hone 0 f0 rfl
  obtain ⟨o1, k1⟩ := hone_of hone 1 f1 rfl
  obtain ⟨o2, k2⟩ := hone_of hone 2 f2 rfl
  obtain ⟨o3, k3⟩ := hone_of hone 3 f3 rfl
  obtain ⟨o4, k4⟩ := hone_of hone 4 f4 rfl
  obtain ⟨o5, k5⟩ := hone_of hone 5 f5 rfl
  obtain ⟨o6, k6⟩ := hone_of hone 6 f6 rfl
  obtain ⟨o7, k7⟩ := hone_of hone 7 f7 rfl
  match xs, hlen with
  | [y0, y1, y2, y3, y4, y5, y6, y7], _ => exact ⟨y0, y1, y2, y3, y4, y5, y6, y7, n, by simpa [o0, k0] using hg 0 f0 rfl, by simpa [o1, k1] using hg 1 f1 rfl, by simpa [o2, k2] using hg 2 f2 rfl, by simpa [o3, k3] using hg 3 f3 rfl, by simpa [o4, k4] using hg 4 f4 rfl, by simpa [o5, k5] using hg 5 f5 rfl, by simpa [o6, k6] using hg 6 f6 rfl, by simpa [o7, k7] using hg 7 f7 rfl⟩

theorem open_flat10 {r : Reach} {b0 : Nat} {t : TypeId} {f0 f1 f2 f3 f4 f5 f6 f7 f8 f9 : Field} {v : Value} {d : DataW H} {p : List MemPlace} (hs : P.underlying t = some (.struct #[f0, f1, f2, f3, f4, f5, f6, f7, f8, f9])) (hC : P.cellsOf t = 17) (o0 : f0.offset = 0) (o1 : f1.offset = 1) (o2 : f2.offset = 2) (o3 : f3.offset = 3) (o4 : f4.offset = 4) (o5 : f5.offset = 5) (o6 : f6.offset = 13) (o7 : f7.offset = 14) (o8 : f8.offset = 15) (o9 : f9.offset = 16) (k0 : P.cellsOf f0.type = 1) (k1 : P.cellsOf f1.type = 1) (k2 : P.cellsOf f2.type = 1) (k3 : P.cellsOf f3.type = 1) (k4 : P.cellsOf f4.type = 1) (k5 : P.cellsOf f5.type = 8) (k6 : P.cellsOf f6.type = 1) (k7 : P.cellsOf f7.type = 1) (k8 : P.cellsOf f8.type = 1) (k9 : P.cellsOf f9.type = 1)
    (hv : Value.okWide P w r b0 t v) (h : DataW.Trod enc P w base spare held t v d p) :
    ∃ (c0 c1 c2 c3 c4 c5 c6 c7 c8 c9 c10 c11 c12 c13 c14 c15 c16 : Value) (y0 y1 y2 y3 y4 y5 y6 y7 y8 y9 : DataW H × List MemPlace) (n : Nat), v = .agg #[c0, c1, c2, c3, c4, c5, c6, c7, c8, c9, c10, c11, c12, c13, c14, c15, c16] ∧ d = .agg [y0.1, y1.1, y2.1, y3.1, y4.1, y5.1, y6.1, y7.1, y8.1, y9.1] ∧ DataW.trod enc P w base spare held n f0.type [c0] = some y0 ∧ DataW.trod enc P w base spare held n f1.type [c1] = some y1 ∧ DataW.trod enc P w base spare held n f2.type [c2] = some y2 ∧ DataW.trod enc P w base spare held n f3.type [c3] = some y3 ∧ DataW.trod enc P w base spare held n f4.type [c4] = some y4 ∧ DataW.trod enc P w base spare held n f5.type [c5, c6, c7, c8, c9, c10, c11, c12] = some y5 ∧ DataW.trod enc P w base spare held n f6.type [c13] = some y6 ∧ DataW.trod enc P w base spare held n f7.type [c14] = some y7 ∧ DataW.trod enc P w base spare held n f8.type [c15] = some y8 ∧ DataW.trod enc P w base spare held n f9.type [c16] = some y9 := by
  obtain ⟨cs, rfl, hsz⟩ := okWide_struct hs hv
  obtain ⟨l⟩ := cs
  match l, hsz.trans hC with
  | [c0, c1, c2, c3, c4, c5, c6, c7, c8, c9, c10, c11, c12, c13, c14, c15, c16], _ =>
    obtain ⟨fuel, hf⟩ := h
    obtain ⟨xs, n, _, hx, _, hlen, hg⟩ := DataW.trod_struct hs hf
    match xs, hlen with
    | [y0, y1, y2, y3, y4, y5, y6, y7, y8, y9], _ =>
      simp only [Prod.mk.injEq] at hx
      exact ⟨c0, c1, c2, c3, c4, c5, c6, c7, c8, c9, c10, c11, c12, c13, c14, c15, c16, y0, y1, y2, y3, y4, y5, y6, y7, y8, y9, n, rfl, by simpa using hx.1, by simpa [Value.cells, o0, k0] using hg 0 f0 rfl, by simpa [Value.cells, o1, k1] using hg 1 f1 rfl, by simpa [Value.cells, o2, k2] using hg 2 f2 rfl, by simpa [Value.cells, o3, k3] using hg 3 f3 rfl, by simpa [Value.cells, o4, k4] using hg 4 f4 rfl, by simpa [Value.cells, o5, k5] using hg 5 f5 rfl, by simpa [Value.cells, o6, k6] using hg 6 f6 rfl, by simpa [Value.cells, o7, k7] using hg 7 f7 rfl, by simpa [Value.cells, o8, k8] using hg 8 f8 rfl, by simpa [Value.cells, o9, k9] using hg 9 f9 rfl⟩
end

theorem ints_one {w : World} {v : Value} {L : List Int} (h : IntsR w v L) : v.oneCell' = true := by
  obtain ⟨_, _, rfl, _⟩ := intsR_open h; rfl

theorem pairs_one {w : World} {v : Value} {L : List (Int × Int)} (h : PairsR w v L) : v.oneCell' = true := by
  obtain ⟨_, _, rfl, _⟩ := pairsR_open h; rfl

set_option maxRecDepth 100000 in
theorem open_event {H : Type} {enc : TypeId × Value → H} {w : World} {base : Nat} {spare : Nat → Bool} {held : Bool} {r : Reach} {b0 : Nat} {v : Value} {d : DataW H} {p : List MemPlace}
    (hv : Value.okWide Tryd.prog w r b0 78 v) (h : DataW.Trod enc Tryd.prog w base spare held 78 v d p) :
    ∃ (nm tx : List UInt8) (st ln : Int) (rp : Bool) (fr ev ct ti : Int) (vm vd vw vp vM vN vC vA : Value) (mo da : List Int) (we : List (Int × Int)) (pk M N : List Int) (C : List (Int × Int)) (A : List Alm),
      v = .agg #[.string (bs nm), .string (bs tx), .int .i64 st, .int .i64 ln, .bool rp, .int .i64 fr, .int .i64 ev, .int .i64 ct, .int .i64 ti, vm, vd, vw, vp, vM, vN, vC, vA] ∧
      IntsR w vm mo ∧ IntsR w vd da ∧ PairsR w vw we ∧ IntsR w vp pk ∧ IntsR w vM M ∧ IntsR w vN N ∧ PairsR w vC C ∧ AlmsR w vA A ∧
      ((Lit.int .i64 st).wf = true ∧ (Lit.int .i64 ln).wf = true ∧ (Lit.int .i64 fr).wf = true ∧ (Lit.int .i64 ev).wf = true ∧ (Lit.int .i64 ct).wf = true ∧ (Lit.int .i64 ti).wf = true) ∧
      (∀ (ts : List TypeId) (ds : List (DataW H)), (DataW.weightsEach Tryd.prog (78 :: ts) (d :: ds)).all (· ≤ reachBytes) = true → nm.length ≤ 140737488351232 ∧ tx.length ≤ 140737488351232 ∧ C.length ≤ 8796093022208) := by
  obtain ⟨c0, c1, c2, c3, c4, c5, c6, c7, c8, c9, c10, c11, c12, c13, c14, c15, c16, y0, y1, y2, y3, y4, y5, y6, y7, y8, y9, n, rfl, hd, g0, g1, g2, g3, g4, g5, g6, g7, g8, g9⟩ := open_flat10 Tryd.underlying78 (by kernel_rfl) rfl rfl rfl rfl rfl rfl rfl rfl rfl rfl (by kernel_rfl) (by kernel_rfl) (by kernel_rfl) (by kernel_rfl) (by kernel_rfl) (by kernel_rfl) (by kernel_rfl) (by kernel_rfl) (by kernel_rfl) (by kernel_rfl) hv h
  obtain ⟨z0, z1, z2, z3, z4, z5, z6, z7, m, r0, r1, r2, r3, r4, r5, r6, r7⟩ := open_cells8 Tryd.underlying74 (by kernel_rfl) g5
  obtain ⟨s0, e0, x0, _⟩ := DataW.trod_string Tryd.underlying9 g0
  obtain ⟨s1, e1, x1, _⟩ := DataW.trod_string Tryd.underlying9 g1
  obtain ⟨st, e2, _, w2⟩ := DataW.trod_int Tryd.underlying3 g2
  obtain ⟨ln, e3, _, w3⟩ := DataW.trod_int Tryd.underlying3 g3
  obtain ⟨rp, e4, _⟩ := DataW.trod_bool Tryd.underlying4 g4
  obtain ⟨fr, e5, _, w5⟩ := DataW.trod_int Tryd.underlying3 r0
  obtain ⟨ev, e6, _, w6⟩ := DataW.trod_int Tryd.underlying3 r1
  obtain ⟨ct, e7, _, w7⟩ := DataW.trod_int Tryd.underlying3 r2
  obtain ⟨ti, e8, _, w8⟩ := DataW.trod_int Tryd.underlying3 r3
  simp only [List.cons.injEq, and_true] at e0 e1 e2 e3 e4 e5 e6 e7 e8
  subst e0; subst e1; subst e2; subst e3; subst e4; subst e5; subst e6; subst e7; subst e8
  obtain ⟨mo, hmo⟩ := open_intsR Tryd.underlying57 (by kernel_rfl) Tryd.underlying3 r4
  obtain ⟨da, hda⟩ := open_intsR Tryd.underlying57 (by kernel_rfl) Tryd.underlying3 r5
  obtain ⟨we, hwe⟩ := open_pairsR Tryd.underlying72 Tryd.underlying232 (by kernel_rfl) rfl rfl (by kernel_rfl) (by kernel_rfl) Tryd.underlying3 Tryd.underlying3 r6
  obtain ⟨pk, hpk⟩ := open_intsR Tryd.underlying57 (by kernel_rfl) Tryd.underlying3 r7
  obtain ⟨M, hM⟩ := open_intsR Tryd.underlying57 (by kernel_rfl) Tryd.underlying3 g6
  obtain ⟨N, hN⟩ := open_intsR Tryd.underlying57 (by kernel_rfl) Tryd.underlying3 g7
  obtain ⟨C, hC⟩ := open_pairsR Tryd.underlying75 Tryd.underlying176 (by kernel_rfl) rfl rfl (by kernel_rfl) (by kernel_rfl) Tryd.underlying3 Tryd.underlying3 g8
  obtain ⟨A, hA⟩ := open_almsR Tryd.underlying76 Tryd.underlying183 (by kernel_rfl) (by kernel_rfl) Tryd.underlying3 Tryd.underlying4 Tryd.underlying3 Tryd.underlying3 g9
  refine ⟨s0.data.toList, s1.data.toList, st, ln, rp, fr, ev, ct, ti, c9, c10, c11, c12, c13, c14, c15, c16, mo, da, we, pk, M, N, C, A, by rw [bs_data, bs_data], hmo, hda, hwe, hpk, hM, hN, hC, hA, ⟨w2, w3, w5, w6, w7, w8⟩, fun ts ds hw => ?_⟩
  subst hd
  have hi := each_inner (j := 0) hw rfl rfl Tryd.underlying78
  have l0 := sized_string (j := 0) hi rfl (congrArg some (show y0.1 = DataW.lit (.string s0.data.toList) by rw [x0]))
  have l1 := sized_string (j := 1) hi rfl (congrArg some (show y1.1 = DataW.lit (.string s1.data.toList) by rw [x1]))
  refine ⟨l0, l1, ?_⟩
  obtain ⟨ac, kc, rfl, -, -, -⟩ := pairsR_open hC
  rcases slice_elems Tryd.underlying75 g8 with h0 | ⟨el, sp, he, hl⟩
  · omega
  · have l8 := sized_slice (j := 8) hi rfl (congrArg some he) Tryd.underlying75
    rw [show Tryd.prog.bytesOf 176 = 16 by kernel_rfl] at l8
    unfold reachBytes at l8
    omega

end Go.Proofs.YtdkcgggnkhbkkaaDoor
