/- The law TimesHold: each time is as long as its event, in order; in two parts they are what they are in all: the walk. -/
import Derived.Test.YtkpmddlinlcobaaGreatDoorTimJ
import Derived.Test.YtkpmddlinlcobaaGreatDoorQ14
namespace Go.Proofs.YtkpmddlinlcobaaGreatDoor
open Go.RowKit Go.Shelf
set_option linter.unusedSimpArgs false
set_option linter.unusedVariables false

theorem below_alloc1 {w w' : World} {o : Obj} (h : Below w.heap.size w w') : Below w.heap.size w (w'.alloc o) := h.alloc h.size _

theorem cell_realloc {w : World} {o o2 : Obj} {b off : Nat} {u : Value} (hb : b < w.heap.size) (h : (w.alloc o).cell? ⟨b, off, none⟩ = some u) : (w.alloc o2).cell? ⟨b, off, none⟩ = some u := by
  rw [World.cell?_alloc_lt _ _ _ hb] at h ⊢; exact h

theorem tb_cells {w wq : World} {a b c : Value} (h : Below (w.alloc (.cells #[a, b, c] 51)).drew.heap.size (w.alloc (.cells #[a, b, c] 51)).drew wq) : wq.cell? ⟨w.heap.size, 0, none⟩ = some a ∧ wq.cell? ⟨w.heap.size, 1, none⟩ = some b ∧ wq.cell? ⟨w.heap.size, 2, none⟩ = some c ∧
    wq.frozen? ⟨w.heap.size, 0, none⟩ = false ∧ wq.frozen? ⟨w.heap.size, 1, none⟩ = false ∧ wq.frozen? ⟨w.heap.size, 2, none⟩ = false := by
  have hs : w.heap.size < (w.alloc (.cells #[a, b, c] 51)).drew.heap.size := by show w.heap.size < (w.alloc _).heap.size; rw [World.size_alloc]; exact Nat.lt_succ_self _
  exact ⟨cell_below h (World.cell?_alloc_new w #[a, b, c] _ 0), cell_below h (World.cell?_alloc_new w #[a, b, c] _ 1), cell_below h (World.cell?_alloc_new w #[a, b, c] _ 2),
    (h.frozen hs).trans (World.frozen?_alloc_new w _ _ 0), (h.frozen hs).trans (World.frozen?_alloc_new w _ _ 1), (h.frozen hs).trans (World.frozen?_alloc_new w _ _ 2)⟩

theorem far_setCell3 {w : World} {b off tb : Nat} {u v0 v1 v2 : Value} (hb : b < tb) (h : w.cell? ⟨b, off, none⟩ = some u) : (((w.setCell ⟨tb, 0, none⟩ v0).setCell ⟨tb, 1, none⟩ v1).setCell ⟨tb, 2, none⟩ v2).cell? ⟨b, off, none⟩ = some u := by
  rw [World.cell?_setCell_far _ _ _ _ (by show tb ≠ b; omega), World.cell?_setCell_far _ _ _ _ (by show tb ≠ b; omega), World.cell?_setCell_far _ _ _ _ (by show tb ≠ b; omega)]; exact h

theorem far_setCells {w : World} {b off tb : Nat} {u v0 v1 v2 : Value} (hb : b < tb) (h : w.cell? ⟨b, off, none⟩ = some u) : (w.setCells tb 0 [v0, v1, v2]).cell? ⟨b, off, none⟩ = some u := far_setCell3 hb h

theorem size_a {w wq : World} (h : Below w.drew.heap.size w.drew wq) : w.heap.size ≤ wq.heap.size := h.size

theorem size_b {w wq : World} {o : Obj} (h : Below (w.alloc o).drew.heap.size (w.alloc o).drew wq) : w.heap.size ≤ wq.heap.size := by
  have h2 : (w.alloc o).heap.size ≤ wq.heap.size := h.size
  rw [World.size_alloc] at h2; exact Nat.le_trans (Nat.le_succ _) h2

theorem heldB {b eb g3 n : Nat} (h : b = eb ∨ b = eb + 1 ∨ b = g3) (h1 : eb < n) (h2 : eb + 1 < n) (h3 : g3 < n) : b < n := by omega

theorem heldS {w w2 : World} {eb g3 o3 : Nat} {v0 v1 v2 v3 v4 v5 v6 v7 v8 v9 v10 v11 v12 v13 v14 v15 v16 v17 v18 v19 : Value} (hk : ∀ b off u, (b = eb ∨ b = eb + 1 ∨ b = g3) → w.cell? ⟨b, off, none⟩ = some u → w2.cell? ⟨b, off, none⟩ = some u)
    (h : w.cell? ⟨eb, 0, none⟩ = some v0 ∧ w.cell? ⟨eb, 1, none⟩ = some v1 ∧ w.cell? ⟨eb + 1, 0, none⟩ = some v2 ∧ w.cell? ⟨eb + 1, 1, none⟩ = some v3 ∧ w.cell? ⟨eb + 1, 2, none⟩ = some v4 ∧ w.cell? ⟨eb + 1, 3, none⟩ = some v5 ∧ w.cell? ⟨eb + 1, 4, none⟩ = some v6 ∧ w.cell? ⟨eb + 1, 5, none⟩ = some v7 ∧ w.cell? ⟨eb + 1, 6, none⟩ = some v8 ∧ w.cell? ⟨eb + 1, 7, none⟩ = some v9 ∧ w.cell? ⟨eb + 1, 8, none⟩ = some v10 ∧ w.cell? ⟨eb + 1, 9, none⟩ = some v11 ∧ w.cell? ⟨eb + 1, 10, none⟩ = some v12 ∧ w.cell? ⟨eb + 1, 11, none⟩ = some v13 ∧ w.cell? ⟨eb + 1, 12, none⟩ = some v14 ∧ w.cell? ⟨eb + 1, 13, none⟩ = some v15 ∧ w.cell? ⟨eb + 1, 14, none⟩ = some v16 ∧ w.cell? ⟨eb + 1, 15, none⟩ = some v17 ∧ w.cell? ⟨eb + 1, 16, none⟩ = some v18 ∧ w.cell? ⟨g3, o3, none⟩ = some v19) : w2.cell? ⟨eb, 0, none⟩ = some v0 ∧ w2.cell? ⟨eb, 1, none⟩ = some v1 ∧ w2.cell? ⟨eb + 1, 0, none⟩ = some v2 ∧ w2.cell? ⟨eb + 1, 1, none⟩ = some v3 ∧ w2.cell? ⟨eb + 1, 2, none⟩ = some v4 ∧ w2.cell? ⟨eb + 1, 3, none⟩ = some v5 ∧ w2.cell? ⟨eb + 1, 4, none⟩ = some v6 ∧ w2.cell? ⟨eb + 1, 5, none⟩ = some v7 ∧ w2.cell? ⟨eb + 1, 6, none⟩ = some v8 ∧ w2.cell? ⟨eb + 1, 7, none⟩ = some v9 ∧ w2.cell? ⟨eb + 1, 8, none⟩ = some v10 ∧ w2.cell? ⟨eb + 1, 9, none⟩ = some v11 ∧ w2.cell? ⟨eb + 1, 10, none⟩ = some v12 ∧ w2.cell? ⟨eb + 1, 11, none⟩ = some v13 ∧ w2.cell? ⟨eb + 1, 12, none⟩ = some v14 ∧ w2.cell? ⟨eb + 1, 13, none⟩ = some v15 ∧ w2.cell? ⟨eb + 1, 14, none⟩ = some v16 ∧ w2.cell? ⟨eb + 1, 15, none⟩ = some v17 ∧ w2.cell? ⟨eb + 1, 16, none⟩ = some v18 ∧ w2.cell? ⟨g3, o3, none⟩ = some v19 :=
  ⟨hk _ _ _ (.inl rfl) h.1, hk _ _ _ (.inl rfl) h.2.1, hk _ _ _ (.inr (.inl rfl)) h.2.2.1, hk _ _ _ (.inr (.inl rfl)) h.2.2.2.1, hk _ _ _ (.inr (.inl rfl)) h.2.2.2.2.1, hk _ _ _ (.inr (.inl rfl)) h.2.2.2.2.2.1, hk _ _ _ (.inr (.inl rfl)) h.2.2.2.2.2.2.1, hk _ _ _ (.inr (.inl rfl)) h.2.2.2.2.2.2.2.1, hk _ _ _ (.inr (.inl rfl)) h.2.2.2.2.2.2.2.2.1, hk _ _ _ (.inr (.inl rfl)) h.2.2.2.2.2.2.2.2.2.1, hk _ _ _ (.inr (.inl rfl)) h.2.2.2.2.2.2.2.2.2.2.1, hk _ _ _ (.inr (.inl rfl)) h.2.2.2.2.2.2.2.2.2.2.2.1, hk _ _ _ (.inr (.inl rfl)) h.2.2.2.2.2.2.2.2.2.2.2.2.1, hk _ _ _ (.inr (.inl rfl)) h.2.2.2.2.2.2.2.2.2.2.2.2.2.1, hk _ _ _ (.inr (.inl rfl)) h.2.2.2.2.2.2.2.2.2.2.2.2.2.2.1, hk _ _ _ (.inr (.inl rfl)) h.2.2.2.2.2.2.2.2.2.2.2.2.2.2.2.1, hk _ _ _ (.inr (.inl rfl)) h.2.2.2.2.2.2.2.2.2.2.2.2.2.2.2.2.1, hk _ _ _ (.inr (.inl rfl)) h.2.2.2.2.2.2.2.2.2.2.2.2.2.2.2.2.2.1, hk _ _ _ (.inr (.inl rfl)) h.2.2.2.2.2.2.2.2.2.2.2.2.2.2.2.2.2.2.1, hk _ _ _ (.inr (.inr rfl)) h.2.2.2.2.2.2.2.2.2.2.2.2.2.2.2.2.2.2.2⟩

theorem pairs_oneH {w : World} {b : Nat} {x y : Int} (h1 : w.cell? ⟨b, 0, none⟩ = some (.int .i64 x)) (h2 : w.cell? ⟨b, 1, none⟩ = some (.int .i64 y)) : PairsR w (.slice (some ⟨b, 0, none⟩) 1 1) [(x, y)] :=
  ⟨_, 1, rfl, by simp [pairsV], by simp, by decide, fun _ => ⟨b, 0, rfl, fun j u hj => by match j, hj with | 0, hj => (simp [pairsV] at hj; subst hj; simpa using h1) | 1, hj => (simp [pairsV] at hj; subst hj; simpa using h2)⟩⟩

theorem thold_lit (w0 : World) : ∃ ob vC1, Value.pointer (some ⟨w0.heap.size + 1, 0, none⟩) = .pointer (some ⟨ob, 0, none⟩) ∧ EvC ((w0.alloc (.cells #[.int .i64 66729179, .int .i64 66729300] 62)).alloc (.cells #[.string { data := #[97] }, .string { data := #[] }, .int .i64 66729179, .int .i64 60, .bool false, .int .i64 0, .int .i64 0, .int .i64 0, .int .i64 0, .slice none 0 0, .slice none 0 0, .slice none 0 0, .slice none 0 0, .slice none 0 0, .slice none 0 0, .slice (some ⟨w0.heap.size, 0, none⟩) 1 1, .slice none 0 0] 29)) ob { data := #[97] } { data := #[] } 66729179 60 false 0 0 0 0 (.slice none 0 0) (.slice none 0 0) (.slice none 0 0) (.slice none 0 0) (.slice none 0 0) (.slice none 0 0) vC1 (.slice none 0 0) ∧ PairsR ((w0.alloc (.cells #[.int .i64 66729179, .int .i64 66729300] 62)).alloc (.cells #[.string { data := #[97] }, .string { data := #[] }, .int .i64 66729179, .int .i64 60, .bool false, .int .i64 0, .int .i64 0, .int .i64 0, .int .i64 0, .slice none 0 0, .slice none 0 0, .slice none 0 0, .slice none 0 0, .slice none 0 0, .slice none 0 0, .slice (some ⟨w0.heap.size, 0, none⟩) 1 1, .slice none 0 0] 29)) vC1 [(66729179, 66729300)] ∧ Below w0.heap.size w0 ((w0.alloc (.cells #[.int .i64 66729179, .int .i64 66729300] 62)).alloc (.cells #[.string { data := #[97] }, .string { data := #[] }, .int .i64 66729179, .int .i64 60, .bool false, .int .i64 0, .int .i64 0, .int .i64 0, .int .i64 0, .slice none 0 0, .slice none 0 0, .slice none 0 0, .slice none 0 0, .slice none 0 0, .slice none 0 0, .slice (some ⟨w0.heap.size, 0, none⟩) 1 1, .slice none 0 0] 29)) := by
  obtain ⟨y1, hy1⟩ : ∃ z, z = w0.alloc (.cells #[.int .i64 66729179, .int .i64 66729300] 62) := ⟨_, rfl⟩
  have s1 : y1.heap.size = w0.heap.size + 1 := by rw [hy1]; simp
  have c1 : y1.cell? ⟨w0.heap.size, 0, none⟩ = some (.int .i64 66729179) := by rw [hy1]; simp
  have c2 : y1.cell? ⟨w0.heap.size, 1, none⟩ = some (.int .i64 66729300) := by rw [hy1]; simp
  have b1 : Below w0.heap.size w0 y1 := by rw [hy1]; exact (Below.refl _ _).alloc (Nat.le_refl _) _
  rw [← hy1]
  obtain ⟨o, ho⟩ : ∃ o : Obj, o = .cells #[.string { data := #[97] }, .string { data := #[] }, .int .i64 66729179, .int .i64 60, .bool false, .int .i64 0, .int .i64 0, .int .i64 0, .int .i64 0, .slice none 0 0, .slice none 0 0, .slice none 0 0, .slice none 0 0, .slice none 0 0, .slice none 0 0, .slice (some ⟨w0.heap.size, 0, none⟩) 1 1, .slice none 0 0] 29 := ⟨_, rfl⟩
  have ec := evC_new y1 29 { data := #[97] } { data := #[] } 66729179 60 false 0 0 0 0 (.slice none 0 0) (.slice none 0 0) (.slice none 0 0) (.slice none 0 0) (.slice none 0 0) (.slice none 0 0) (.slice (some ⟨w0.heap.size, 0, none⟩) 1 1) (.slice none 0 0)
  rw [← ho] at ec ⊢
  have b3 : Below y1.heap.size y1 (y1.alloc o) := (Below.refl y1.heap.size y1).alloc (Nat.le_refl _) o
  have i1 := pairs_oneH (cell_below b3 c1) (cell_below b3 c2)
  rw [s1] at ec
  exact ⟨_, _, rfl, ec, i1, b1.trans (b3.mono (by omega))⟩

theorem thold_call (vC : Value) (w : World) (hw : Months w) (hC : PairsR w vC [(66729179, 66729300)]) : Calls Tryz.prog 28 #[.agg #[.int .i64 100, .slice none 0 0], .agg #[.string { data := #[97] }, .string { data := #[] }, .int .i64 66729179, .int .i64 60, .bool false, .int .i64 0, .int .i64 0, .int .i64 0, .int .i64 0, .slice none 0 0, .slice none 0 0, .slice none 0 0, .slice none 0 0, .slice none 0 0, .slice none 0 0, vC, .slice none 0 0], .int .i64 66729000, .int .i64 66730000] w
      (BetP 60 0 [(66729179, 66729200)] w) := by
  have h := between_any [97] [] 66729179 60 false 0 0 0 0 (.slice none 0 0) (.slice none 0 0) (.slice none 0 0) (.slice none 0 0) (.slice none 0 0) (.slice none 0 0) vC (.slice none 0 0) [] [] [] [] [] [] [(66729179, 66729300)] [] 100 (.slice none 0 0) [] 66729000 66730000 w hw ⟨intsR_nil _, intsR_nil _, reads_nil _ _, intsR_nil _, intsR_nil _, intsR_nil _, hC, reads_nil _ _⟩ (reads_nil _ _) (by decide) (by decide) (by decide)
  rw [thold_fact, show ruleT false 66729179 0 0 0 0 [] [] [] [] = [66729179] from rfl, thold_times, show fullN (betE 0 (zfault 100 []) 66729000 66730000) [((66729179 : Int), (66729200 : Int))].length = 0 by decide] at h
  exact h

set_option maxRecDepth 100000 in
set_option maxHeartbeats 16000000 in
theorem timesHold_any (ah : Int) (vZ : Value) (Z : List (Int × Int)) (nm tx : List UInt8) (st ln : Int) (rp : Bool) (fr ev ct ti : Int) (vm vd vw vp vM vN vC vA : Value) (mo da : List Int) (we : List (Int × Int)) (pk M N : List Int) (C : List (Int × Int)) (A : List Alm) (a c b : Int) (w : World) (hw : Months w) (hZ : PairsR w vZ Z)
    (hR : EvR w vm vd vw vp vM vN vC vA mo da we pk M N C A) (hnm : nm.length ≤ 140737488351232) (htx : tx.length ≤ 140737488351232) (hcl : C.length ≤ 8796093022208) :
    Calls Tryz.prog 5 #[.agg #[.int .i64 ah, vZ], .agg #[.string (bs nm), .string (bs tx), .int .i64 st, .int .i64 ln, .bool rp, .int .i64 fr, .int .i64 ev, .int .i64 ct, .int .i64 ti, vm, vd, vw, vp, vM, vN, vC, vA], .int .i64 a, .int .i64 c, .int .i64 b] w fun e w' => e = .returned (.bool true) ∧ Below w.heap.size w w' := by
  have hR0 := hR
  obtain ⟨h1, h2, h3, h4, hM, hN, hC, hA⟩ := hR
  obtain ⟨am, km, rfl, -, -, -⟩ := intsR_open h1
  obtain ⟨ad, kd, rfl, -, -, -⟩ := intsR_open h2
  obtain ⟨aw, kw, rfl, -, -, -⟩ := pairsR_open h3
  obtain ⟨ap, kp, rfl, -, -, -⟩ := intsR_open h4
  obtain ⟨aM, kM, rfl, -, -, -⟩ := intsR_open hM
  obtain ⟨aN, kN, rfl, -, -, -⟩ := intsR_open hN
  obtain ⟨aC, kC, rfl, -, kC2, hds⟩ := pairsR_open hC
  obtain ⟨aA, kA, rfl, -, -, -⟩ := almsR_open hA
  unfold maxLen at kC2
  obtain ⟨aZ, kZ, rfl, -, -, -⟩ := pairsR_open hZ
  obtain ⟨snm, hsnm⟩ : ∃ s, s = bs nm := ⟨_, rfl⟩
  obtain ⟨stx, hstx⟩ : ∃ s, s = bs tx := ⟨_, rfl⟩
  obtain ⟨eb, heb⟩ : ∃ x, x = w.heap.size := ⟨_, rfl⟩
  obtain ⟨wz, hwz⟩ : ∃ x, x = w.alloc (.cells #[.int .i64 ah, .slice aZ Z.length kZ] 56) := ⟨_, rfl⟩
  have hbz : Below w.heap.size w wz := by rw [hwz]; exact (Below.refl _ _).alloc (Nat.le_refl _) _
  have hsz : wz.heap.size = eb + 1 := by rw [hwz, heb]; simp
  have z0 : wz.cell? ⟨eb, 0, none⟩ = some (.int .i64 ah) := by rw [hwz, heb]; simp
  have z1 : wz.cell? ⟨eb, 1, none⟩ = some (.slice aZ Z.length kZ) := by rw [hwz, heb]; simp
  obtain ⟨w0, hw0⟩ : ∃ x, x = wz.alloc (.cells #[.string snm, .string stx, .int .i64 st, .int .i64 ln, .bool rp, .int .i64 fr, .int .i64 ev, .int .i64 ct, .int .i64 ti, .slice am mo.length km, .slice ad da.length kd, .slice aw we.length kw, .slice ap pk.length kp, .slice aM M.length kM, .slice aN N.length kN, .slice aC C.length kC, .slice aA A.length kA] 29) := ⟨_, rfl⟩
  have hb0 : Below wz.heap.size wz w0 := by rw [hw0]; exact (Below.refl _ _).alloc (Nat.le_refl _) _
  have ec := hw0 ▸ evC_new wz 29 snm stx st ln rp fr ev ct ti (.slice am mo.length km) (.slice ad da.length kd) (.slice aw we.length kw) (.slice ap pk.length kp) (.slice aM M.length kM) (.slice aN N.length kN) (.slice aC C.length kC) (.slice aA A.length kA)
  rw [hsz] at ec
  have z0 := cell_below hb0 z0; have z1 := cell_below hb0 z1
  have hbw : Below w.heap.size w w0 := hbz.trans (hb0.mono hbz.size)
  obtain ⟨F, hF⟩ : ∃ F, F = (evF nm tx st ln rp fr ev ct ti mo da we pk M N C A) := ⟨_, rfl⟩
  obtain ⟨ZF, hZF⟩ : ∃ F, F = zfault ah Z := ⟨_, rfl⟩
  obtain ⟨T, hT⟩ : ∃ T, T = ruleT rp st fr ev ct ti mo da we pk := ⟨_, rfl⟩
  have BF := Lib.hid (show BetG w0 (.agg #[.int .i64 ah, .slice aZ Z.length kZ]) (.agg #[.string snm, .string stx, .int .i64 st, .int .i64 ln, .bool rp, .int .i64 fr, .int .i64 ev, .int .i64 ct, .int .i64 ti, .slice am mo.length km, .slice ad da.length kd, .slice aw we.length kw, .slice ap pk.length kp, .slice aM M.length kM, .slice aN N.length kN, .slice aC C.length kC, .slice aA A.length kA]) F ZF ah ln Z T M N C by rw [hF, hZF, hT, hsnm, hstx]; exact betG_mk nm tx st ln rp fr ev ct ti _ _ _ _ _ _ _ _ mo da we pk M N C A ah _ Z w w0 hbw hw hR0 hZ hnm htx hcl)
  have NF := Lib.hid (show NextG w0 (.agg #[.int .i64 ah, .slice aZ Z.length kZ]) (.agg #[.string snm, .string stx, .int .i64 st, .int .i64 ln, .bool rp, .int .i64 fr, .int .i64 ev, .int .i64 ct, .int .i64 ti, .slice am mo.length km, .slice ad da.length kd, .slice aw we.length kw, .slice ap pk.length kp, .slice aM M.length kM, .slice aN N.length kN, .slice aC C.length kC, .slice aA A.length kA]) F ZF ah ln Z T M N C by rw [hF, hZF, hT, hsnm, hstx]; exact nextG_mk nm tx st ln rp fr ev ct ti _ _ _ _ _ _ _ _ mo da we pk M N C A ah _ Z w w0 hbw hw hR0 hZ hnm htx hcl)
  have MF := Lib.hid (show MovG w0 (.agg #[.string snm, .string stx, .int .i64 st, .int .i64 ln, .bool rp, .int .i64 fr, .int .i64 ev, .int .i64 ct, .int .i64 ti, .slice am mo.length km, .slice ad da.length kd, .slice aw we.length kw, .slice ap pk.length kp, .slice aM M.length kM, .slice aN N.length kN, .slice aC C.length kC, .slice aA A.length kA]) F T M N C by rw [hF, hT, hsnm, hstx]; exact movG_mk nm tx st ln rp fr ev ct ti _ _ _ _ _ _ _ _ mo da we pk M N C A w w0 hbw hw hR0 hnm htx hcl)
  have FF := Lib.hid (show F = 0 → EvFacts st ln rp fr ev ct ti mo da we pk M N C A from fun h => evF_facts (hF.symm.trans h))
  have ZE := Lib.hid hZF
  have HW := Lib.hid (hw.below hbw)
  have EC := Lib.hid ec; have BW := Lib.hid hbw; have WZ := Lib.hid hwz; have W0 := Lib.hid hw0; have EB := Lib.hid heb
  have Z0 := Lib.hid z0; have Z1 := Lib.hid z1
  rw [← hsnm, ← hstx]
  clear hR0 h1 h2 h3 h4 hM hN hC hA hw hZ hwz hbz hsz hw0 hb0 ec hbw heb hds hF hZF hT hsnm hstx hnm htx hcl z0 z1
  go_enter Tryz.func5, Tryz.ntmps5
  go_upto_region 1 with fail
  rw [← WZ.out, ← W0.out]
  rw [← EB.out]
  go_cut [11] (fun s11 wx => ∃ ob vC1, s11 = .pointer (some ⟨ob, 0, none⟩) ∧ EvC wx ob { data := #[97] } { data := #[] } 66729179 60 false 0 0 0 0 (.slice none 0 0) (.slice none 0 0) (.slice none 0 0) (.slice none 0 0) (.slice none 0 0) (.slice none 0 0) vC1 (.slice none 0 0) ∧ PairsR wx vC1 [(66729179, 66729300)] ∧ Below w0.heap.size w0 wx)
  case first =>
    go_wp2
    go_meet
    exact thold_lit w0
  case rest =>
  obtain ⟨ob, vC1, rfl, ec1, hC1, hb1⟩ := hcut
  obtain ⟨w1, rfl⟩ : ∃ x, x = wc := ⟨_, rfl⟩
  have B1 := Lib.hid hb1; have LC := Lib.hid (thold_call vC1 w1 (HW.out.below hb1) hC1)
  obtain ⟨p1, q1, rfl, -, -, -⟩ := pairsR_open hC1
  have EC1 := Lib.hid ec1
  clear hb1 hC1 ec1
  go_upto_region 2 with fail
  have k0 := EC1.out.k0; have k1 := EC1.out.k1; have k2 := EC1.out.k2; have k3 := EC1.out.k3; have k4 := EC1.out.k4; have k5 := EC1.out.k5; have k6 := EC1.out.k6; have k7 := EC1.out.k7; have k8 := EC1.out.k8; have k9 := EC1.out.k9; have k10 := EC1.out.k10; have k11 := EC1.out.k11; have k12 := EC1.out.k12; have k13 := EC1.out.k13; have k14 := EC1.out.k14; have k15 := EC1.out.k15; have k16 := EC1.out.k16
  go_cut [12, 13] (fun s12 s13 wx => (∃ b2 c2, s12 = .slice (some ⟨b2, 0, none⟩) 1 c2 ∧ wx.cell? ⟨b2, 0, none⟩ = some (.int .i64 66729179) ∧ wx.cell? ⟨b2, 1, none⟩ = some (.int .i64 66729200) ∧ wx.cell? ⟨b2, 2, none⟩ = some (.int .i64 66729260)) ∧ s13 = .nilIface ∧ Below w1.heap.size w1 wx)
  case first => as_aux_lemma =>
    go_wp2_with fail
    refine LC.out.mono ?_; rintro e w2 ⟨v2, rfl, hv2, hb2⟩
    rw [if_pos rfl] at hv2
    obtain ⟨va, vc, rfl, -, -, hcs⟩ := owns_cells hv2
    obtain ⟨g, rfl, -, hc⟩ := hcs (by decide)
    have C0 := Lib.hid (show w2.cell? ⟨g, 0, none⟩ = some (.int .i64 66729179) from hc 0 _ rfl)
    have C1 := Lib.hid (show w2.cell? ⟨g, 1, none⟩ = some (.int .i64 66729200) from hc 1 _ rfl)
    have C2 := Lib.hid (show w2.cell? ⟨g, 2, none⟩ = some (.int .i64 66729260) from hc 2 _ rfl)
    have B2 := Lib.hid hb2
    rw [errV_0]
    clear hcs hc hv2 hb2 k0 k1 k2 k3 k4 k5 k6 k7 k8 k9 k10 k11 k12 k13 k14 k15 k16
    go_wp2
    go_meet
    exact ⟨⟨_, _, rfl, C0.out, C1.out, C2.out⟩, rfl, B2.out⟩
  case rest =>
  obtain ⟨⟨b2, c2, rfl, hc0, hc1, hc2⟩, rfl, hb2⟩ := hcut
  obtain ⟨w2, rfl⟩ : ∃ x, x = wc := ⟨_, rfl⟩
  have B2 := Lib.hid (B1.out.trans (hb2.mono B1.out.size))
  clear hb2 k0 k1 k2 k3 k4 k5 k6 k7 k8 k9 k10 k11 k12 k13 k14 k15 k16 EC1 LC
  obtain ⟨R, hR⟩ : ∃ R, R = tmsOf ah Z T M N C ln a b := ⟨_, rfl⟩
  obtain ⟨X, hX⟩ : ∃ X, X = fullN (betE F ZF a b) R.length := ⟨_, rfl⟩
  have LA := Lib.hid (show Calls Tryz.prog 28 _ w2 (BetP ln X R w2) by have h := BF.out a b w2 B2.out; rw [← hR, ← hX] at h; exact h)
  have RE := Lib.hid hR; have XE := Lib.hid hX
  have E2 := Lib.hid (EC.out.below B2.out)
  have z0 := cell_below B2.out Z0.out; have z1 := cell_below B2.out Z1.out
  clear hR hX
  go_upto_region 5 with fail
  clear hc0 hc1 hc2
  have k0 := E2.out.k0; have k1 := E2.out.k1; have k2 := E2.out.k2; have k3 := E2.out.k3; have k4 := E2.out.k4; have k5 := E2.out.k5; have k6 := E2.out.k6; have k7 := E2.out.k7; have k8 := E2.out.k8; have k9 := E2.out.k9; have k10 := E2.out.k10; have k11 := E2.out.k11; have k12 := E2.out.k12; have k13 := E2.out.k13; have k14 := E2.out.k14; have k15 := E2.out.k15; have k16 := E2.out.k16
  go_cut [14, 15] (fun s14 s15 wx => ∃ v, s14 = v ∧ s15 = errV X ∧ OwnT ln w2.heap.size wx v (if X = 0 then R else []) ∧ Below w2.heap.size w2 wx)
  case first => as_aux_lemma =>
    go_wp2_with fail
    refine LA.out.mono ?_; rintro e w3 ⟨v, rfl, hv, hb⟩
    have HV := Lib.hid hv; have HB := Lib.hid hb
    clear hv hb z0 z1 k0 k1 k2 k3 k4 k5 k6 k7 k8 k9 k10 k11 k12 k13 k14 k15 k16
    go_wp2
    go_meet
    exact ⟨_, rfl, rfl, HV.out, HB.out⟩
  case rest => as_aux_lemma =>
  obtain ⟨v, rfl, rfl, hv, hb3⟩ := hcut
  obtain ⟨w3, rfl⟩ : ∃ x, x = wc := ⟨_, rfl⟩
  have B3 := Lib.hid (B2.out.trans (hb3.mono B2.out.size))
  clear hb3 z0 z1 k0 k1 k2 k3 k4 k5 k6 k7 k8 k9 k10 k11 k12 k13 k14 k15 k16 E2 LA
  by_cases h0 : X ≠ 0
  · have E := Lib.hid (show errV X = .iface 119 (.int .i64 X) by rw [errV, if_neg h0])
    rw [E.out]
    clear h0 hv
    go_wp2
    go_ret
    exact ⟨rfl, BW.out.trans (B3.out.mono BW.out.size)⟩
  obtain rfl : X = 0 := by omega
  rw [errV_0]
  rw [if_pos rfl] at hv
  obtain ⟨f0, f1, tf⟩ := tms_facts FF.out RE.out (by rw [← ZE.out]; exact XE.out)
  have F0 := Lib.hid f0; have ZF0 := Lib.hid (ZE.out.trans f1); have TF := Lib.hid tf
  obtain ⟨va, vc, rfl, hm, -, hcs⟩ := owns_cells hv
  unfold maxLen at hm
  have V3 := Lib.hid hv
  have HD := Lib.hid (show 0 < R.length → ∃ g, va = some ⟨g, 0, none⟩ ∧ ∀ (k : Nat) (hk : k < R.length), w3.cell? ⟨g, k * 3, none⟩ = some (.int .i64 R[k].1) ∧ w3.cell? ⟨g, k * 3 + 1, none⟩ = some (.int .i64 R[k].2) ∧ w3.cell? ⟨g, k * 3 + 2, none⟩ = some (.int .i64 (R[k].2 + ln)) from fun hp => by
    obtain ⟨g, e1, -, q⟩ := hcs hp
    refine ⟨g, e1, fun k hk => ⟨q (k * 3) _ ?_, q (k * 3 + 1) _ ?_, q (k * 3 + 2) _ ?_⟩⟩
    · have := flatMap_at (enc := encT ln) (k := 3) (fun _ => rfl) R k 0 hk (by omega); simpa [encT] using this
    · have := flatMap_at (enc := encT ln) (k := 3) (fun _ => rfl) R k 1 hk (by omega); simpa [encT] using this
    · have := flatMap_at (enc := encT ln) (k := 3) (fun _ => rfl) R k 2 hk (by omega); simpa [encT] using this)
  obtain ⟨n, hn⟩ : ∃ n, n = R.length := ⟨_, rfl⟩
  have n2 : n ≤ 200 := by rw [hn]; exact tf.len
  rw [← hn]
  have NE := Lib.hid hn
  have E3 := Lib.hid (EC.out.below B3.out)
  have y0 := cell_below B3.out Z0.out; have y1 := cell_below B3.out Z1.out
  have Y0 := Lib.hid y0; have Y1 := Lib.hid y1
  clear hv hcs h0 f0 f1 tf XE hn y0 y1
  go_upto_block 0 with fail
  go_cut [16] (fun s16 wx => Below w3.heap.size w3 wx)
  case first => as_aux_lemma =>
    go_wp2_with fail
    go_loopg [16] n (fun g iv wr => ∃ k : Nat, k ≤ n ∧ iv = .int .i64 k ∧ g = n - k ∧ Below w3.heap.size w3 wr)
    case atStart => exact ⟨0, Nat.zero_le _, rfl, rfl, Below.refl _ _⟩
    case round => as_aux_lemma =>
      obtain ⟨k, hk, rfl, hg, hb⟩ := hrel
      have G := Lib.hid hg
      have BR := Lib.hid hb
      clear hg
      by_cases hlt : k < n
      · have k1 : k < R.length := by rw [← NE.out]; exact hlt
        obtain ⟨g3, rfl, hcs⟩ := HD.out (by omega)
        have q0 := cell_below hb (hcs k k1).1
        have q1 := cell_below hb (hcs k k1).2.1
        have q2 := cell_below hb (hcs k k1).2.2
        obtain ⟨x, hx⟩ : ∃ x, x = R[k] := ⟨_, rfl⟩
        rw [← hx] at q0 q1 q2
        have hxm : x ∈ R := by rw [hx]; exact List.getElem_mem _
        have MV := Lib.hid (fun wx => MF.out F0.out x.1 wx (TF.out.is x hxm))
        rw [TF.out.off x hxm] at MV
        have XA := Lib.hid (show a ≤ x.2 ∧ x.2 < b from ⟨TF.out.lo x hxm, TF.out.hi x hxm⟩)
        have X2 := Lib.hid (timeB_yes (TF.out.time x hxm))
        have XK := Lib.hid hx
        have LB := Lib.hid TF.out.lnb
        obtain ⟨x1, x2⟩ := x
        simp only at q0 q1 q2 MV XA X2
        obtain ⟨y, hy⟩ : ∃ y, y = x2 + ln := ⟨_, rfl⟩
        rw [← hy] at q2
        have Y := Lib.hid hy
        obtain ⟨r1, hr1⟩ : ∃ r, r = (reallyC C x1).1 := ⟨_, rfl⟩
        rw [← hr1] at MV
        have ER := Lib.hid ((E3.out.below hb))
        have BR0 := Lib.hid (B3.out.trans (hb.mono B3.out.size))
        clear hx hb hxm hcs hy hr1
        have i0 : (0 : Int) ≤ (k : Int) := Int.natCast_nonneg _
        have i2 : (k : Int) < (n : Int) := by omega
        have k0 := ER.out.k0; have k1 := ER.out.k1; have k2 := ER.out.k2; have k3 := ER.out.k3; have k4 := ER.out.k4; have k5 := ER.out.k5; have k6 := ER.out.k6; have k7 := ER.out.k7; have k8 := ER.out.k8; have k9 := ER.out.k9; have k10 := ER.out.k10; have k11 := ER.out.k11; have k12 := ER.out.k12; have k13 := ER.out.k13; have k14 := ER.out.k14; have k15 := ER.out.k15; have k16 := ER.out.k16
        go_upto_region 11 with fail
        go_cut [17, 18, 19] (fun s17 s18 s19 wx => (∃ r, s17 = .int .i64 r) ∧ s18 = .bool false ∧ s19 = .nilIface ∧ Below wr.heap.size wr wx)
        case first => as_aux_lemma =>
          go_region_held3 (fun w' => w'.cell? ⟨eb + 1, 0, none⟩ = some (.string snm) ∧ w'.cell? ⟨eb + 1, 1, none⟩ = some (.string stx) ∧ w'.cell? ⟨eb + 1, 2, none⟩ = some (.int .i64 st) ∧ w'.cell? ⟨eb + 1, 3, none⟩ = some (.int .i64 ln) ∧ w'.cell? ⟨eb + 1, 4, none⟩ = some (.bool rp) ∧ w'.cell? ⟨eb + 1, 5, none⟩ = some (.int .i64 fr) ∧ w'.cell? ⟨eb + 1, 6, none⟩ = some (.int .i64 ev) ∧ w'.cell? ⟨eb + 1, 7, none⟩ = some (.int .i64 ct) ∧ w'.cell? ⟨eb + 1, 8, none⟩ = some (.int .i64 ti) ∧ w'.cell? ⟨eb + 1, 9, none⟩ = some (.slice am mo.length km) ∧ w'.cell? ⟨eb + 1, 10, none⟩ = some (.slice ad da.length kd) ∧ w'.cell? ⟨eb + 1, 11, none⟩ = some (.slice aw we.length kw) ∧ w'.cell? ⟨eb + 1, 12, none⟩ = some (.slice ap pk.length kp) ∧ w'.cell? ⟨eb + 1, 13, none⟩ = some (.slice aM M.length kM) ∧ w'.cell? ⟨eb + 1, 14, none⟩ = some (.slice aN N.length kN) ∧ w'.cell? ⟨eb + 1, 15, none⟩ = some (.slice aC C.length kC) ∧ w'.cell? ⟨eb + 1, 16, none⟩ = some (.slice aA A.length kA) ∧ w'.cell? ⟨g3, k * 3, none⟩ = some (.int .i64 x1) ∧ Below wr.heap.size wr w')
                (first | (refine ⟨?_, ?_, ?_, ?_, ?_, ?_, ?_, ?_, ?_, ?_, ?_, ?_, ?_, ?_, ?_, ?_, ?_, ?_, ?_⟩ <;> (first | assumption | exact Below.refl _ _ | exact (Below.refl _ _).drew)) | (go_split_ands; refine ⟨?_, ?_, ?_, ?_, ?_, ?_, ?_, ?_, ?_, ?_, ?_, ?_, ?_, ?_, ?_, ?_, ?_, ?_, ?_⟩ <;> (first | assumption | exact cell_below hbq (by assumption) | exact below_next (by assumption) hbq)))
                ((go_at_call 26; refine (MV.out _ (BR0.out.trans (Below.mono (by first | (go_split_ands; assumption) | exact (Below.refl _ _).drew | exact Below.refl _ _) BR0.out.size))).mono ?_; rintro e wq ⟨rfl, hbq⟩))
          have B4 : Hid (Below wr.heap.size wr wq) := Lib.hid (by first | exact below_next (by assumption) hbq | exact below_next (Below.refl _ _).drew hbq | exact below_next (Below.refl _ _) hbq)
          clear q0 q1 q2 hbq k0 k1 k2 k3 k4 k5 k6 k7 k8 k9 k10 k11 k12 k13 k14 k15 k16
          go_wp2
          go_meet
          exact ⟨⟨_, rfl⟩, rfl, rfl, B4.out⟩
        case rest => as_aux_lemma =>
        obtain ⟨⟨r2, rfl⟩, rfl, rfl, hbx⟩ := hcut
        obtain ⟨w4, rfl⟩ : ∃ z, z = wc := ⟨_, rfl⟩
        have q0 := cell_below hbx q0; have q1 := cell_below hbx q1; have q2 := cell_below hbx q2
        have k3 := cell_below hbx k3
        have B4 := Lib.hid (BR.out.trans (hbx.mono BR.out.size))
        clear hbx k0 k1 k2 k4 k5 k6 k7 k8 k9 k10 k11 k12 k13 k14 k15 k16 MV
        go_upto_region 12 with fail
        go_cut [148] (fun s148 wx => s148 = .bool false ∧ Below w4.heap.size w4 wx)
        case first => as_aux_lemma =>
          have s0 : IntKind.i64.wrap (y - x2) = ln := by rw [Y.out, show x2 + ln - x2 = ln by omega]; exact IntWalk.i64_in _ (by have := LB.out; omega)
          have d0 : (ln != ln) = false := by simp
          have d1 : decide (x2 < a) = false := decide_eq_false (by have := XA.out; omega)
          have d2 : decide (b ≤ x2) = false := decide_eq_false (by have := XA.out; omega)
          by_cases k0 : 0 < k
          · obtain ⟨g5, e5, hcs⟩ := HD.out (by omega)
            cases e5
            have g1 := cell_below B4.out (hcs (k - 1) (by omega)).2.1
            obtain ⟨p, hp⟩ : ∃ p, p = R[k - 1].2 := ⟨_, rfl⟩
            rw [← hp] at g1
            have hup := TF.out.up (k - 1) (by omega)
            rw [← hp] at hup
            have hup2 : p ≤ x2 := by
              have h5 : R[k - 1 + 1] = (x1, x2) := by rw [XK.out]; congr 1; omega
              rw [h5] at hup; exact hup
            have d3 : decide (x2 < p) = false := decide_eq_false (by omega)
            have d4 : decide (0 < k) = true := decide_eq_true k0
            have d5 : decide ((0 : Int) < (k : Int)) = true := decide_eq_true (by omega)
            have s1 : IntKind.i64.wrap ((k : Int) - 1) = (k : Int) - 1 := IntWalk.i64_in _ (by omega)
            have s2 : (0 : Int) ≤ (k : Int) - 1 := by omega
            have s3 : (1 : Int) ≤ (k : Int) := by omega
            have s4 : ((k : Int) - 1).toNat = k - 1 := by omega
            have s5 : (k : Int) - 1 < (n : Int) := by omega
            clear hp hup hup2 hcs k0
            go_quiet (fail)
            go_wp2
            go_meet
            exact ⟨by first | rfl | simp, below_drewN (Below.refl _ _) _⟩
          · have d4 : decide (0 < k) = false := decide_eq_false k0
            have d5 : decide ((0 : Int) < (k : Int)) = false := decide_eq_false (by omega)
            clear k0
            go_quiet (fail)
            go_wp2
            go_meet
            exact ⟨by first | rfl | simp, below_drewN (Below.refl _ _) _⟩
        case rest => as_aux_lemma =>
        obtain ⟨rfl, hbx⟩ := hcut
        have B5 := Lib.hid (B4.out.trans (hbx.mono B4.out.size))
        clear hbx q0 q1 q2 k3
        go_wp2
        go_roundg (n - (k + 1))
        case measure => rw [G.out]; omega
        case rel => exact ⟨k + 1, by omega, by go_num, rfl, B5.out⟩
      · obtain rfl : k = n := by omega
        have i2 : ¬ (k : Int) < (k : Int) := by omega
        clear hb
        go_wp2
        go_meet
        exact BR.out
  case rest => as_aux_lemma =>
  obtain ⟨w4, rfl⟩ : ∃ z, z = wc := ⟨_, rfl⟩
  have B34 := Lib.hid hcut
  have B4 := Lib.hid (B3.out.trans (hcut.mono B3.out.size))
  clear hcut
  go_upto_block 2 with fail
  go_cut [20] (fun s20 wx => Below w4.heap.size w4 wx)
  case first => as_aux_lemma =>
    go_wp2_with fail
    go_loopg [20] n (fun g iv wr => ∃ k : Nat, k ≤ n ∧ iv = .int .i64 k ∧ g = n - k ∧ Below w4.heap.size w4 wr)
    case atStart => exact ⟨0, Nat.zero_le _, rfl, rfl, Below.refl _ _⟩
    case round => as_aux_lemma =>
      obtain ⟨k, hk, rfl, hg, hb⟩ := hrel
      have G := Lib.hid hg
      have BR := Lib.hid hb
      clear hg
      have s0 : IntKind.i64.wrap ((k : Int) + 1) = (k : Int) + 1 := IntWalk.i64_in _ (by omega)
      by_cases hlt : k + 1 < n
      · have t1 : decide ((k : Int) + 1 < (n : Int)) = true := decide_eq_true (by omega)
        by_cases hlt2 : k < 10
        · have t2 : decide ((k : Int) < (10 : Int)) = true := decide_eq_true (by omega)
          have t2b : decide (k < 10) = true := decide_eq_true hlt2
          have k1 : k < R.length := by rw [← NE.out]; omega
          have k2 : k + 1 < R.length := by rw [← NE.out]; exact hlt
          obtain ⟨g3, rfl, hcs⟩ := HD.out (by omega)
          have hbz := B34.out.trans (hb.mono B34.out.size)
          have p0 := cell_below hbz (hcs k k1).2.1
          have q0 := cell_below hbz (hcs (k + 1) k2).1
          have q1 := cell_below hbz (hcs (k + 1) k2).2.1
          have q2 := cell_below hbz (hcs (k + 1) k2).2.2
          obtain ⟨x, hx⟩ : ∃ x, x = R[k] := ⟨_, rfl⟩
          obtain ⟨u, hu⟩ : ∃ u, u = R[k + 1] := ⟨_, rfl⟩
          rw [← hu] at q0 q1 q2
          rw [← hx] at p0
          have NX := Lib.hid (show x.2 < u.2 → u.2 - x.2 ≤ 500000 → ∃ r, tmsOf ah Z T M N C ln (x.2 + 1) (x.2 + 500000 + 1) = u :: r by rw [hx, hu]; exact TF.out.next k k2)
          have XT := Lib.hid (TF.out.time x (by rw [hx]; exact List.getElem_mem _))
          have UT := Lib.hid (TF.out.time u (by rw [hu]; exact List.getElem_mem _))
          have LB := Lib.hid TF.out.lnb
          obtain ⟨x1, x2⟩ := x
          obtain ⟨u1, u2⟩ := u
          simp only at p0 q0 q1 q2 NX XT UT
          obtain ⟨y, hy⟩ : ∃ y, y = u2 + ln := ⟨_, rfl⟩
          rw [← hy] at q2
          obtain ⟨L, hL⟩ : ∃ L, L = tmsOf ah Z T M N C ln (x2 + 1) (x2 + 500000 + 1) := ⟨_, rfl⟩
          obtain ⟨E, hE⟩ : ∃ E, E = nextE F ZF x2 L := ⟨_, rfl⟩
          have NC := Lib.hid (show ∀ wx, Below w0.heap.size w0 wx → Calls Tryz.prog 27 #[.agg #[.int .i64 ah, .slice aZ Z.length kZ], .agg #[.string snm, .string stx, .int .i64 st, .int .i64 ln, .bool rp, .int .i64 fr, .int .i64 ev, .int .i64 ct, .int .i64 ti, .slice am mo.length km, .slice ad da.length kd, .slice aw we.length kw, .slice ap pk.length kp, .slice aM M.length kM, .slice aN N.length kN, .slice aC C.length kC, .slice aA A.length kA], .int .i64 x2] wx (fun e w' => e = .returned (.tuple #[nextT ln E L, errV E]) ∧ Below wx.heap.size wx w') from fun wx hbx => by have h := NF.out x2 wx hbx; rw [← hL, ← hE] at h; exact h)
          obtain ⟨t1v, t2v, t3v, hform, hval⟩ := nextT_form ln E L
          rw [hform] at NC
          have OK := Lib.hid (show x2 < u2 → u2 - x2 ≤ 500000 → E = 0 ∧ t1v = u1 ∧ t2v = u2 ∧ t3v = y from fun a1 a2 => by
            obtain ⟨r, hr⟩ := NX.out a1 a2
            rw [← hL] at hr
            have e0 : E = 0 := by rw [hE]; exact nextE_ok F0.out ZF0.out XT.out hr
            obtain ⟨v1, v2, v3⟩ := hval _ _ e0 hr
            exact ⟨e0, v1, v2, by rw [v3, hy]⟩)
          have xb := timeB_yes XT.out; have ub := timeB_yes UT.out
          have BR0 := Lib.hid (B4.out.trans (hb.mono B4.out.size))
          have ER := Lib.hid (EC.out.below BR0.out)
          have z0 := cell_below BR0.out Z0.out; have z1 := cell_below BR0.out Z1.out
          clear hx hu hb hbz hcs hy hL hE hform hval NX XT UT
          have i0 : (0 : Int) ≤ (k : Int) := Int.natCast_nonneg _
          have i1 : (0 : Int) ≤ (k : Int) + 1 := by omega
          have i2 : (k : Int) < (n : Int) := by omega
          have i3 : (k : Int) + 1 < (n : Int) := by omega
          have i4 : ((k : Int) + 1).toNat = k + 1 := by omega
          have k0 := ER.out.k0; have k1 := ER.out.k1; have k2 := ER.out.k2; have k3 := ER.out.k3; have k4 := ER.out.k4; have k5 := ER.out.k5; have k6 := ER.out.k6; have k7 := ER.out.k7; have k8 := ER.out.k8; have k9 := ER.out.k9; have k10 := ER.out.k10; have k11 := ER.out.k11; have k12 := ER.out.k12; have k13 := ER.out.k13; have k14 := ER.out.k14; have k15 := ER.out.k15; have k16 := ER.out.k16
          have hz1 : eb < wr.heap.size := World.block_lt_of_cell? wr _ z0
          have hz2 : eb + 1 < wr.heap.size := World.block_lt_of_cell? wr _ k0
          have hz3 : g3 < wr.heap.size := World.block_lt_of_cell? wr _ p0
          go_upto_region 17 with fail
          go_cut [21, 22] (fun s21 s22 wx => (∃ tb, s21 = .pointer (some ⟨tb, 0, none⟩) ∧ wx.cell? ⟨tb, 0, none⟩ = some (.int .i64 t1v) ∧ wx.cell? ⟨tb, 1, none⟩ = some (.int .i64 t2v) ∧ wx.cell? ⟨tb, 2, none⟩ = some (.int .i64 t3v)) ∧ s22 = errV E ∧ Below wr.heap.size wr wx)
          case first => as_aux_lemma =>
            refine wp_region_held_drew (S := (fun w' => Below wr.heap.size wr w')) (by kernel_rfl) (Below.refl _ _).drew (fun hHeld => ?_)
            have CY := Lib.hid (fun wx hbx => NC.out wx (BR0.out.trans (Below.mono hbx BR0.out.size)))
            have QQ := Lib.hid p0; have KZ := Lib.hid (And.intro z0 z1)
            clear z0 z1 p0 q0 q1 q2 k0 k1 k2 k3 k4 k5 k6 k7 k8 k9 k10 k11 k12 k13 k14 k15 k16 NC
            refine wpAnyH_take (i := 0) (v := ?_) rfl (by kernel_rfl) (by kernel_rfl) (by kernel_rfl) (fun _ _ _ h => h) (Or.inl ⟨by rfl, ?_⟩) hHeld ?_
            rotate_left
            · (intro w hSw; (try dsimp only at hSw); have z0 := cell_below hSw KZ.out.1; have z1 := cell_below hSw KZ.out.2; go_simp <;> with_reducible rfl)
            change wpAnyH _ _ _ _ _ _ _ (Act.put _ (some 161) _) _
            try simp only [Act.put, List.setIfInBounds_toArray, List.set_cons_zero, List.set_cons_succ]
            refine wpAnyH_take (i := 1) (v := ?_) rfl (by kernel_rfl) (by kernel_rfl) (by kernel_rfl) (fun _ _ _ h => h) (Or.inl ⟨by rfl, ?_⟩) hHeld ?_
            rotate_left
            · (intro w hSw; (try dsimp only at hSw); have ex := ER.out.below hSw; have k0 := ex.k0; have k1 := ex.k1; have k2 := ex.k2; have k3 := ex.k3; have k4 := ex.k4; have k5 := ex.k5; have k6 := ex.k6; have k7 := ex.k7; have k8 := ex.k8; have k9 := ex.k9; have k10 := ex.k10; have k11 := ex.k11; have k12 := ex.k12; have k13 := ex.k13; have k14 := ex.k14; have k15 := ex.k15; have k16 := ex.k16; clear ex; go_simp <;> with_reducible rfl)
            change wpAnyH _ _ _ _ _ _ _ (Act.put _ (some 162) _) _
            try simp only [Act.put, List.setIfInBounds_toArray, List.set_cons_zero, List.set_cons_succ]
            refine wpAnyH_take (i := 2) (v := ?_) rfl (by kernel_rfl) (by kernel_rfl) (by kernel_rfl) (fun _ _ _ h => h) (Or.inl ⟨by rfl, ?_⟩) hHeld ?_
            rotate_left
            · (intro w hSw; (try dsimp only at hSw); go_simp <;> with_reducible rfl)
            change wpAnyH _ _ _ _ _ _ _ (Act.put _ (some 163) _) _
            try simp only [Act.put, List.setIfInBounds_toArray, List.set_cons_zero, List.set_cons_succ]
            refine wpAnyH_take (i := 3) (v := ?_) rfl (by kernel_rfl) (by kernel_rfl) (by kernel_rfl) (fun _ _ _ h => h) (Or.inl ⟨by rfl, ?_⟩) hHeld ?_
            rotate_left
            · (intro w hSw; (try dsimp only at hSw); go_simp <;> with_reducible rfl)
            change wpAnyH _ _ _ _ _ _ _ (Act.put _ (some 164) _) _
            try simp only [Act.put, List.setIfInBounds_toArray, List.set_cons_zero, List.set_cons_succ]
            refine wpAnyH_take (i := 4) (v := ?_) rfl (by kernel_rfl) (by kernel_rfl) (by kernel_rfl) (fun _ _ _ h => h) (Or.inl ⟨by rfl, ?_⟩) hHeld ?_
            rotate_left
            · (intro w hSw; (try dsimp only at hSw); go_simp <;> with_reducible rfl)
            change wpAnyH _ _ _ _ _ _ _ (Act.put _ (some 165) _) _
            try simp only [Act.put, List.setIfInBounds_toArray, List.set_cons_zero, List.set_cons_succ]
            refine wpAnyH_take (i := 5) (v := ?_) rfl (by kernel_rfl) (by kernel_rfl) (by kernel_rfl) (fun _ _ _ h => h) (Or.inl ⟨by rfl, ?_⟩) hHeld ?_
            rotate_left
            · (intro w hSw; (try dsimp only at hSw); go_simp <;> with_reducible rfl)
            change wpAnyH _ _ _ _ _ _ _ (Act.put _ (some 166) _) _
            try simp only [Act.put, List.setIfInBounds_toArray, List.set_cons_zero, List.set_cons_succ]
            refine wpAnyH_take (i := 6) (v := ?_) rfl (by kernel_rfl) (by kernel_rfl) (by kernel_rfl) (fun _ _ _ h => h) (Or.inl ⟨by rfl, ?_⟩) hHeld ?_
            rotate_left
            · (intro w hSw; (try dsimp only at hSw); have p0 := cell_below hSw QQ.out; go_simp <;> with_reducible rfl)
            change wpAnyH _ _ _ _ _ _ _ (Act.put _ (some 167) _) _
            try simp only [Act.put, List.setIfInBounds_toArray, List.set_cons_zero, List.set_cons_succ]
            refine wpAnyH_ready (rs := [7, 11]) (by kernel_rfl) (by simp) ?_
            refine AllReadyH.cons rfl (fun K hK => ?_) ?_
            · go_simp; go_at_call 27; refine (CY.out _ hHeld).mono ?_; rintro e wq ⟨rfl, hbq⟩; (try go_wp2_with fail)
              refine hK.out _ _ (Below.trans hHeld (Below.mono hbq hHeld.size)) (fun hHeld => ?_)
              clear hK K
              try simp only [Act.put, List.setIfInBounds_toArray, List.set_cons_zero, List.set_cons_succ]
              have hqs : wr.heap.size ≤ wq.heap.size := hHeld.size
              refine wpAnyH_take (i := 8) (v := ?_) rfl (by kernel_rfl) (by kernel_rfl) (by kernel_rfl) (fun _ _ _ h => h) (Or.inl ⟨by rfl, ?_⟩) hHeld ?_
              rotate_left
              · (intro w hSw; (try dsimp only at hSw); go_simp <;> with_reducible rfl)
              change wpAnyH _ _ _ _ _ _ _ (Act.put _ (some 160) _) _
              try simp only [Act.put, List.setIfInBounds_toArray, List.set_cons_zero, List.set_cons_succ]
              refine wpAnyH_take (i := 9) (v := ?_) rfl (by kernel_rfl) (by kernel_rfl) (by kernel_rfl) (fun _ _ _ h => h) (Or.inl ⟨by rfl, ?_⟩) hHeld ?_
              rotate_left
              · (intro w hSw; (try dsimp only at hSw); go_simp <;> with_reducible rfl)
              change wpAnyH _ _ _ _ _ _ _ (Act.put _ (some 169) _) _
              try simp only [Act.put, List.setIfInBounds_toArray, List.set_cons_zero, List.set_cons_succ]
              refine wpAnyH_take (i := 10) (v := ?_) rfl (by kernel_rfl) (by kernel_rfl) (by kernel_rfl) (fun _ _ _ h => h) (Or.inl ⟨by rfl, ?_⟩) hHeld ?_
              rotate_left
              · (intro w hSw; (try dsimp only at hSw); go_simp <;> with_reducible rfl)
              change wpAnyH _ _ _ _ _ _ _ (Act.put _ (some 170) _) _
              try simp only [Act.put, List.setIfInBounds_toArray, List.set_cons_zero, List.set_cons_succ]
              refine wpAnyH_ready (rs := [11]) (by kernel_rfl) (by simp) ?_
              refine AllReadyH.cons rfl (fun K hK => ?_) ?_
              · go_simp
                refine hK.out _ _ (below_alloc1 hHeld) (fun hHeld => ?_)
                clear hK K
                try simp only [Act.put, List.setIfInBounds_toArray, List.set_cons_zero, List.set_cons_succ]
                have hnw := heap_alloc_new wq (Obj.cells #[.int .i64 0, .int .i64 0, .int .i64 0] 51 (0, 0))
                refine wpAnyH_ready (rs := [12]) (by kernel_rfl) (by simp) ?_
                refine AllReadyH.cons rfl (fun K hK => ?_) ?_
                · rw [if_pos (by rfl)]
                  refine wp_store_mid 51 _ _ rfl (wq.heap.size) 0 #[.int .i64 t1v, .int .i64 t2v, .int .i64 t3v] rfl rfl (one_there hnw) (by kernel_rfl) (by simp [Value.oneCell']) ?_
                  change K (Act.put _ none _) _
                  have HB := Lib.hid (one_below (a := .int .i64 t1v) (b := .int .i64 t2v) (c := .int .i64 t3v) hHeld (hqs))
                  have BX := Lib.hid (one_cells (a := .int .i64 t1v) (b := .int .i64 t2v) (c := .int .i64 t3v) hnw)
                  refine hK.out _ _ (HB.out) (fun hHeld => ?_)
                  clear hK K
                  try simp only [Act.put, List.setIfInBounds_toArray, List.set_cons_zero, List.set_cons_succ]
                  refine wpAnyH_take (i := 13) (v := ?_) rfl (by kernel_rfl) (by kernel_rfl) (by kernel_rfl) (fun _ _ _ h => h) (Or.inl ⟨by rfl, ?_⟩) hHeld ?_
                  rotate_left
                  · (intro w hSw; (try dsimp only at hSw); go_simp <;> with_reducible rfl)
                  change wpAnyH _ _ _ _ _ _ _ (Act.put _ (some 22) _) _
                  try simp only [Act.put, List.setIfInBounds_toArray, List.set_cons_zero, List.set_cons_succ]
                  refine wpAnyH_done (by kernel_rfl) ?_ _
                  clear hHeld
                  (try dsimp only [Act.put])
                  (try simp only [Act.put, List.setIfInBounds_toArray, List.set_cons_zero, List.set_cons_succ])
                  go_wp2
                  go_meet
                  exact ⟨⟨_, rfl, BX.out.1, BX.out.2.1, BX.out.2.2⟩, rfl, HB.out⟩
                exact AllReadyH.nil
              exact AllReadyH.nil
            refine AllReadyH.cons rfl (fun K hK => ?_) ?_
            · go_simp
              refine hK.out _ _ (below_alloc1 hHeld) (fun hHeld => ?_)
              clear hK K
              try simp only [Act.put, List.setIfInBounds_toArray, List.set_cons_zero, List.set_cons_succ]
              refine wpAnyH_ready (rs := [7]) (by kernel_rfl) (by simp) ?_
              refine AllReadyH.cons rfl (fun K hK => ?_) ?_
              · go_simp; go_at_call 27; refine (CY.out _ hHeld).mono ?_; rintro e wq ⟨rfl, hbq⟩; (try go_wp2_with fail)
                have hnw : wq.heap[wr.heap.size]? = some (Obj.cells #[.int .i64 0, .int .i64 0, .int .i64 0] 51 (0, 0)) := (hbq.block wr.heap.size (by simp)).trans (heap_alloc_new wr.drew _)
                refine hK.out _ _ (Below.trans hHeld (Below.mono hbq hHeld.size)) (fun hHeld => ?_)
                clear hK K
                try simp only [Act.put, List.setIfInBounds_toArray, List.set_cons_zero, List.set_cons_succ]
                refine wpAnyH_take (i := 8) (v := ?_) rfl (by kernel_rfl) (by kernel_rfl) (by kernel_rfl) (fun _ _ _ h => h) (Or.inl ⟨by rfl, ?_⟩) hHeld ?_
                rotate_left
                · (intro w hSw; (try dsimp only at hSw); go_simp <;> with_reducible rfl)
                change wpAnyH _ _ _ _ _ _ _ (Act.put _ (some 160) _) _
                try simp only [Act.put, List.setIfInBounds_toArray, List.set_cons_zero, List.set_cons_succ]
                refine wpAnyH_take (i := 9) (v := ?_) rfl (by kernel_rfl) (by kernel_rfl) (by kernel_rfl) (fun _ _ _ h => h) (Or.inl ⟨by rfl, ?_⟩) hHeld ?_
                rotate_left
                · (intro w hSw; (try dsimp only at hSw); go_simp <;> with_reducible rfl)
                change wpAnyH _ _ _ _ _ _ _ (Act.put _ (some 169) _) _
                try simp only [Act.put, List.setIfInBounds_toArray, List.set_cons_zero, List.set_cons_succ]
                refine wpAnyH_take (i := 10) (v := ?_) rfl (by kernel_rfl) (by kernel_rfl) (by kernel_rfl) (fun _ _ _ h => h) (Or.inl ⟨by rfl, ?_⟩) hHeld ?_
                rotate_left
                · (intro w hSw; (try dsimp only at hSw); go_simp <;> with_reducible rfl)
                change wpAnyH _ _ _ _ _ _ _ (Act.put _ (some 170) _) _
                try simp only [Act.put, List.setIfInBounds_toArray, List.set_cons_zero, List.set_cons_succ]
                refine wpAnyH_ready (rs := [12]) (by kernel_rfl) (by simp) ?_
                refine AllReadyH.cons rfl (fun K hK => ?_) ?_
                · rw [if_pos (by rfl)]
                  refine wp_store_mid 51 _ _ rfl (wr.heap.size) 0 #[.int .i64 t1v, .int .i64 t2v, .int .i64 t3v] rfl rfl (one_there hnw) (by kernel_rfl) (by simp [Value.oneCell']) ?_
                  change K (Act.put _ none _) _
                  have HB := Lib.hid (one_below (a := .int .i64 t1v) (b := .int .i64 t2v) (c := .int .i64 t3v) hHeld (Nat.le_refl _))
                  have BX := Lib.hid (one_cells (a := .int .i64 t1v) (b := .int .i64 t2v) (c := .int .i64 t3v) hnw)
                  refine hK.out _ _ (HB.out) (fun hHeld => ?_)
                  clear hK K
                  try simp only [Act.put, List.setIfInBounds_toArray, List.set_cons_zero, List.set_cons_succ]
                  refine wpAnyH_take (i := 13) (v := ?_) rfl (by kernel_rfl) (by kernel_rfl) (by kernel_rfl) (fun _ _ _ h => h) (Or.inl ⟨by rfl, ?_⟩) hHeld ?_
                  rotate_left
                  · (intro w hSw; (try dsimp only at hSw); go_simp <;> with_reducible rfl)
                  change wpAnyH _ _ _ _ _ _ _ (Act.put _ (some 22) _) _
                  try simp only [Act.put, List.setIfInBounds_toArray, List.set_cons_zero, List.set_cons_succ]
                  refine wpAnyH_done (by kernel_rfl) ?_ _
                  clear hHeld
                  (try dsimp only [Act.put])
                  (try simp only [Act.put, List.setIfInBounds_toArray, List.set_cons_zero, List.set_cons_succ])
                  go_wp2
                  go_meet
                  exact ⟨⟨_, rfl, BX.out.1, BX.out.2.1, BX.out.2.2⟩, rfl, HB.out⟩
                exact AllReadyH.nil
              exact AllReadyH.nil
            exact AllReadyH.nil
          case rest =>
          obtain ⟨⟨tb, rfl, c0, c1, c2⟩, rfl, hbx⟩ := hcut
          obtain ⟨w5, rfl⟩ : ∃ z, z = wc := ⟨_, rfl⟩
          have p0 := cell_below hbx p0; have q0 := cell_below hbx q0; have q1 := cell_below hbx q1; have q2 := cell_below hbx q2
          have B5 := Lib.hid (BR.out.trans (hbx.mono BR.out.size))
          clear hbx z0 z1 NC k0 k1 k2 k3 k4 k5 k6 k7 k8 k9 k10 k11 k12 k13 k14 k15 k16
          go_upto_region 18 with fail
          go_cut [210] (fun s210 wx => s210 = .bool false ∧ Below w5.heap.size w5 wx)
          case first => as_aux_lemma =>
            have sw : IntKind.i64.wrap (u2 - x2) = u2 - x2 := IntWalk.i64_in _ (by omega)
            by_cases g1 : x2 < u2
            · have d1 : decide (x2 < u2) = true := decide_eq_true g1
              by_cases g2 : u2 - x2 ≤ 500000
              · have d2 : decide (u2 - x2 ≤ 500000) = true := decide_eq_true g2
                obtain ⟨rfl, rfl, rfl, rfl⟩ := OK.out g1 g2
                rw [errV_0]
                clear g1 g2 OK
                go_quiet (fail)
                go_wp2
                go_meet
                exact ⟨by first | rfl | simp, below_drewN (Below.refl _ _) _⟩
              · have d2 : decide (u2 - x2 ≤ 500000) = false := decide_eq_false g2
                clear g1 g2 OK
                go_quiet (fail)
                go_wp2
                go_meet
                exact ⟨by first | rfl | simp, below_drewN (Below.refl _ _) _⟩
            · have d1 : decide (x2 < u2) = false := decide_eq_false g1
              clear g1 OK
              go_quiet (fail)
              go_wp2
              go_meet
              exact ⟨by first | rfl | simp, below_drewN (Below.refl _ _) _⟩
          case rest => as_aux_lemma =>
          obtain ⟨rfl, hbx⟩ := hcut
          have B6 := Lib.hid (B5.out.trans (hbx.mono B5.out.size))
          clear hbx p0 q0 q1 q2 c0 c1 c2
          go_wp2
          go_roundg (n - (k + 1))
          case measure => rw [G.out]; omega
          case rel => exact ⟨k + 1, by omega, by go_num, rfl, B6.out⟩
        · have t2 : decide ((k : Int) < (10 : Int)) = false := decide_eq_false (by omega)
          have t2b : decide (k < 10) = false := decide_eq_false hlt2
          clear hb
          go_wp2
          go_meet
          exact BR.out
      · have t1 : decide ((k : Int) + 1 < (n : Int)) = false := decide_eq_false (by omega)
        clear hb
        go_wp2
        go_meet
        exact BR.out
  case rest => as_aux_lemma =>
  obtain ⟨w5, rfl⟩ : ∃ z, z = wc := ⟨_, rfl⟩
  have B35 := Lib.hid (B34.out.trans (hcut.mono B34.out.size))
  have B5 := Lib.hid (B4.out.trans (hcut.mono B4.out.size))
  have E5 := Lib.hid (EC.out.below B5.out)
  have V5 := Lib.hid (V3.out.tms.below B35.out)
  have z0 := cell_below B5.out Z0.out; have z1 := cell_below B5.out Z1.out
  clear hcut B34 B4 E3 HD V3
  by_cases g1 : c < a
  · have d1 : decide (c < a) = true := decide_eq_true g1
    clear g1
    go_wp2
    go_ret
    exact ⟨rfl, BW.out.trans (B5.out.mono BW.out.size)⟩
  have d1 : decide (c < a) = false := decide_eq_false g1
  by_cases g2 : b < c
  · have d2 : decide (b < c) = true := decide_eq_true g2
    clear g1 g2
    go_wp2
    go_ret
    exact ⟨rfl, BW.out.trans (B5.out.mono BW.out.size)⟩
  have d2 : decide (b < c) = false := decide_eq_false g2
  by_cases g3 : c < 1
  · have d3 : decide (c < 1) = true := decide_eq_true g3
    clear g1 g2 g3
    go_wp2
    go_ret
    exact ⟨rfl, BW.out.trans (B5.out.mono BW.out.size)⟩
  have d3 : decide (c < 1) = false := decide_eq_false g3
  have hsp := TF.out.split c (by omega) (by omega)
  have tc := timeB_mid TF.out.ta TF.out.tb (show a ≤ c by omega) (show c ≤ b by omega)
  have hsn := TF.out.span
  have hln := TF.out.len
  obtain ⟨R1, hR1⟩ : ∃ z, z = tmsOf ah Z T M N C ln a c := ⟨_, rfl⟩
  obtain ⟨R2, hR2⟩ : ∃ z, z = tmsOf ah Z T M N C ln c b := ⟨_, rfl⟩
  rw [← hR1, ← hR2] at hsp
  have hl2 := congrArg List.length hsp
  rw [List.length_append] at hl2
  have L1 := Lib.hid (show Calls Tryz.prog 28 _ w5 (BetP ln 0 R1 w5) by
    have h := BF.out a c w5 B5.out
    rw [← hR1, F0.out, ZF0.out, betE_mk TF.out.ta tc (by omega) (by omega), fullN_mk (by omega)] at h; exact h)
  have L2 := Lib.hid (show ∀ wx, Below w5.heap.size w5 wx → Calls Tryz.prog 28 _ wx (BetP ln 0 R2 wx) from fun wx hbx => by
    have h := BF.out c b wx (B5.out.trans (hbx.mono B5.out.size))
    rw [← hR2, F0.out, ZF0.out, betE_mk tc TF.out.tb (by omega) (by omega), fullN_mk (by omega)] at h; exact h)
  have SP := Lib.hid hsp
  have rl1 : R1.length ≤ 200 := by omega
  have rl2 : R2.length ≤ 200 := by omega
  have NE2 := Lib.hid (NE.out)
  clear g1 g2 g3 hsp hR1 hR2 hsn hln hl2 tc
  go_upto_region 22 with fail
  clear d1 d2 d3
  have k0 := E5.out.k0; have k1 := E5.out.k1; have k2 := E5.out.k2; have k3 := E5.out.k3; have k4 := E5.out.k4; have k5 := E5.out.k5; have k6 := E5.out.k6; have k7 := E5.out.k7; have k8 := E5.out.k8; have k9 := E5.out.k9; have k10 := E5.out.k10; have k11 := E5.out.k11; have k12 := E5.out.k12; have k13 := E5.out.k13; have k14 := E5.out.k14; have k15 := E5.out.k15; have k16 := E5.out.k16
  go_cut [23, 24] (fun s23 s24 wx => s24 = .nilIface ∧ OwnT ln w5.heap.size wx s23 R1 ∧ Below w5.heap.size w5 wx)
  case first => as_aux_lemma =>
    go_wp2_with fail
    refine L1.out.mono ?_; rintro e w6 ⟨v, rfl, hv, hb⟩
    rw [if_pos rfl] at hv
    rw [errV_0]
    have HV6 := Lib.hid hv; have HB := Lib.hid hb
    clear hv hb z0 z1 k0 k1 k2 k3 k4 k5 k6 k7 k8 k9 k10 k11 k12 k13 k14 k15 k16
    go_wp2
    go_meet
    exact ⟨rfl, HV6.out, HB.out⟩
  case rest => as_aux_lemma =>
  clear k0 k1 k2 k3 k4 k5 k6 k7 k8 k9 k10 k11 k12 k13 k14 k15 k16
  obtain ⟨rfl, hv1, hb6⟩ := hcut
  obtain ⟨w6, rfl⟩ : ∃ z, z = wc := ⟨_, rfl⟩
  have E6 := Lib.hid (E5.out.below hb6)
  have z0 := cell_below hb6 z0; have z1 := cell_below hb6 z1
  have B6 := Lib.hid hb6; have O1 := Lib.hid hv1
  have LL2 := Lib.hid (L2.out w6 hb6)
  clear hb6 hv1
  have k0 := E6.out.k0; have k1 := E6.out.k1; have k2 := E6.out.k2; have k3 := E6.out.k3; have k4 := E6.out.k4; have k5 := E6.out.k5; have k6 := E6.out.k6; have k7 := E6.out.k7; have k8 := E6.out.k8; have k9 := E6.out.k9; have k10 := E6.out.k10; have k11 := E6.out.k11; have k12 := E6.out.k12; have k13 := E6.out.k13; have k14 := E6.out.k14; have k15 := E6.out.k15; have k16 := E6.out.k16
  go_upto_region 23 with fail
  go_cut [25, 26] (fun s25 s26 wx => s26 = .nilIface ∧ OwnT ln w6.heap.size wx s25 R2 ∧ Below w6.heap.size w6 wx)
  case first => as_aux_lemma =>
    go_wp2_with fail
    refine LL2.out.mono ?_; rintro e w7 ⟨v, rfl, hv, hb⟩
    rw [if_pos rfl] at hv
    rw [errV_0]
    have HV7 := Lib.hid hv; have HB := Lib.hid hb
    clear hv hb z0 z1 k0 k1 k2 k3 k4 k5 k6 k7 k8 k9 k10 k11 k12 k13 k14 k15 k16
    go_wp2
    go_meet
    exact ⟨rfl, HV7.out, HB.out⟩
  case rest =>
  clear z0 z1 k0 k1 k2 k3 k4 k5 k6 k7 k8 k9 k10 k11 k12 k13 k14 k15 k16
  obtain ⟨rfl, hv2, hb7⟩ := hcut
  obtain ⟨w7, rfl⟩ : ∃ z, z = wc := ⟨_, rfl⟩
  have O7 := Lib.hid (own_kept O1.out hb7)
  have B7 := Lib.hid (B6.out.trans (hb7.mono B6.out.size))
  have V7 := Lib.hid hv2.tms
  clear hb7 hv2
  obtain ⟨it, hit, ht0, ht1, ht2⟩ := info_parts timeInfo
  go_wp2_with (at_builtin; refine wpList_append_row rfl _ _ 57 rfl 51 it _ 3 24 Tryz.underlying57 hit ht0 ht1 ht2 rfl (by decide) w5.heap.size _ _ R1.length R2.length (R1.flatMap (encT ln)) (R2.flatMap (encT ln)) rfl rfl O7.out V7.out (fun u hu => by obtain ⟨x, -, hx⟩ := List.mem_flatMap.1 hu; simp [encT] at hx; rcases hx with rfl | rfl | rfl <;> rfl) B7.out.size (by omega) (by unfold maxLen; omega) ?_)
  intro v8 w8 hown8 hb8
  have O8 := Lib.hid (show TmsR ln w8 v8 R by rw [← SP.out]; have := ownsRow_reads hown8; unfold TmsR; rw [List.length_append, List.flatMap_append]; exact this)
  have B8 := Lib.hid (B7.out.trans hb8)
  have VV := Lib.hid (show TmsR ln w8 (.slice va n vc) R by rw [NE2.out]; exact V5.out.below B8.out)
  clear hown8 hb8
  go_wp2_with fail
  refine (times_same ln _ _ R _ O8.out VV.out).mono ?_; rintro e w9 ⟨rfl, hb9⟩
  have B9 := Lib.hid (B8.out.trans (hb9.mono B8.out.size))
  clear hb9
  go_wp2
  go_ret
  exact ⟨rfl, BW.out.trans ((B5.out.trans (B9.out.mono B5.out.size)).mono BW.out.size)⟩

end Go.Proofs.YtkpmddlinlcobaaGreatDoor
