/- The law EventOnce: what does not repeat, and has no more times, has one, or none: the walk. -/
import Derived.Test.YtdkcgggnkhbkkaaDoorEvP
import Derived.Test.YtdkcgggnkhbkkaaDoorLists
import Derived.Deep.MidRow
namespace Go.Proofs.YtdkcgggnkhbkkaaDoor
open Go.RowKit Go.Shelf
set_option linter.unusedSimpArgs false
set_option linter.unusedVariables false

theorem once_fact : evF [97] [] 700 0 false 0 0 0 0 [] [] [] [] [] [] [] [] = 0 := by decide +kernel

theorem once_local : localE (evF [97] [] 700 0 false 0 0 0 0 [] [] [] [] [] [] [] []) 1 1000 = 0 := by rw [once_fact]; decide

theorem compact_one (x : Int) : Lib.compact [x] = [x] := by
  show ((List.range 1).filter (Lib.keeps #[x])).map (#[x][·]!) = [x]
  rw [show List.range 1 = [0] from rfl, List.filter_cons_of_pos (Lib.keeps_lt_one _ 0 (by omega))]
  rfl

theorem compact_nil : Lib.compact ([] : List Int) = [] := by
  simp [Lib.compact, Lib.compactUpTo, Lib.keptUpTo]

theorem once_times : ofL [700] [] [] 1 1000 = [700] := by
  have e : srt (inR 1 1000 [700] ++ inR 1 1000 []) = [700] := by simp [inR, srt]
  rw [ofL, e, compact_one]
  simp [notIn, inB]

theorem once_of (st a b : Int) (N : List Int) : ofL [st] [] N a b = if inB N st = true ∨ st < a ∨ b < st then [] else [st] := by
  by_cases h : a ≤ st ∧ st ≤ b
  · rw [ofL, inR_yes h.1 h.2]
    have e : srt ([st] ++ inR a b []) = [st] := by simp [inR, srt]
    rw [e, compact_one, notIn]
    by_cases hn : inB N st = true
    · rw [if_pos (.inl hn)]; simp [hn]
    · rw [if_neg (by rintro (h1 | h1 | h1) <;> first | exact hn h1 | omega)]; simp [hn]
  · rw [ofL, inR_no h, if_pos (by omega)]
    have e : srt ([] ++ inR a b []) = [] := by simp [inR, srt]
    rw [e, compact_nil]; rfl

theorem once_cells (w : World) (eb : Nat) (nm tx : ByteArray) (st ln : Int) (rp : Bool) (fr ev ct ti : Int) (vm vd vw vp vM vN vC vA : Value) (t : TypeId)
    (h : w.heap[eb]? = some (.cells #[.string nm, .string tx, .int .i64 st, .int .i64 ln, .bool rp, .int .i64 fr, .int .i64 ev, .int .i64 ct, .int .i64 ti, vm, vd, vw, vp, vM, vN, vC, vA] t (0, 0))) :
    EvC (((w.setCell ⟨eb, 4, none⟩ (.bool false)).setCells eb 5 [.int .i64 0, .int .i64 0, .int .i64 0, .int .i64 0, .slice none 0 0, .slice none 0 0, .slice none 0 0, .slice none 0 0]).setCell ⟨eb, 13, none⟩ (.slice none 0 0)) eb nm tx st ln false 0 0 0 0 (.slice none 0 0) (.slice none 0 0) (.slice none 0 0) (.slice none 0 0) (.slice none 0 0) vN vC vA := by
  constructor <;> simp [World.setCells, World.setCell, World.cell?, h, Array.getElem?_modify]

theorem once_there (w : World) (eb : Nat) (nm tx : ByteArray) (st ln : Int) (rp : Bool) (fr ev ct ti : Int) (vm vd vw vp vM vN vC vA : Value) (t : TypeId)
    (h : w.heap[eb]? = some (.cells #[.string nm, .string tx, .int .i64 st, .int .i64 ln, .bool rp, .int .i64 fr, .int .i64 ev, .int .i64 ct, .int .i64 ti, vm, vd, vw, vp, vM, vN, vC, vA] t (0, 0))) :
    (w.setCell ⟨eb, 4, none⟩ (.bool false)).there eb 5 8 := by
  intro j hj
  have : j = 0 ∨ j = 1 ∨ j = 2 ∨ j = 3 ∨ j = 4 ∨ j = 5 ∨ j = 6 ∨ j = 7 := by omega
  rcases this with rfl | rfl | rfl | rfl | rfl | rfl | rfl | rfl <;> simp [World.setCell, World.cell?, World.frozen?, h, Array.getElem?_modify]

theorem once_mid (w : World) (eb : Nat) (nm tx : ByteArray) (st ln : Int) (rp : Bool) (fr ev ct ti : Int) (vm vd vw vp vM vN vC vA : Value) (t : TypeId)
    (h : w.heap[eb]? = some (.cells #[.string nm, .string tx, .int .i64 st, .int .i64 ln, .bool rp, .int .i64 fr, .int .i64 ev, .int .i64 ct, .int .i64 ti, vm, vd, vw, vp, vM, vN, vC, vA] t (0, 0))) :
    ((w.setCell ⟨eb, 4, none⟩ (.bool false)).setCells eb 5 [.int .i64 0, .int .i64 0, .int .i64 0, .int .i64 0, .slice none 0 0, .slice none 0 0, .slice none 0 0, .slice none 0 0]).cell? ⟨eb, 13, none⟩ = some vM ∧
    ((w.setCell ⟨eb, 4, none⟩ (.bool false)).setCells eb 5 [.int .i64 0, .int .i64 0, .int .i64 0, .int .i64 0, .slice none 0 0, .slice none 0 0, .slice none 0 0, .slice none 0 0]).frozen? ⟨eb, 13, none⟩ = false := by
  constructor <;> simp [World.setCells, World.setCell, World.cell?, World.frozen?, h, Array.getElem?_modify]

theorem once_setCells (B : Nat) (w0 : World) (eb : Nat) : ∀ (vs : List Value) (o : Nat) {w : World}, Below B w0 w → B ≤ eb → Below B w0 (w.setCells eb o vs)
  | [], _, _, h, _ => h
  | v :: r, o, _, h, hb => once_setCells B w0 eb r (o + 1) (h.setCell hb v) hb

theorem once_call (w : World) : Calls Tryd.prog 42 #[.agg #[.string { data := #[97] }, .string { data := #[] }, .int .i64 700, .int .i64 0, .bool false, .int .i64 0, .int .i64 0, .int .i64 0, .int .i64 0, .slice none 0 0, .slice none 0 0, .slice none 0 0, .slice none 0 0, .slice none 0 0, .slice none 0 0, .slice none 0 0, .slice none 0 0], .int .i64 1, .int .i64 1000] w (LocP 0 [700] w) := by
  have h := local_once [97] [] 700 0 0 0 0 0 (.slice none 0 0) (.slice none 0 0) (.slice none 0 0) (.slice none 0 0) (.slice none 0 0) (.slice none 0 0) (.slice none 0 0) (.slice none 0 0) [] [] [] [] [] [] [] [] 1 1000 w (intsR_nil _) (intsR_nil _) (reads_nil _ _) (intsR_nil _) (intsR_nil _) (intsR_nil _) (reads_nil _ _) (reads_nil _ _) (by decide) (by decide) (by decide)
  rw [once_local, once_times] at h
  exact h

set_option maxRecDepth 100000 in
set_option maxHeartbeats 8000000 in
theorem eventOnce_any (nm tx : List UInt8) (st ln : Int) (rp : Bool) (fr ev ct ti : Int) (vm vd vw vp vM vN vC vA : Value) (N : List Int) (C : List (Int × Int)) (A : List Alm) (a b : Int) (w : World)
    (hvm : vm.oneCell' = true) (hvd : vd.oneCell' = true) (hvw : vw.oneCell' = true) (hvp : vp.oneCell' = true) (hvM : vM.oneCell' = true) (hN : IntsR w vN N) (hC : PairsR w vC C) (hA : AlmsR w vA A)
    (hnm : nm.length ≤ 140737488351232) (htx : tx.length ≤ 140737488351232) (hcl : C.length ≤ 8796093022208) :
    Calls Tryd.prog 7 #[.agg #[.string (bs nm), .string (bs tx), .int .i64 st, .int .i64 ln, .bool rp, .int .i64 fr, .int .i64 ev, .int .i64 ct, .int .i64 ti, vm, vd, vw, vp, vM, vN, vC, vA], .int .i64 a, .int .i64 b] w fun e w' => e = .returned (.bool true) ∧ Below w.heap.size w w' := by
  obtain ⟨aN, kN, rfl, -, -, -⟩ := intsR_open hN
  obtain ⟨aC, kC, rfl, -, -, -⟩ := pairsR_open hC
  obtain ⟨aA, kA, rfl, -, -, -⟩ := almsR_open hA
  obtain ⟨snm, hsnm⟩ : ∃ s, s = bs nm := ⟨_, rfl⟩
  obtain ⟨stx, hstx⟩ : ∃ s, s = bs tx := ⟨_, rfl⟩
  obtain ⟨eb, heb⟩ : ∃ x, x = w.heap.size := ⟨_, rfl⟩
  obtain ⟨w0, hw0⟩ : ∃ x, x = w.alloc (.cells #[.string snm, .string stx, .int .i64 st, .int .i64 ln, .bool rp, .int .i64 fr, .int .i64 ev, .int .i64 ct, .int .i64 ti, vm, vd, vw, vp, vM, .slice aN N.length kN, .slice aC C.length kC, .slice aA A.length kA] 78) := ⟨_, rfl⟩
  have hb0 : Below w.heap.size w w0 := by rw [hw0]; exact (Below.refl _ _).alloc (Nat.le_refl _) _
  have hs0 : w0.heap.size = eb + 1 := by rw [hw0, heb]; simp
  have hh0 : w0.heap[eb]? = some (.cells #[.string snm, .string stx, .int .i64 st, .int .i64 ln, .bool rp, .int .i64 fr, .int .i64 ev, .int .i64 ct, .int .i64 ti, vm, vd, vw, vp, vM, .slice aN N.length kN, .slice aC C.length kC, .slice aA A.length kA] 78 (0, 0)) := by rw [hw0, heb]; exact heap_alloc_new _ _
  obtain ⟨w1, hw1⟩ : ∃ x, x = w0.alloc (.cells #[.string { data := #[97] }, .string { data := #[] }, .int .i64 700, .int .i64 0, .bool false, .int .i64 0, .int .i64 0, .int .i64 0, .int .i64 0, .slice none 0 0, .slice none 0 0, .slice none 0 0, .slice none 0 0, .slice none 0 0, .slice none 0 0, .slice none 0 0, .slice none 0 0] 78) := ⟨_, rfl⟩
  have hb1 : Below w0.heap.size w0 w1 := by rw [hw1]; exact (Below.refl _ _).alloc (Nat.le_refl _) _
  have ec1 := hw1 ▸ evC_new w0 78 { data := #[97] } { data := #[] } 700 0 false 0 0 0 0 (.slice none 0 0) (.slice none 0 0) (.slice none 0 0) (.slice none 0 0) (.slice none 0 0) (.slice none 0 0) (.slice none 0 0) (.slice none 0 0)
  have W1 := Lib.hid hw1; have B1 := Lib.hid hb1; have EC1 := Lib.hid ec1
  clear hw1 hb1 ec1
  rw [← hsnm, ← hstx]
  have W0 := Lib.hid hw0; have EB := Lib.hid heb; have SN := Lib.hid hsnm; have ST := Lib.hid hstx; have S0 := Lib.hid hs0; have H0 := Lib.hid hh0; have B0 := Lib.hid hb0
  have RN := Lib.hid hN; have RC := Lib.hid hC; have RA := Lib.hid hA
  clear hw0 heb hsnm hstx hs0 hh0 hb0 hN hC hA
  go_enter Tryd.func7, Tryd.ntmps7
  go_upto_region 1 with fail
  rw [← W0.out]
  rw [← EB.out]
  go_upto_region 2 with fail
  rw [← W1.out]
  go_cut [8, 9] (fun s8 s9 wx => (∃ b2 o2 c2, s8 = .slice (some ⟨b2, o2, none⟩) 1 c2 ∧ wx.cell? ⟨b2, o2, none⟩ = some (.int .i64 700)) ∧ s9 = .nilIface ∧ Below w1.heap.size w1 wx)
  case first => as_aux_lemma =>
    have k0 := EC1.out.k0; have k1 := EC1.out.k1; have k2 := EC1.out.k2; have k3 := EC1.out.k3; have k4 := EC1.out.k4; have k5 := EC1.out.k5; have k6 := EC1.out.k6; have k7 := EC1.out.k7; have k8 := EC1.out.k8; have k9 := EC1.out.k9; have k10 := EC1.out.k10; have k11 := EC1.out.k11; have k12 := EC1.out.k12; have k13 := EC1.out.k13; have k14 := EC1.out.k14; have k15 := EC1.out.k15; have k16 := EC1.out.k16
    go_wp2_with fail
    refine (once_call _).mono ?_; rintro e w2 ⟨v2, rfl, hv2, hb2⟩
    rw [if_pos rfl] at hv2
    obtain ⟨a2, c2, rfl, -, -, hds⟩ := intsR_open hv2
    obtain ⟨b2, o2, rfl, hcs⟩ := hds (by simp)
    have c0 := hcs 0 (by simp)
    have C0 := Lib.hid (show w2.cell? ⟨b2, o2, none⟩ = some (.int .i64 700) from c0)
    have B2 := Lib.hid hb2
    rw [errV_0]
    clear hcs c0 hds hv2 hb2 k0 k1 k2 k3 k4 k5 k6 k7 k8 k9 k10 k11 k12 k13 k14 k15 k16
    go_wp2
    go_meet
    exact ⟨⟨_, _, _, rfl, C0.out⟩, rfl, B2.out⟩
  case rest =>
  obtain ⟨⟨b2, o2, c2, rfl, hc⟩, rfl, hb2⟩ := hcut
  have B2 := Lib.hid (B1.out.trans (hb2.mono B1.out.size))
  obtain ⟨w2, rfl⟩ : ∃ x, x = wc := ⟨_, rfl⟩
  clear hb2
  go_upto_region 5 with fail
  have hh := (B2.out.block eb (by have := S0.out; omega)).trans H0.out
  have kc : w2.cell? ⟨eb, 4, none⟩ = some (.bool rp) := by simp [World.cell?, hh]
  have kf : w2.frozen? ⟨eb, 4, none⟩ = false := by simp [World.frozen?, hh]
  have H2 := Lib.hid hh
  clear hh hc
  go_cut [] (fun wx => wx = w2.setCell ⟨eb, 4, none⟩ (.bool false))
  case first => as_aux_lemma =>
    go_wp2
    go_meet
    rfl
  case rest =>
  have T5 := Lib.hid (once_there w2 eb _ _ _ _ _ _ _ _ _ _ _ _ _ _ _ _ _ _ H2.out)
  have E7 := Lib.hid (once_cells w2 eb _ _ _ _ _ _ _ _ _ _ _ _ _ _ _ _ _ _ H2.out)
  have M6 := Lib.hid (once_mid w2 eb _ _ _ _ _ _ _ _ _ _ _ _ _ _ _ _ _ _ H2.out)
  rw [← hcut] at T5 E7 M6
  have B5 := Lib.hid (show Below w.heap.size w0 wc by rw [hcut]; exact ((B2.out.mono (by have := S0.out; have := EB.out; omega))).setCell (by rw [EB.out]; exact Nat.le_refl _) _)
  obtain ⟨w5, rfl⟩ : ∃ x, x = wc := ⟨_, rfl⟩
  clear kc kf hcut H2 B2
  go_upto_region 6 with fail
  go_cut [] (fun wx => wx = w5.setCells eb 5 [.int .i64 0, .int .i64 0, .int .i64 0, .int .i64 0, .slice none 0 0, .slice none 0 0, .slice none 0 0, .slice none 0 0])
  case first => as_aux_lemma =>
    go_wp2_with (refine wpList_store_mid rfl 74 _ _ rfl eb 5 #[.int .i64 0, .int .i64 0, .int .i64 0, .int .i64 0, .slice none 0 0, .slice none 0 0, .slice none 0 0, .slice none 0 0] rfl rfl T5.out (by kernel_rfl) (by simp [Value.oneCell']) ?_)
    go_meet
    rfl
  case rest =>
  have B6 := Lib.hid (show Below w.heap.size w0 wc by rw [hcut]; exact once_setCells _ _ _ _ _ B5.out (by rw [EB.out]; exact Nat.le_refl _))
  rw [← hcut] at E7 M6
  obtain ⟨w6, rfl⟩ : ∃ x, x = wc := ⟨_, rfl⟩
  clear hcut B5 T5
  go_upto_region 7 with fail
  obtain ⟨kc, kf⟩ := M6.out
  go_cut [] (fun wx => wx = w6.setCell ⟨eb, 13, none⟩ (.slice none 0 0))
  case first => as_aux_lemma =>
    go_wp2
    go_meet
    rfl
  case rest =>
  have B7 := Lib.hid (show Below w.heap.size w0 wc by rw [hcut]; exact B6.out.setCell (by rw [EB.out]; exact Nat.le_refl _) _)
  rw [← hcut] at E7
  obtain ⟨w7, rfl⟩ : ∃ x, x = wc := ⟨_, rfl⟩
  clear hcut B6 kc kf M6
  obtain ⟨X, hX⟩ : ∃ x, x = localE (evF nm tx st ln false 0 0 0 0 [] [] [] [] [] N C A) a b := ⟨_, rfl⟩
  obtain ⟨R, hR⟩ : ∃ x, x = ofL [st] [] N a b := ⟨_, rfl⟩
  have RN7 := Lib.hid (RN.out.below (B0.out.trans B7.out)); have RC7 := Lib.hid (RC.out.below (B0.out.trans B7.out)); have RA7 := Lib.hid (RA.out.below (B0.out.trans B7.out))
  have LC := Lib.hid (show Calls Tryd.prog 42 #[.agg #[.string snm, .string stx, .int .i64 st, .int .i64 ln, .bool false, .int .i64 0, .int .i64 0, .int .i64 0, .int .i64 0, .slice none 0 0, .slice none 0 0, .slice none 0 0, .slice none 0 0, .slice none 0 0, .slice aN N.length kN, .slice aC C.length kC, .slice aA A.length kA], .int .i64 a, .int .i64 b] w7 (LocP X R w7) by
    rw [SN.out, ST.out, hX, hR]
    exact local_once nm tx st ln 0 0 0 0 _ _ _ _ _ _ _ _ [] [] [] [] [] N C A a b w7 (intsR_nil _) (intsR_nil _) (reads_nil _ _) (intsR_nil _) (intsR_nil _) RN7.out RC7.out RA7.out hnm htx hcl)
  have RS := Lib.hid (hR.trans (once_of st a b N))
  clear hX hR
  go_upto_region 8 with fail
  have k0 := E7.out.k0; have k1 := E7.out.k1; have k2 := E7.out.k2; have k3 := E7.out.k3; have k4 := E7.out.k4; have k5 := E7.out.k5; have k6 := E7.out.k6; have k7 := E7.out.k7; have k8 := E7.out.k8; have k9 := E7.out.k9; have k10 := E7.out.k10; have k11 := E7.out.k11; have k12 := E7.out.k12; have k13 := E7.out.k13; have k14 := E7.out.k14; have k15 := E7.out.k15; have k16 := E7.out.k16
  go_cut [10, 11] (fun s10 s11 wx => ∃ v, s10 = v ∧ s11 = errV X ∧ IntsR wx v (if X = 0 then R else []) ∧ Below w7.heap.size w7 wx)
  case first => as_aux_lemma =>
    go_wp2_with fail
    refine LC.out.mono ?_; rintro e w8 ⟨v, rfl, hv, hb⟩
    have HV := Lib.hid hv; have HB := Lib.hid hb
    clear hv hb k0 k1 k2 k3 k4 k5 k6 k7 k8 k9 k10 k11 k12 k13 k14 k15 k16
    go_wp2
    go_meet
    exact ⟨_, rfl, rfl, HV.out, HB.out⟩
  case rest =>
  obtain ⟨v, rfl, rfl, hv, hb8⟩ := hcut
  obtain ⟨w8, rfl⟩ : ∃ x, x = wc := ⟨_, rfl⟩
  have E8 := Lib.hid (E7.out.below hb8)
  have B8 := Lib.hid (B7.out.trans (hb8.mono (Nat.le_trans B0.out.size B7.out.size)))
  clear hb8 k0 k1 k2 k3 k4 k5 k6 k7 k8 k9 k10 k11 k12 k13 k14 k15 k16 E7 LC
  by_cases h0 : X ≠ 0
  · have E := Lib.hid (show errV X = .iface 108 (.int .i64 X) by rw [errV, if_neg h0])
    rw [E.out]
    clear h0 hv
    go_wp2
    go_ret
    exact ⟨rfl, B0.out.trans B8.out⟩
  obtain rfl : X = 0 := by omega
  rw [errV_0]
  rw [if_pos rfl, RS.out] at hv
  clear h0 RS
  obtain ⟨q, hq⟩ : ∃ q, q = inB N st := ⟨_, rfl⟩
  have RI := Lib.hid (show Calls Tryd.prog 43 #[.slice aN N.length kN, .int .i64 st] w8 (fun e w' => e = .returned (.bool q) ∧ w8 = w') by
    rw [hq]; exact rin_any _ N st w8 (RN.out.below (B0.out.trans B8.out)))
  rw [← hq] at hv
  have k2 := E8.out.k2; have k14 := E8.out.k14
  clear hq
  by_cases g : q = true ∨ st < a ∨ b < st
  · rw [if_pos g] at hv
    obtain ⟨ad, cd, rfl, -, -, -⟩ := intsR_open hv
    have G := Lib.hid g
    clear g hv
    go_wp2_with fail
    refine RI.out.mono ?_; rintro e w9 ⟨rfl, rfl⟩
    cases q
    · by_cases t1 : st < a
      · have d1 : decide (st < a) = true := decide_eq_true t1
        clear t1
        go_wp2
        go_ret
        exact ⟨rfl, B0.out.trans B8.out⟩
      · have d1 : decide (st < a) = false := decide_eq_false t1
        have d2 : decide (b < st) = true := decide_eq_true (by have := G.out; simp at this; omega)
        clear t1
        go_wp2
        go_ret
        exact ⟨rfl, B0.out.trans B8.out⟩
    · go_wp2
      go_ret
      exact ⟨rfl, B0.out.trans B8.out⟩
  · rw [if_neg g] at hv
    obtain ⟨ad, cd, rfl, -, hk, hds⟩ := intsR_open hv
    obtain ⟨b3, o3, rfl, hcs⟩ := hds (by simp)
    have c0 : w8.cell? ⟨b3, o3, none⟩ = some (.int .i64 st) := hcs 0 (by simp)
    obtain rfl : q = false := by cases q <;> simp_all
    have d1 : decide (st < a) = false := decide_eq_false (by omega)
    have d2 : decide (b < st) = false := decide_eq_false (by omega)
    clear g hv hds hcs hk
    go_wp2_with fail
    refine RI.out.mono ?_; rintro e w9 ⟨rfl, rfl⟩
    go_upto_region 14 with fail
    go_quiet (fail)
    go_wp2
    go_ret
    exact ⟨rfl, below_drewN (B0.out.trans B8.out) _⟩

/-- as the frame takes it. -/
theorem eventOnce_law (nm tx : List UInt8) (st ln : Int) (rp : Bool) (fr ev ct ti : Int) (vm vd vw vp vM vN vC vA : Value) (mo da : List Int) (we : List (Int × Int)) (pk M N : List Int) (C : List (Int × Int)) (A : List Alm) (a b : Int) (w : World)
    (hmo : IntsR w vm mo) (hda : IntsR w vd da) (hwe : PairsR w vw we) (hpk : IntsR w vp pk) (hM : IntsR w vM M) (hN : IntsR w vN N) (hC : PairsR w vC C) (hA : AlmsR w vA A)
    (hnm : nm.length ≤ 140737488351232) (htx : tx.length ≤ 140737488351232) (hcl : C.length ≤ 8796093022208) (ha : (Lit.int .i64 a).wf = true) (hb : (Lit.int .i64 b).wf = true) :
    Calls Tryd.prog 7 #[.agg #[.string (bs nm), .string (bs tx), .int .i64 st, .int .i64 ln, .bool rp, .int .i64 fr, .int .i64 ev, .int .i64 ct, .int .i64 ti, vm, vd, vw, vp, vM, vN, vC, vA], .int .i64 a, .int .i64 b] w fun e w' => e = .returned (.bool true) ∧ Below w.heap.size w w' := by
  refine eventOnce_any nm tx st ln rp fr ev ct ti vm vd vw vp vM vN vC vA N C A a b w ?_ ?_ ?_ ?_ ?_ hN hC hA hnm htx hcl
  · obtain ⟨_, _, rfl, _⟩ := intsR_open hmo; rfl
  · obtain ⟨_, _, rfl, _⟩ := intsR_open hda; rfl
  · obtain ⟨_, _, rfl, _⟩ := pairsR_open hwe; rfl
  · obtain ⟨_, _, rfl, _⟩ := intsR_open hpk; rfl
  · obtain ⟨_, _, rfl, _⟩ := intsR_open hM; rfl

end Go.Proofs.YtdkcgggnkhbkkaaDoor
