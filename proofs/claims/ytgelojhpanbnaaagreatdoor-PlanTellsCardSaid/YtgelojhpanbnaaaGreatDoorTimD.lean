/- event.Changed of an event that is right: its contract. -/
import Derived.Test.YtgelojhpanbnaaaGreatDoorQ15
import Derived.Test.YtgelojhpanbnaaaGreatDoorQ08
import Derived.Test.YtgelojhpanbnaaaGreatDoorShSrch
namespace Go.Proofs.YtgelojhpanbnaaaGreatDoor
open Go.RowKit Go.Shelf
set_option linter.unusedSimpArgs false
set_option linter.unusedVariables false

theorem bsearch_any (v : Value) (L : List Int) (x : Int) (w : World) (hL : IntsR w v L) (hup : L.Pairwise (· < ·)) (hl : L.length ≤ 1000000) :
    Calls Tryz.prog 158 #[v, .int .i64 x] w fun e w' => ∃ k : Int, e = .returned (.tuple #[.int .i64 k, .bool (inB L x)]) ∧ Below w.heap.size w w' := by
  obtain ⟨a, cap, rfl, k1, k2, hds⟩ := intsR_open hL
  by_cases h0 : L.length = 0
  · obtain rfl : L = [] := List.length_eq_zero_iff.1 h0
    refine (Tryz.slices_BinarySearch_int_empty a cap x w).mono ?_
    rintro e w' ⟨rfl, rfl⟩
    exact ⟨0, rfl, Below.refl _ _⟩
  · obtain ⟨b, off, rfl, hcs⟩ := hds (by omega)
    refine (Tryz.slices_BinarySearch_int b off L.length cap L x w (Nat.le_refl _) (by omega) (fun j hj => by rw [hcs j hj]; simp [hj]) (by rw [List.take_length]; exact hup.imp fun h => Int.le_of_lt h)).mono ?_
    rintro e w' ⟨rfl, q, rfl⟩
    exact ⟨_, by rw [List.take_length, inB, List.contains_eq_mem], below_drewN (Below.refl _ _) _⟩

theorem below_next {a b c : World} (h : Below a.heap.size a b) (hb : Below b.heap.size b c) : Below a.heap.size a c := h.trans (hb.mono h.size)

theorem chgInfo : (Tryz.prog.info? 134).map (fun i => (i.zero, i.size, i.bytes)) = some (some (.agg #[.int .i64 0, .int .i64 0]), 2, 16) := by kernel_rfl

theorem pairsV_app (O L : List (Int × Int)) : pairsV (O ++ L) = pairsV O ++ pairsV L := by simp [pairsV]

def OwnC (B : Nat) (w : World) (v : Value) (L : List (Int × Int)) : Prop := w.ownsRow B 134 2 v L.length (pairsV L)

theorem OwnC.pairs {B : Nat} {w : World} {v : Value} {L : List (Int × Int)} (h : OwnC B w v L) : PairsR w v L := ownsRow_reads h

theorem chg_all {B M N : List Int} {C : List (Int × Int)} (h : 0 < C.length) : chgA B M N C = evL B M N (C[0]).1 (C[C.length - 1]).1 := by
  unfold chgA
  rw [List.head?_eq_getElem?, List.getLast?_eq_getElem?, List.getElem?_eq_getElem h, List.getElem?_eq_getElem (show C.length - 1 < C.length by omega)]
  rfl

theorem chg_take {K : List Int} {C : List (Int × Int)} {k : Nat} (h : k < C.length) : (C.take (k + 1)).filter (fun c => inB K c.1) = (C.take k).filter (fun c => inB K c.1) ++ (if inB K C[k].1 = true then [C[k]] else []) := by
  rw [List.take_succ_eq_append_getElem h, List.filter_append]
  congr 1
  by_cases hq : inB K C[k].1 = true
  · rw [if_pos hq]; simp [hq]
  · rw [if_neg hq]; simp [hq]

set_option maxRecDepth 100000 in
set_option maxHeartbeats 8000000 in
theorem changed_any (snm stx : ByteArray) (st ln : Int) (rp : Bool) (fr ev ct ti : Int) (vm vd vw vp vM vN vC vA : Value) (mo da : List Int) (we : List (Int × Int)) (pk M N : List Int) (C : List (Int × Int)) (A : List Alm) (w : World) (hw : Months w)
    (hR : EvR w vm vd vw vp vM vN vC vA mo da we pk M N C A) (hF : EvFacts st ln rp fr ev ct ti mo da we pk M N C A) :
    Calls Tryz.prog 82 #[.agg #[.string snm, .string stx, .int .i64 st, .int .i64 ln, .bool rp, .int .i64 fr, .int .i64 ev, .int .i64 ct, .int .i64 ti, vm, vd, vw, vp, vM, vN, vC, vA]] w
      fun e w' => ∃ v, e = .returned v ∧ OwnC w.heap.size w' v (chgL (ruleT rp st fr ev ct ti mo da we pk) M N C) ∧ Below w.heap.size w w' := by
  obtain ⟨h1, h2, h3, h4, hM, hN, hC, hA⟩ := hR
  obtain ⟨am, km, rfl, -, -, -⟩ := intsR_open h1
  obtain ⟨ad, kd, rfl, -, -, -⟩ := intsR_open h2
  obtain ⟨aw, kw, rfl, -, -, -⟩ := pairsR_open h3
  obtain ⟨ap, kp, rfl, -, -, -⟩ := intsR_open h4
  obtain ⟨aM, kM, rfl, -, -, -⟩ := intsR_open hM
  obtain ⟨aN, kN, rfl, -, -, -⟩ := intsR_open hN
  obtain ⟨aC, kC, rfl, -, kC2, hds⟩ := pairsR_open hC
  obtain ⟨aA, kA, rfl, -, -, -⟩ := almsR_open hA
  unfold maxLen at kC2
  obtain ⟨eb, heb⟩ : ∃ x, x = w.heap.size := ⟨_, rfl⟩
  obtain ⟨w0, hw0⟩ : ∃ x, x = w.alloc (.cells #[.string snm, .string stx, .int .i64 st, .int .i64 ln, .bool rp, .int .i64 fr, .int .i64 ev, .int .i64 ct, .int .i64 ti, .slice am mo.length km, .slice ad da.length kd, .slice aw we.length kw, .slice ap pk.length kp, .slice aM M.length kM, .slice aN N.length kN, .slice aC C.length kC, .slice aA A.length kA] 29) := ⟨_, rfl⟩
  have hb0 : Below w.heap.size w w0 := by rw [hw0]; exact (Below.refl _ _).alloc (Nat.le_refl _) _
  have ec := hw0 ▸ evC_new w 29 snm stx st ln rp fr ev ct ti (.slice am mo.length km) (.slice ad da.length kd) (.slice aw we.length kw) (.slice ap pk.length kp) (.slice aM M.length kM) (.slice aN N.length kN) (.slice aC C.length kC) (.slice aA A.length kA)
  rw [← heb] at ec
  obtain ⟨T, hT⟩ : ∃ T, T = ruleT rp st fr ev ct ti mo da we pk := ⟨_, rfl⟩
  rw [← hT]
  have EO := Lib.hid (show ∀ (lo hi : Int) (wx : World), Below w0.heap.size w0 wx → Calls Tryz.prog 80 #[.agg #[.string snm, .string stx, .int .i64 st, .int .i64 ln, .bool rp, .int .i64 fr, .int .i64 ev, .int .i64 ct, .int .i64 ti, .slice am mo.length km, .slice ad da.length kd, .slice aw we.length kw, .slice ap pk.length kp, .slice aM M.length kM, .slice aN N.length kN, .slice aC C.length kC, .slice aA A.length kA], .int .i64 lo, .int .i64 hi] wx (fun e w' => ∃ v, e = .returned v ∧ OwnI wx.heap.size w' v (evL T M N lo hi) ∧ Below wx.heap.size wx w') from fun lo hi wx hbx => by
    have hbw : Below w.heap.size w wx := hb0.trans (hbx.mono hb0.size)
    rw [hT]
    exact evof_any snm stx st ln rp fr ev ct ti _ _ _ _ _ _ _ _ mo da we pk M N lo hi wx (hw.below hbw) (h1.below hbw) (h2.below hbw) (h3.below hbw) (h4.below hbw) rfl rfl (hM.below hbw) (hN.below hbw) hF.ok)
  have TL := Lib.hid (show T.length ≤ 109573 by rw [hT]; exact ruleT_len hF.ok)
  have EC := Lib.hid ec; have B0 := Lib.hid hb0; have W0 := Lib.hid hw0; have EB := Lib.hid heb
  have HF := Lib.hid hF
  have lC : C.length ≤ 100 := hF.lenC
  have HC := Lib.hid (show 0 < C.length → ∃ b off, aC = some ⟨b, off, none⟩ ∧ ∀ i (hi : i < C.length), w0.cell? ⟨b, off + i * 2, none⟩ = some (.int .i64 C[i].1) ∧ w0.cell? ⟨b, off + i * 2 + 1, none⟩ = some (.int .i64 C[i].2) from fun hp => by obtain ⟨b, off, e1, e2⟩ := hds hp; exact ⟨b, off, e1, fun j hj => ⟨cell_below hb0 (e2 j hj).1, cell_below hb0 (e2 j hj).2⟩⟩)
  clear h1 h2 h3 h4 hM hN hC hA hw hF hw0 hb0 ec heb hT hds
  go_enter Tryz.func82, Tryz.ntmps82
  go_upto_region 1 with fail
  rw [← W0.out]
  rw [← EB.out]
  have k0 := EC.out.k0; have k1 := EC.out.k1; have k2 := EC.out.k2; have k3 := EC.out.k3; have k4 := EC.out.k4; have k5 := EC.out.k5; have k6 := EC.out.k6; have k7 := EC.out.k7; have k8 := EC.out.k8; have k9 := EC.out.k9; have k10 := EC.out.k10; have k11 := EC.out.k11; have k12 := EC.out.k12; have k13 := EC.out.k13; have k14 := EC.out.k14; have k15 := EC.out.k15; have k16 := EC.out.k16
  by_cases h0 : C.length = 0
  · obtain rfl : C = [] := List.length_eq_zero_iff.1 h0
    have d0 : ((([] : List (Int × Int)).length : Int) == 0) = true := rfl
    go_wp2
    go_ret
    exact ⟨_, rfl, World.ownsRow_nil _ _ _ _, B0.out⟩
  have d0 : ((C.length : Int) == 0) = false := by rw [beq_eq_false_iff_ne]; omega
  obtain ⟨cb, co, rfl, hcs⟩ := HC.out (by omega)
  have c0 := (hcs 0 (by omega)).1
  have c1 := (hcs (C.length - 1) (by omega)).1
  rw [Nat.zero_mul, Nat.add_zero] at c0
  obtain ⟨lo, hlo⟩ : ∃ x, x = C[0].1 := ⟨_, rfl⟩
  obtain ⟨hi, hhi⟩ : ∃ x, x = C[C.length - 1].1 := ⟨_, rfl⟩
  rw [← hlo] at c0
  rw [← hhi] at c1
  have KA := Lib.hid (show chgA T M N C = evL T M N lo hi by rw [hlo, hhi]; exact chg_all (by omega))
  have HCS := Lib.hid hcs
  clear hlo hhi hcs
  have i0 : (0 : Int) < (C.length : Int) := by omega
  have i0n : 0 < C.length := by omega
  have s1 : IntKind.i64.wrap ((C.length : Int) - 1) = (C.length : Int) - 1 := IntWalk.i64_in _ (by omega)
  have s2 : (0 : Int) ≤ (C.length : Int) - 1 := by omega
  have s3 : (1 : Int) ≤ (C.length : Int) := by omega
  have s4 : ((C.length : Int) - 1).toNat = C.length - 1 := by omega
  have s5 : (C.length : Int) - 1 < (C.length : Int) := by omega
  go_upto_region 3 with fail
  go_cut [3] (fun s3 wx => ∃ v, s3 = v ∧ IntsR wx v (evL T M N lo hi) ∧ Below w0.heap.size w0 wx)
  case first => as_aux_lemma =>
    go_region_held3 (fun w' => w'.cell? ⟨eb, 0, none⟩ = some (.string snm) ∧ w'.cell? ⟨eb, 1, none⟩ = some (.string stx) ∧ w'.cell? ⟨eb, 2, none⟩ = some (.int .i64 st) ∧ w'.cell? ⟨eb, 3, none⟩ = some (.int .i64 ln) ∧ w'.cell? ⟨eb, 4, none⟩ = some (.bool rp) ∧ w'.cell? ⟨eb, 5, none⟩ = some (.int .i64 fr) ∧ w'.cell? ⟨eb, 6, none⟩ = some (.int .i64 ev) ∧ w'.cell? ⟨eb, 7, none⟩ = some (.int .i64 ct) ∧ w'.cell? ⟨eb, 8, none⟩ = some (.int .i64 ti) ∧ w'.cell? ⟨eb, 9, none⟩ = some (.slice am mo.length km) ∧ w'.cell? ⟨eb, 10, none⟩ = some (.slice ad da.length kd) ∧ w'.cell? ⟨eb, 11, none⟩ = some (.slice aw we.length kw) ∧ w'.cell? ⟨eb, 12, none⟩ = some (.slice ap pk.length kp) ∧ w'.cell? ⟨eb, 13, none⟩ = some (.slice aM M.length kM) ∧ w'.cell? ⟨eb, 14, none⟩ = some (.slice aN N.length kN) ∧ w'.cell? ⟨eb, 15, none⟩ = some (.slice (some ⟨cb, co, none⟩) C.length kC) ∧ w'.cell? ⟨eb, 16, none⟩ = some (.slice aA A.length kA) ∧ w'.cell? ⟨cb, co, none⟩ = some (.int .i64 lo) ∧ w'.cell? ⟨cb, co + (C.length - 1) * 2, none⟩ = some (.int .i64 hi) ∧ Below w0.heap.size w0 w')
      (first | (refine ⟨?_, ?_, ?_, ?_, ?_, ?_, ?_, ?_, ?_, ?_, ?_, ?_, ?_, ?_, ?_, ?_, ?_, ?_, ?_, ?_⟩ <;> (first | assumption | exact Below.refl _ _ | exact (Below.refl _ _).drew)) | (go_split_ands; refine ⟨?_, ?_, ?_, ?_, ?_, ?_, ?_, ?_, ?_, ?_, ?_, ?_, ?_, ?_, ?_, ?_, ?_, ?_, ?_, ?_⟩ <;> (first | assumption | exact cell_below hb4 (by assumption) | exact below_next (by assumption) hb4)))
      ((go_at_call 80; refine (EO.out lo hi _ (by go_split_ands; assumption)).mono ?_; rintro e w4 ⟨v4, rfl, hv4, hb4⟩))
    have H4 := Lib.hid hv4
    have B4 : Hid (Below w0.heap.size w0 w4) := Lib.hid (by first | exact below_next (by assumption) hb4 | exact below_next (Below.refl _ _).drew hb4 | exact below_next (Below.refl _ _) hb4)
    clear c0 c1 hv4 hb4 k0 k1 k2 k3 k4 k5 k6 k7 k8 k9 k10 k11 k12 k13 k14 k15 k16
    go_wp2
    go_meet
    exact ⟨_, rfl, H4.out.ints, B4.out⟩
  case rest =>
  obtain ⟨v, rfl, hv, hb3⟩ := hcut
  obtain ⟨w3, rfl⟩ : ∃ x, x = wc := ⟨_, rfl⟩
  obtain ⟨K, hK⟩ : ∃ K, K = evL T M N lo hi := ⟨_, rfl⟩
  have KU := Lib.hid (show K.Pairwise (· < ·) by rw [hK]; exact evL_up _ _ _ _ _)
  have KL := Lib.hid (show K.length ≤ 1000000 by rw [hK]; have h1 := evL_len T M N lo hi; have h2 := TL.out; have h3 := HF.out.lenM; omega)
  rw [← hK] at hv
  have CE := Lib.hid (show chgL T M N C = C.filter fun c => inB K c.1 by rw [chgL, KA.out, hK])
  obtain ⟨ak, ck, rfl, -, -, -⟩ := intsR_open hv
  have HV := Lib.hid hv; have B3 := Lib.hid hb3
  have E3 := Lib.hid (EC.out.below hb3)
  clear hv hb3 hK c0 c1 s1 s2 s3 s4 s5 KA k0 k1 k2 k3 k4 k5 k6 k7 k8 k9 k10 k11 k12 k13 k14 k15 k16
  obtain ⟨i2, hi2, hz0, hz1, hz2⟩ := info_parts chgInfo
  have k8 := E3.out.k15
  go_wp2_with fail
  clear k8
  go_loopg [2, 31] C.length (fun g ov iv wr => ∃ k : Nat, k ≤ C.length ∧ iv = .int .i64 k ∧ g = C.length - k ∧ OwnC w3.heap.size wr ov ((C.take k).filter fun c => inB K c.1) ∧ Below w3.heap.size w3 wr)
  case atStart => exact ⟨0, Nat.zero_le _, rfl, rfl, World.ownsRow_nil _ _ _ _, Below.refl _ _⟩
  case round =>
    obtain ⟨k, hk, rfl, hg, ho, hb⟩ := hrel
    have G := Lib.hid hg; have BR := Lib.hid hb; have OW := Lib.hid ho
    clear hg
    by_cases hlt : k < C.length
    · have q0 := cell_below hb (cell_below B3.out (HCS.out k hlt).1)
      have q1 := cell_below hb (cell_below B3.out (HCS.out k hlt).2)
      obtain ⟨x, hx⟩ : ∃ x, x = C[k].1 := ⟨_, rfl⟩
      obtain ⟨y, hy⟩ : ∃ y, y = C[k].2 := ⟨_, rfl⟩
      rw [← hx] at q0
      rw [← hy] at q1
      have X := Lib.hid (show C[k] = (x, y) by rw [hx, hy])
      have HT := Lib.hid (chg_take (K := K) hlt)
      obtain ⟨O, hO⟩ : ∃ O, O = (C.take k).filter fun c => inB K c.1 := ⟨_, rfl⟩
      have ol : O.length ≤ 100 := by
        have h1 : O.length ≤ (C.take k).length := by rw [hO]; exact List.length_filter_le ..
        have h2 := List.length_take_le k C
        omega
      rw [← hO] at OW HT
      have OE := Lib.hid hO
      obtain ⟨oa, oc, rfl, -, -, -⟩ := owns_cells OW.out
      obtain ⟨wr, rfl⟩ : ∃ z, z = wr := ⟨_, rfl⟩
      clear hx hy hb ho hO
      have i0 : (0 : Int) ≤ (k : Int) := Int.natCast_nonneg _
      have i1 : (k : Int) < (C.length : Int) := by omega
      have B4 := Lib.hid (show Below w3.heap.size w3 (wr.alloc (.cells #[.int .i64 x, .int .i64 y] 134)) from BR.out.alloc BR.out.size _)
      have e0 : (wr.alloc (.cells #[.int .i64 x, .int .i64 y] 134)).cell? ⟨wr.heap.size, 0, none⟩ = some (.int .i64 x) := by simp
      have e1 : (wr.alloc (.cells #[.int .i64 x, .int .i64 y] 134)).cell? ⟨wr.heap.size, 1, none⟩ = some (.int .i64 y) := by simp
      go_wp2_with fail
      refine (bsearch_any _ K x _ (HV.out.below B4.out) KU.out KL.out).mono ?_; rintro e w5 ⟨kk, rfl, hb5⟩
      have f0 := cell_below hb5 e0
      have f1 := cell_below hb5 e1
      have B5 := Lib.hid (B4.out.trans (hb5.mono B4.out.size))
      have OW5 := Lib.hid (own_kept OW.out (((Below.refl _ wr).alloc (Nat.le_refl _) _).trans (hb5.mono (by simp))))
      obtain ⟨q, hq⟩ : ∃ q, q = inB K x := ⟨_, rfl⟩
      rw [← hq]
      rw [X.out] at HT
      simp only [← hq] at HT
      clear e0 e1 q0 q1 hb5 hq B4
      cases q
      · have HT2 := Lib.hid (show (C.take (k + 1)).filter (fun c => inB K c.1) = O by rw [HT.out]; simp)
        clear f0 f1
        go_wp2
        go_roundg (C.length - (k + 1))
        case measure => rw [G.out]; omega
        case rel => exact ⟨k + 1, by omega, by go_num, rfl, by rw [HT2.out]; exact OW5.out, B5.out⟩
      · have HT2 := Lib.hid (show (C.take (k + 1)).filter (fun c => inB K c.1) = O ++ [(x, y)] by rw [HT.out]; simp)
        have hs5 := B5.out.size
        have RO : Reads (w5.alloc (.cells #[.int .i64 x, .int .i64 y] 134)) (.slice (some ⟨w5.heap.size, 0, none⟩) 1 1) 2 1 [.int .i64 x, .int .i64 y] := reads_one rfl (fun j u hj => by match j, hj with | 0, hj => (simp at hj; subst hj; simp) | 1, hj => (simp at hj; subst hj; simp))
        go_wp2_with (at_builtin; refine wpList_append_row rfl _ _ 26 rfl 134 i2 _ 2 16 Tryz.underlying26 hi2 hz0 hz1 hz2 rfl (by decide) w3.heap.size _ _ _ _ _ _ rfl rfl (World.ownsRow.alloc OW5.out _) RO (by simp [Value.oneCell']) (by rw [World.size_alloc]; omega) (by omega) (by unfold maxLen; omega) ?_)
        intro v6 w6 hown6 hb6
        have OW6 := Lib.hid (show OwnC w3.heap.size w6 v6 (O ++ [(x, y)]) from by unfold OwnC; rw [List.length_append, pairsV_app]; exact hown6)
        have B6 := Lib.hid ((B5.out.alloc hs5 _).trans hb6)
        clear hown6 hb6 f0 f1 RO
        go_wp2
        go_roundg (C.length - (k + 1))
        case measure => rw [G.out]; omega
        case rel => exact ⟨k + 1, by omega, by go_num, rfl, by rw [HT2.out]; exact OW6.out, B6.out⟩
    · obtain rfl : k = C.length := by omega
      have i2 : ¬ (C.length : Int) < (C.length : Int) := by omega
      rw [List.take_length, ← CE.out] at OW
      clear hb ho
      go_wp2
      go_ret
      exact ⟨_, rfl, World.ownsRow.mono OW.out (Nat.le_trans B0.out.size B3.out.size), B0.out.trans ((B3.out.trans (BR.out.mono B3.out.size)).mono B0.out.size)⟩

end Go.Proofs.YtgelojhpanbnaaaGreatDoor
