/- Texts joined into one (a claim has at most 60 files): The contract of the reference chimeref2.changed; Plain laws of the reference's Between: an insertion by order, and its result against the times; The contract of the reference chimeref2.Time. -/
import Derived.Test.YtgelojhpanbnaaaGreatDoorQ24
import Derived.Test.YtgelojhpanbnaaaGreatDoorTimD
import Derived.StillTailTactics
import Derived.Test.YtgelojhpanbnaaaGreatDoorQ16
import Derived.Deep.MidRow
import Derived.Laws.OwnMore
import Derived.Test.YtgelojhpanbnaaaGreatDoorQ32
namespace Go.Proofs.YtgelojhpanbnaaaGreatDoor
open Go.RowKit Go.Shelf
set_option linter.unusedSimpArgs false
set_option linter.unusedVariables false

def chgR (T M N : List Int) (C : List (Int × Int)) : List Int := (C.filter fun c => inB (evL T M N 1 (C.getLast?.getD (0, 0)).1) c.1).map (·.1)

theorem chgR_mem {T M N : List Int} {C : List (Int × Int)} (hC : C.Pairwise (fun x y => x.1 < y.1)) (h1 : ∀ c ∈ C, 1 ≤ c.1) {x : Int} : x ∈ chgR T M N C ↔ (∃ c ∈ C, c.1 = x) ∧ IsT T M N x := by
  unfold chgR
  simp only [List.mem_map, List.mem_filter]
  constructor
  · rintro ⟨c, ⟨hc, hi⟩, rfl⟩
    have hm : c.1 ∈ evL T M N 1 (C.getLast?.getD (0, 0)).1 := by simpa [inB] using hi
    exact ⟨⟨c, hc, rfl⟩, (evL_is.1 hm).1⟩
  · rintro ⟨⟨c, hc, rfl⟩, hi⟩
    refine ⟨c, ⟨hc, ?_⟩, rfl⟩
    have hm : c.1 ∈ evL T M N 1 (C.getLast?.getD (0, 0)).1 := evL_is.2 ⟨hi, h1 c hc, (rises_at hC hc).2⟩
    simpa [inB] using hm

theorem chgR_len (T M N : List Int) (C : List (Int × Int)) : (chgR T M N C).length ≤ C.length := by
  unfold chgR
  rw [List.length_map]
  exact List.length_filter_le _ _

theorem last_at {C : List (Int × Int)} {j : Nat} (h : C.length = j + 1) (hj : j < C.length) : C.getLast?.getD (0, 0) = C[j] := by
  rw [List.getLast?_eq_getElem?, h, Nat.add_sub_cancel, List.getElem?_eq_getElem hj]; rfl

theorem chgR_snoc {p : Int × Int → Bool} {C : List (Int × Int)} {k : Nat} (h : k < C.length) : ((C.take (k + 1)).filter p).map (·.1) = ((C.take k).filter p).map (·.1) ++ (if p C[k] then [C[k].1] else []) := by
  rw [List.take_succ_eq_append_getElem h, List.filter_append, List.map_append]
  congr 1
  by_cases hp : p C[k] = true <;> simp [hp]

set_option maxRecDepth 100000 in
set_option maxHeartbeats 8000000 in
theorem rchg_any (snm stx : ByteArray) (st ln : Int) (rp : Bool) (fr ev ct ti : Int) (vm vd vw vp vM vN vC vA : Value) (mo da : List Int) (we : List (Int × Int)) (pk M N : List Int) (C : List (Int × Int)) (A : List Alm) (w : World) (hR : EvR w vm vd vw vp vM vN vC vA mo da we pk M N C A) (hF : EvFacts st ln rp fr ev ct ti mo da we pk M N C A) :
    Calls Tryz.prog 119 #[.agg #[.string snm, .string stx, .int .i64 st, .int .i64 ln, .bool rp, .int .i64 fr, .int .i64 ev, .int .i64 ct, .int .i64 ti, vm, vd, vw, vp, vM, vN, vC, vA]] w fun e w' => ∃ u, e = .returned u ∧ IntsR w' u (chgR (ruleT rp st fr ev ct ti mo da we pk) M N C) ∧ Below w.heap.size w w' := by
  obtain ⟨i0, hi0, hz0, hz1, hz2⟩ := info_parts intInfoP
  have hR0 := hR
  obtain ⟨h1, h2, h3, h4, hM, hN, hC, hA⟩ := hR
  obtain ⟨am, km, rfl, -, -, -⟩ := intsR_open h1
  obtain ⟨ad, kd, rfl, -, -, -⟩ := intsR_open h2
  obtain ⟨aw, kw, rfl, -, -, -⟩ := pairsR_open h3
  obtain ⟨ap, kp, rfl, -, -, -⟩ := intsR_open h4
  obtain ⟨aM, kM, rfl, -, -, -⟩ := intsR_open hM
  obtain ⟨aN, kN, rfl, -, -, -⟩ := intsR_open hN
  obtain ⟨aC, kC, rfl, -, kC2, hds⟩ := pairsR_open hC
  obtain ⟨aA, kA, rfl, -, -, -⟩ := almsR_open hA
  unfold maxLen at kC2
  obtain ⟨eb, heb⟩ : ∃ x, x = w.heap.size := ⟨_, rfl⟩
  obtain ⟨w0, hw0⟩ : ∃ x, x = w.alloc (.cells #[.string snm, .string stx, .int .i64 st, .int .i64 ln, .bool rp, .int .i64 fr, .int .i64 ev, .int .i64 ct, .int .i64 ti, .slice am mo.length km, .slice ad da.length kd, .slice aw we.length kw, .slice ap pk.length kp, .slice aM M.length kM, .slice aN N.length kN, .slice aC C.length kC, .slice aA A.length kA] 29) := ⟨_, rfl⟩
  have hb0 : Below w.heap.size w w0 := by rw [hw0]; exact (Below.refl _ _).alloc (Nat.le_refl _) _
  have ec := hw0 ▸ evC_new w 29 snm stx st ln rp fr ev ct ti (.slice am mo.length km) (.slice ad da.length kd) (.slice aw we.length kw) (.slice ap pk.length kp) (.slice aM M.length kM) (.slice aN N.length kN) (.slice aC C.length kC) (.slice aA A.length kA)
  rw [← heb] at ec
  obtain ⟨n, hn⟩ : ∃ n, n = C.length := ⟨_, rfl⟩
  have n100 : n ≤ 100 := by rw [hn]; exact hF.lenC
  obtain ⟨X, hX⟩ : ∃ X, X = evL (ruleT rp st fr ev ct ti mo da we pk) M N 1 (C.getLast?.getD (0, 0)).1 := ⟨_, rfl⟩
  have HC := Lib.hid (show 0 < C.length → ∃ b off, aC = some ⟨b, off, none⟩ ∧ ∀ j (hj : j < C.length), w0.cell? ⟨b, off + j * 2, none⟩ = some (.int .i64 C[j].1) ∧ w0.cell? ⟨b, off + j * 2 + 1, none⟩ = some (.int .i64 C[j].2) from fun hp => by
    obtain ⟨b, off, e1, e2⟩ := hds hp
    exact ⟨b, off, e1, fun j hj => ⟨cell_below hb0 (e2 j hj).1, cell_below hb0 (e2 j hj).2⟩⟩)
  have RL := Lib.hid (show ∀ j (hj : j < C.length), C.length = j + 1 → ∀ wx, Below w0.heap.size w0 wx → Calls Tryz.prog 118 #[.agg #[.string snm, .string stx, .int .i64 st, .int .i64 ln, .bool rp, .int .i64 fr, .int .i64 ev, .int .i64 ct, .int .i64 ti, .slice am mo.length km, .slice ad da.length kd, .slice aw we.length kw, .slice ap pk.length kp, .slice aM M.length kM, .slice aN N.length kN, .slice aC C.length kC, .slice aA A.length kA], .int .i64 1, .int .i64 C[j].1] wx (fun e w' => ∃ u, e = .returned u ∧ IntsR w' u X ∧ Below wx.heap.size wx w') from fun j hj hl wx hbx => by
    have hx := hb0.trans (hbx.mono hb0.size)
    rw [hX, last_at hl hj]
    have ht := timeB_yes (hF.tC C[j] (List.getElem_mem _)).1
    exact rlocal_any snm stx st ln rp fr ev ct ti _ _ _ _ _ _ _ _ mo da we pk M N C A 1 C[j].1 wx (hR0.below hx) hF.ok (by omega))
  have CE := Lib.hid (show chgR (ruleT rp st fr ev ct ti mo da we pk) M N C = (C.filter fun c => inB X c.1).map (·.1) by rw [hX]; rfl)
  rw [CE.out]
  have NE := Lib.hid hn
  have EC := Lib.hid ec; have B0 := Lib.hid hb0; have W0 := Lib.hid hw0; have EB := Lib.hid heb
  clear hR0 h1 h2 h3 h4 hM hN hC hA hF hw0 hb0 ec heb hds hX
  go_enter Tryz.func119, Tryz.ntmps119
  go_upto_region 1 with fail
  rw [← W0.out]
  rw [← EB.out]
  rw [← hn] at EC
  try rw [← hn]
  by_cases hn0 : n = 0
  · subst hn0
    have hc : C = [] := List.length_eq_zero_iff.1 NE.out.symm
    have k15 := EC.out.k15
    clear RL HC hn
    go_wp2
    go_ret
    exact ⟨_, rfl, by rw [hc]; exact intsR_nil _, B0.out⟩
  obtain ⟨j, hjn⟩ : ∃ j, n = j + 1 := ⟨n - 1, by omega⟩
  have hj : j < C.length := by rw [← NE.out]; omega
  obtain ⟨cb, co, rfl, hcs⟩ := HC.out (by omega)
  have RJ := Lib.hid (fun wx hbx => RL.out j hj (hn.symm.trans hjn) wx hbx)
  have c0 := (hcs j hj).1
  obtain ⟨la, hla⟩ : ∃ z, z = C[j].1 := ⟨_, rfl⟩
  rw [← hla] at RJ c0
  rw [← hn] at RJ
  clear hn
  have HS := Lib.hid hcs
  have i1 : (0 : Int) ≤ (j : Int) := Int.natCast_nonneg _
  have i2 : (j : Int) < (n : Int) := by omega
  have i3 : IntKind.i64.wrap ((n : Int) - 1) = (j : Int) := by rw [IntWalk.i64_in _ (by omega)]; omega
  have i4 : ((n : Int) == 0) = false := by rw [beq_eq_false_iff_ne]; omega
  have k0 := EC.out.k0; have k1 := EC.out.k1; have k2 := EC.out.k2; have k3 := EC.out.k3; have k4 := EC.out.k4; have k5 := EC.out.k5; have k6 := EC.out.k6; have k7 := EC.out.k7; have k8 := EC.out.k8; have k9 := EC.out.k9; have k10 := EC.out.k10; have k11 := EC.out.k11; have k12 := EC.out.k12; have k13 := EC.out.k13; have k14 := EC.out.k14; have k15 := EC.out.k15; have k16 := EC.out.k16
  clear hcs hla HC RL hn0 hjn
  go_upto_region 3 with fail
  go_cut [3] (fun s3 wx => (∃ u, s3 = u ∧ IntsR wx u X) ∧ Below w0.heap.size w0 wx)
  case first => as_aux_lemma =>
    go_still_tail 10, (by kernel_rfl)
    change wpList _ _ _ _ _ w0.drew
    go_wp2_with fail
    refine (RJ.out _ ((Below.refl _ _).drew)).mono ?_; rintro e w1 ⟨u, rfl, hu, hb1⟩
    have HU := Lib.hid hu; have HB := Lib.hid (below_next ((Below.refl _ _).drew) hb1)
    clear hu hb1 c0 k0 k1 k2 k3 k4 k5 k6 k7 k8 k9 k10 k11 k12 k13 k14 k15 k16
    go_wp2
    go_meet
    exact ⟨⟨_, rfl, HU.out⟩, HB.out⟩
  case rest =>
  obtain ⟨⟨u, rfl, hu⟩, hb1⟩ := hcut
  obtain ⟨w1, rfl⟩ : ∃ x, x = wc := ⟨_, rfl⟩
  obtain ⟨xa, xc, rfl, -, -, -⟩ := intsR_open hu
  have B1 := Lib.hid hb1; have XV := Lib.hid hu
  clear hu hb1 c0 RJ i1 i2 i3 i4 k0 k1 k2 k3 k4 k5 k6 k7 k8 k9 k10 k11 k12 k13 k14 k15 k16
  have HS1 := Lib.hid (show ∀ k (hk : k < C.length), w1.cell? ⟨cb, co + k * 2, none⟩ = some (.int .i64 C[k].1) from fun k hk => cell_below B1.out (HS.out k hk).1)
  have E1 := Lib.hid (EC.out.below B1.out)
  clear HS
  go_upto_block 0 with fail
  go_cut [4] (fun s4 wx => (∃ u, s4 = u ∧ IntsR wx u ((C.filter fun c => inB X c.1).map (·.1))) ∧ Below w1.heap.size w1 wx)
  case first => as_aux_lemma =>
    go_wp2_with fail
    go_loopg [4, 5] n (fun g ov iv wr => ∃ k : Nat, k ≤ n ∧ iv = .int .i64 k ∧ g = n - k ∧ wr.ownsRow w1.heap.size 3 1 ov (((C.take k).filter fun c => inB X c.1).map (·.1)).length ((((C.take k).filter fun c => inB X c.1).map (·.1)).map (Value.int .i64)) ∧ Below w1.heap.size w1 wr)
    case atStart => exact ⟨0, Nat.zero_le _, rfl, rfl, World.ownsRow_nil _ _ _ _, Below.refl _ _⟩
    case round =>
      obtain ⟨k, hk, rfl, hg, ho, hb⟩ := hrel
      obtain ⟨w2, rfl⟩ : ∃ x, x = wr := ⟨_, rfl⟩
      have G := Lib.hid hg; have B2 := Lib.hid hb; have OW := Lib.hid ho
      have k15 := (E1.out.below B2.out).k15
      obtain ⟨oa, oc, rfl, -, -, -⟩ := owns_cells ho
      clear hg hb ho
      by_cases hlt : k < n
      · have hkC : k < C.length := by rw [← NE.out]; exact hlt
        have c0 := cell_below B2.out (HS1.out k hkC)
        have SN := Lib.hid (chgR_snoc (p := fun c => inB X c.1) hkC)
        obtain ⟨x, hx⟩ : ∃ x, x = C[k].1 := ⟨_, rfl⟩
        simp only at SN
        rw [← hx] at c0 SN
        obtain ⟨O, hO⟩ : ∃ O, O = ((C.take k).filter fun c => inB X c.1).map (·.1) := ⟨_, rfl⟩
        have OL : O.length ≤ 100 := by rw [hO, List.length_map]; refine Nat.le_trans (List.length_filter_le _ _) ?_; have h2 := List.length_take_le k C; omega
        rw [← hO] at OW SN ⊢
        have XV2 := Lib.hid (XV.out.below B2.out)
        obtain ⟨q, hq⟩ : ∃ q, q = inB X x := ⟨_, rfl⟩
        have RI := Lib.hid (show Calls Tryz.prog 190 #[.slice xa X.length xc, .int .i64 x] w2 (fun e w' => e = .returned (.bool q) ∧ w2 = w') by rw [hq]; exact rin_any _ X x w2 XV2.out)
        rw [← hq] at SN
        have j0 : (0 : Int) ≤ (k : Int) := Int.natCast_nonneg _
        have j2 : (k : Int) < (n : Int) := by omega
        have s1 : IntKind.i64.wrap ((k : Int) + 1) = (k : Int) + 1 := IntWalk.i64_in _ (by omega)
        have hw2 := B2.out.size
        have hown := OW.out
        clear hx hO hq XV2
        go_wp2_with fail
        refine RI.out.mono ?_; rintro e w3 ⟨rfl, rfl⟩
        cases q
        · have HO := Lib.hid hown
          clear hown
          go_wp2
          go_roundg (n - (k + 1))
          case measure => rw [G.out]; omega
          case rel => exact ⟨k + 1, by omega, by go_num, rfl, by rw [show ((C.take (k + 1)).filter fun c => inB X c.1).map (·.1) = O from SN.out.trans (by simp)]; exact HO.out, B2.out⟩
        · go_wp2_with (at_builtin; refine wpList_append_lies _ rfl _ _ 22 rfl w1.heap.size 3 i0 _ 1 8 Tryz.underlying22 hi0 hz0 hz1 hz2 rfl (by decide) _ _ _ rfl (hown.alloc _) ⟨w2.heap.size, 0, none⟩ 1 1 [.int .i64 x] rfl rfl (cell_one_new _ _ _) (by simp [Value.oneCell']) (by decide) (by unfold maxLen; omega) (by omega) (by simp; omega) _ rfl ?_)
          intro g7 cap7 w7 hown7 hgrow7 hat7 hlt7
          have HO := Lib.hid hown7
          have HB := Lib.hid ((B2.out.alloc hw2 (.cells #[.int .i64 x] 3)).grown hgrow7 (by simp; omega) (fun c hc => (hown.lt c hc).1))
          clear hown7 hgrow7 hat7 hlt7 hown c0
          go_wp2
          go_roundg (n - (k + 1))
          case measure => rw [G.out]; omega
          case rel => exact ⟨k + 1, by omega, by go_num, rfl, by rw [show ((C.take (k + 1)).filter fun c => inB X c.1).map (·.1) = O ++ [x] from SN.out.trans (by simp), List.length_append, List.map_append]; exact HO.out, HB.out⟩
      · obtain rfl : k = n := by omega
        have j2 : ¬ (k : Int) < (k : Int) := by omega
        have e1 : C.take k = C := List.take_of_length_le (by rw [NE.out]; exact Nat.le_refl _)
        rw [e1] at OW
        have hi := intsR_of_owns OW.out
        rw [List.length_map] at hi
        have HI := Lib.hid hi
        rw [e1]
        clear hi
        clear e1
        go_wp2
        go_meet
        exact ⟨⟨_, rfl, HI.out⟩, B2.out⟩
  case rest =>
  obtain ⟨⟨u, rfl, hu⟩, hb2⟩ := hcut
  have HU := Lib.hid hu
  have HB := Lib.hid (B1.out.trans (hb2.mono B1.out.size))
  clear hu hb2
  go_wp2
  go_ret
  exact ⟨_, rfl, HU.out, B0.out.trans (HB.out.mono B0.out.size)⟩

end Go.Proofs.YtgelojhpanbnaaaGreatDoor

namespace Go.Proofs.YtgelojhpanbnaaaGreatDoor
open Go.RowKit Go.Shelf
set_option linter.unusedVariables false

def insK (O : List (Int × Int)) (x : Int × Int) (k : Nat) : List (Int × Int) := O.take k ++ x :: O.drop k

theorem insK_len {O : List (Int × Int)} {x : Int × Int} {k : Nat} : (insK O x k).length = O.length + 1 := by
  unfold insK
  have h : (O.take k).length + (O.drop k).length = O.length := by rw [← List.length_append, List.take_append_drop]
  rw [List.length_append, List.length_cons]; omega

theorem insK_mem {O : List (Int × Int)} {x y : Int × Int} {k : Nat} : y ∈ insK O x k ↔ y ∈ O ∨ y = x := by
  unfold insK
  have h : y ∈ O ↔ y ∈ O.take k ∨ y ∈ O.drop k := by rw [← List.mem_append, List.take_append_drop]
  rw [List.mem_append, List.mem_cons, h]
  constructor
  · rintro (h1 | rfl | h1)
    · exact .inl (.inl h1)
    · exact .inr rfl
    · exact .inl (.inr h1)
  · rintro ((h1 | h1) | rfl)
    · exact .inl h1
    · exact .inr (.inr h1)
    · exact .inr (.inl rfl)

theorem insK_ord {O : List (Int × Int)} {x : Int × Int} {k : Nat} (hO : O.Pairwise Lt2) (hk : k ≤ O.length) (hx : ∀ y ∈ O, y ≠ x)
    (h1 : ∀ i (hi : i < O.length), k ≤ i → Lt2 x O[i]) (h2 : ∀ (h : 0 < k), ¬ Lt2 x (O[k - 1]'(by omega))) : (insK O x k).Pairwise Lt2 := by
  have hp := List.pairwise_iff_getElem.1 hO
  have low : ∀ i (hi : i < O.length), i < k → Lt2 O[i] x := fun i hi hik => by
    have hl : Lt2 (O[k - 1]'(by omega)) x := lt2_tot (h2 (by omega)) (hx _ (List.getElem_mem _))
    rcases Nat.lt_or_ge i (k - 1) with h | h
    · exact lt2_trans (hp i (k - 1) hi (by omega) h) hl
    · have e : i = k - 1 := by omega
      subst e; exact hl
  unfold insK
  rw [List.pairwise_append, List.pairwise_cons]
  refine ⟨hO.sublist (List.take_sublist ..), ⟨fun y hy => ?_, hO.sublist (List.drop_sublist ..)⟩, fun y hy z hz => ?_⟩
  · obtain ⟨i, hi, rfl⟩ := List.mem_iff_getElem.1 hy
    rw [List.length_drop] at hi
    rw [List.getElem_drop]
    exact h1 _ (by omega) (by omega)
  · obtain ⟨i, hi, rfl⟩ := List.mem_iff_getElem.1 hy
    rw [List.length_take] at hi
    rw [List.getElem_take]
    rcases List.mem_cons.1 hz with rfl | hz
    · exact low i (by omega) (by omega)
    · obtain ⟨j, hj, rfl⟩ := List.mem_iff_getElem.1 hz
      rw [List.length_drop] at hj
      rw [List.getElem_drop]
      exact hp i (k + j) (by omega) (by omega) (by omega)

theorem shift_step {O : List (Int × Int)} {y : Int × Int} {j : Nat} (h0 : 0 < j) (hj : j ≤ O.length) :
    (O.take j ++ y :: O.drop j).set j (O[j - 1]'(by omega)) = O.take (j - 1) ++ (O[j - 1]'(by omega)) :: O.drop (j - 1) := by
  have hl : (O.take j).length = j := by rw [List.length_take]; omega
  rw [List.set_append, if_neg (by omega), hl, Nat.sub_self, List.set_cons_zero]
  obtain ⟨i, rfl⟩ : ∃ i, j = i + 1 := ⟨j - 1, by omega⟩
  simp only [Nat.add_sub_cancel]
  rw [List.take_succ_eq_append_getElem (by omega), List.append_assoc, List.singleton_append, ← List.drop_eq_getElem_cons (by omega)]

theorem shift_end {O : List (Int × Int)} {x y : Int × Int} {k : Nat} (hk : k ≤ O.length) : (O.take k ++ y :: O.drop k).set k x = insK O x k := by
  have hl : (O.take k).length = k := by rw [List.length_take]; omega
  unfold insK
  rw [List.set_append, if_neg (by omega), hl, Nat.sub_self, List.set_cons_zero]

theorem row_there {w : World} {base k n g cap : Nat} {e : TypeId} {xs : List Value} (h : w.ownsRow base e k (.slice (some ⟨g, 0, none⟩) n cap) n xs) {o m : Nat} (hm : o + m ≤ n * k) : w.there g o m := fun j hj =>
  ⟨by rw [h.cellAt (o + j) (by omega), List.getElem?_eq_getElem (by rw [h.1]; omega)]; rfl, h.frozenAt _⟩

theorem owns_store3 {w : World} {base k n g cap : Nat} {e : TypeId} {xs : List Value} (h : w.ownsRow base e k (.slice (some ⟨g, 0, none⟩) n cap) n xs) (o : Nat) (a b c : Value) :
    (w.setCells g o [a, b, c]).ownsRow base e k (.slice (some ⟨g, 0, none⟩) n cap) n (((xs.set o a).set (o + 1) b).set (o + 1 + 1) c) :=
  (((h.stored o a).1.stored (o + 1) b).1.stored (o + 1 + 1) c).1

theorem flat_set3 (ln : Int) (y : Int × Int) : ∀ (L : List (Int × Int)) (j : Nat), (((L.flatMap (encT ln)).set (j * 3) (.int .i64 y.1)).set (j * 3 + 1) (.int .i64 y.2)).set (j * 3 + 1 + 1) (.int .i64 (y.2 + ln)) = (L.set j y).flatMap (encT ln)
  | [], j => by simp
  | x :: r, 0 => by simp [encT]
  | x :: r, j + 1 => by
    have h := flat_set3 ln y r j
    rw [show (j + 1) * 3 = j * 3 + 1 + 1 + 1 by omega]
    simp only [List.flatMap_cons, encT, List.cons_append, List.nil_append, List.set_cons_succ, List.cons.injEq, true_and]
    exact h

theorem ownT_store {ln : Int} {base g cap : Nat} {w : World} {L : List (Int × Int)} (h : OwnT ln base w (.slice (some ⟨g, 0, none⟩) L.length cap) L) (j : Nat) (y : Int × Int) :
    OwnT ln base (w.setCells g (j * 3) [.int .i64 y.1, .int .i64 y.2, .int .i64 (y.2 + ln)]) (.slice (some ⟨g, 0, none⟩) (L.set j y).length cap) (L.set j y) := by
  have h2 := owns_store3 h (j * 3) (.int .i64 y.1) (.int .i64 y.2) (.int .i64 (y.2 + ln))
  unfold OwnT
  rw [List.length_set, ← flat_set3]
  exact h2

theorem set3_below {B : Nat} {w0 w : World} {b o : Nat} {u v x : Value} (h : Below B w0 w) (hb : B ≤ b) : Below B w0 (w.setCells b o [u, v, x]) := ((h.setCell hb u).setCell hb v).setCell hb x

theorem ownT_cells {ln : Int} {base g cap : Nat} {w : World} {L : List (Int × Int)} (h : OwnT ln base w (.slice (some ⟨g, 0, none⟩) L.length cap) L) (i : Nat) (hi : i < L.length) :
    w.cell? ⟨g, i * 3, none⟩ = some (.int .i64 L[i].1) ∧ w.cell? ⟨g, i * 3 + 1, none⟩ = some (.int .i64 L[i].2) ∧ w.cell? ⟨g, i * 3 + 2, none⟩ = some (.int .i64 (L[i].2 + ln)) := by
  have q : ∀ (o : Nat) (ho : o < 3), w.cell? ⟨g, i * 3 + o, none⟩ = (encT ln L[i])[o]? := fun o ho => by
    rw [World.ownsRow.cellAt h (i * 3 + o) (by omega)]
    exact flatMap_at (enc := encT ln) (k := 3) (fun _ => rfl) L i o hi ho
  exact ⟨q 0 (by omega), q 1 (by omega), q 2 (by omega)⟩

def mid (O : List (Int × Int)) (y : Int × Int) (i : Nat) : List (Int × Int) := O.take i ++ y :: O.drop i

theorem mid_len {O : List (Int × Int)} {y : Int × Int} {i : Nat} : (mid O y i).length = O.length + 1 := insK_len

theorem mid_at {O : List (Int × Int)} {y : Int × Int} {i : Nat} (h : 0 < i) (hi : i ≤ O.length) : (mid O y i)[i - 1]'(by rw [mid_len]; omega) = O[i - 1]'(by omega) := by
  unfold mid
  rw [List.getElem_append_left (by rw [List.length_take]; omega), List.getElem_take]

theorem mid_step {O : List (Int × Int)} {y : Int × Int} {i : Nat} (h0 : 0 < i) (hi : i ≤ O.length) : (mid O y i).set i (O[i - 1]'(by omega)) = mid O (O[i - 1]'(by omega)) (i - 1) := shift_step h0 hi

theorem mid_end {O : List (Int × Int)} {x y : Int × Int} {k : Nat} (hk : k ≤ O.length) : (mid O y k).set k x = insK O x k := shift_end hk

theorem mid_start (O : List (Int × Int)) (x : Int × Int) : O ++ [x] = mid O x O.length := by unfold mid; rw [List.take_length, List.drop_length]

structure SoFar (ah : Int) (Z : List (Int × Int)) (C : List (Int × Int)) (ln a b : Int) (K : List Int) (O : List (Int × Int)) : Prop where
  ord : O.Pairwise Lt2
  mem : ∀ y, y ∈ O ↔ ∃ t ∈ K, winT ah Z C ln a b t = some y
  len : O.length ≤ K.length

theorem SoFar.nil {ah : Int} {Z : List (Int × Int)} {C : List (Int × Int)} {ln a b : Int} : SoFar ah Z C ln a b [] [] := ⟨List.Pairwise.nil, fun y => by simp, Nat.le_refl _⟩

theorem SoFar.skip {ah : Int} {Z : List (Int × Int)} {C : List (Int × Int)} {ln a b : Int} {L : List Int} {k : Nat} {O : List (Int × Int)} (h : SoFar ah Z C ln a b (L.take k) O) (hk : k < L.length) (hw : winT ah Z C ln a b L[k] = none) : SoFar ah Z C ln a b (L.take (k + 1)) O := by
  rw [List.take_succ_eq_append_getElem hk]
  refine ⟨h.ord, fun y => ?_, by have := h.len; rw [List.length_append]; omega⟩
  rw [h.mem]
  constructor
  · rintro ⟨t, ht, e⟩; exact ⟨t, List.mem_append_left _ ht, e⟩
  · rintro ⟨t, ht, e⟩
    rcases List.mem_append.1 ht with ht | ht
    · exact ⟨t, ht, e⟩
    · rw [List.mem_singleton.1 ht, hw] at e; cases e

theorem SoFar.put {ah : Int} {Z : List (Int × Int)} {C : List (Int × Int)} {ln a b : Int} {L : List Int} {k j : Nat} {O : List (Int × Int)} {x : Int × Int} (h : SoFar ah Z C ln a b (L.take k) O) (hL : L.Pairwise (· < ·)) (hk : k < L.length) (hw : winT ah Z C ln a b L[k] = some x) (hj : j ≤ O.length)
    (h1 : ∀ i (hi : i < O.length), j ≤ i → Lt2 x O[i]) (h2 : ∀ (h : 0 < j), ¬ Lt2 x (O[j - 1]'(by omega))) : SoFar ah Z C ln a b (L.take (k + 1)) (insK O x j) := by
  have hne : ∀ y ∈ O, y ≠ x := fun y hy e => by
    subst e
    obtain ⟨t, ht, e⟩ := (h.mem y).1 hy
    have e1 := (oneT_which (winT_mem.1 e).1).1
    have e2 := (oneT_which (winT_mem.1 hw).1).1
    obtain ⟨i, hi, rfl⟩ := List.mem_iff_getElem.1 ht
    rw [List.length_take] at hi
    have h3 := List.pairwise_iff_getElem.1 hL i k (by omega) hk (by omega)
    rw [List.getElem_take] at e1
    omega
  rw [List.take_succ_eq_append_getElem hk]
  refine ⟨insK_ord h.ord hj hne h1 h2, fun y => ?_, by have := h.len; rw [insK_len, List.length_append, List.length_singleton]; omega⟩
  rw [insK_mem, h.mem]
  constructor
  · rintro (⟨t, ht, e⟩ | rfl)
    · exact ⟨t, List.mem_append_left _ ht, e⟩
    · exact ⟨_, List.mem_append_right _ (List.mem_singleton.2 rfl), hw⟩
  · rintro ⟨t, ht, e⟩
    rcases List.mem_append.1 ht with ht | ht
    · exact .inl ⟨t, ht, e⟩
    · rw [List.mem_singleton.1 ht, hw] at e; exact .inr (Option.some.inj e).symm

def lookL (T M N : List Int) (C : List (Int × Int)) (a b : Int) : List Int := (chgR T M N C).foldl putL (evL T M N (a - 3000) (b + 3000))

theorem between_ref {ah : Int} {Z : List (Int × Int)} {T M N : List Int} {C : List (Int × Int)} {ln a b : Int} (hz : MayZ ah Z) (hC : C.Pairwise (fun x y => x.1 < y.1)) (h1 : ∀ c ∈ C, 1 ≤ c.1) {O : List (Int × Int)} (hO : O.Pairwise Lt2)
    (hm : ∀ y, y ∈ O ↔ ∃ t ∈ lookL T M N C a b, winT ah Z C ln a b t = some y) : O = tmsOf ah Z T M N C ln a b := by
  refine ord_ext lt2_irr lt2_trans _ _ hO (tmsOf_ord ..) fun y => ?_
  rw [hm, tmsOf_mem hz hC]
  unfold lookL
  constructor
  · rintro ⟨t, ht, hw⟩
    obtain ⟨g1, g2, g3⟩ := winT_mem.1 hw
    have e := (oneT_which g1).1
    rw [e]
    refine ⟨?_, g1, g2, g3⟩
    rcases (putF_mem _ _ _).1 ht with ht | ht
    · exact (evL_is.1 ht).1
    · exact ((chgR_mem hC h1).1 ht).2
  · rintro ⟨g1, g2, g3, g4⟩
    refine ⟨y.1, (putF_mem _ _ _).2 ?_, winT_mem.2 ⟨g2, g3, g4⟩⟩
    cases hf : C.find? (fun c => c.1 == y.1) with
    | none =>
      left
      have hmm := (oneT_which g2).2.2.2.2
      rw [reallyC, hf] at hmm
      have := (zoneAll_mem.1 hmm).2
      have := hz y.2
      simp only at *
      exact evL_is.2 ⟨g1, by omega, by omega⟩
    | some c =>
      right
      have h5 := List.mem_of_find?_eq_some hf
      have h6 : c.1 = y.1 := by simpa using List.find?_some hf
      exact (chgR_mem hC h1).2 ⟨⟨c, h5, h6⟩, g1⟩

end Go.Proofs.YtgelojhpanbnaaaGreatDoor

namespace Go.Proofs.YtgelojhpanbnaaaGreatDoor
open Go.RowKit Go.Shelf
set_option linter.unusedSimpArgs false
set_option linter.unusedVariables false

theorem results_rtm {tmps : Array Value} {W : World} {p : Nat} {b : Bool} {v1 v2 v3 : Value} (h6 : tmps[6]?.getD undef = .pointer (some ⟨p, 0, none⟩)) (h7 : tmps[7]?.getD undef = .bool b)
    (c0 : W.cell? ⟨p, 0, none⟩ = some v1) (c1 : W.cell? ⟨p, 1, none⟩ = some v2) (c2 : W.cell? ⟨p, 2, none⟩ = some v3) : (results Tryz.f170 tmps).run Tryz.prog W = .ok (.tuple #[.agg #[v1, v2, v3], .bool b]) W := by
  simp only [results, show Tryz.f170.results = #[.cell 6 54, .tmp 7] from rfl]
  simp [Sem.run_bind, Result.andThen, h6, h7, asAddr, loadVar, isAgg, underlying, Tryz.isAgg54, c0, c1, c2, loadCells, loadCellsFrom, load, Addr.add, Sem.run, go_sem]

def RtmP (ln : Int) (o : Option (Int × Int)) (w : World) (e : Ending) (w' : World) : Prop := ∃ (x y z : Int) (b : Bool), e = .returned (.tuple #[.agg #[.int .i64 x, .int .i64 y, .int .i64 z], .bool b]) ∧ (b = true → o = some (x, y) ∧ z = y + ln) ∧ (b = false → o = none) ∧ Below w.heap.size w w'

set_option maxRecDepth 100000 in
set_option maxHeartbeats 8000000 in
theorem rtm_any (snm stx : ByteArray) (st ln : Int) (rp : Bool) (fr ev ct ti : Int) (vm vd vw vp vM vN vC vA : Value) (mo da : List Int) (we : List (Int × Int)) (pk M N : List Int) (C : List (Int × Int)) (A : List Alm) (ah : Int) (vZ : Value) (Z : List (Int × Int)) (t : Int) (w : World)
    (hR : EvR w vm vd vw vp vM vN vC vA mo da we pk M N C A) (hF : EvFacts st ln rp fr ev ct ti mo da we pk M N C A) (hZ : PairsR w vZ Z) (hz : zfault ah Z = 0) (ht : 0 ≤ (reallyC C t).1 ∧ (reallyC C t).1 < 157785120) :
    Calls Tryz.prog 170 #[.agg #[.int .i64 ah, vZ], .agg #[.string snm, .string stx, .int .i64 st, .int .i64 ln, .bool rp, .int .i64 fr, .int .i64 ev, .int .i64 ct, .int .i64 ti, vm, vd, vw, vp, vM, vN, vC, vA], .int .i64 t] w (RtmP ln (oneT ah Z C ln t) w) := by
  obtain ⟨h1, h2, h3, h4, hM, hN, hC, hA⟩ := hR
  obtain ⟨am, km, rfl, -, -, -⟩ := intsR_open h1
  obtain ⟨ad, kd, rfl, -, -, -⟩ := intsR_open h2
  obtain ⟨aw, kw, rfl, -, -, -⟩ := pairsR_open h3
  obtain ⟨ap, kp, rfl, -, -, -⟩ := intsR_open h4
  obtain ⟨aM, kM, rfl, -, -, -⟩ := intsR_open hM
  obtain ⟨aN, kN, rfl, -, -, -⟩ := intsR_open hN
  obtain ⟨aC, kC, rfl, -, kC2, hds⟩ := pairsR_open hC
  obtain ⟨aA, kA, rfl, -, -, -⟩ := almsR_open hA
  unfold maxLen at kC2
  obtain ⟨aZ, kZ, rfl, -, -, -⟩ := pairsR_open hZ
  obtain ⟨eb, heb⟩ : ∃ x, x = w.heap.size := ⟨_, rfl⟩
  obtain ⟨wz, hwz⟩ : ∃ x, x = w.alloc (.cells #[.int .i64 ah, .slice aZ Z.length kZ] 33) := ⟨_, rfl⟩
  have hbz : Below w.heap.size w wz := by rw [hwz]; exact (Below.refl _ _).alloc (Nat.le_refl _) _
  have hsz : wz.heap.size = eb + 1 := by rw [hwz, heb]; simp
  have z0 : wz.cell? ⟨eb, 0, none⟩ = some (.int .i64 ah) := by rw [hwz, heb]; simp
  have z1 : wz.cell? ⟨eb, 1, none⟩ = some (.slice aZ Z.length kZ) := by rw [hwz, heb]; simp
  obtain ⟨w0, hw0⟩ : ∃ x, x = wz.alloc (.cells #[.string snm, .string stx, .int .i64 st, .int .i64 ln, .bool rp, .int .i64 fr, .int .i64 ev, .int .i64 ct, .int .i64 ti, .slice am mo.length km, .slice ad da.length kd, .slice aw we.length kw, .slice ap pk.length kp, .slice aM M.length kM, .slice aN N.length kN, .slice aC C.length kC, .slice aA A.length kA] 29) := ⟨_, rfl⟩
  have hb0 : Below wz.heap.size wz w0 := by rw [hw0]; exact (Below.refl _ _).alloc (Nat.le_refl _) _
  have hs0 : w0.heap.size = eb + 1 + 1 := by rw [hw0]; simp [hsz]
  have ec := hw0 ▸ evC_new wz 29 snm stx st ln rp fr ev ct ti (.slice am mo.length km) (.slice ad da.length kd) (.slice aw we.length kw) (.slice ap pk.length kp) (.slice aM M.length kM) (.slice aN N.length kN) (.slice aC C.length kC) (.slice aA A.length kA)
  rw [hsz] at ec
  obtain ⟨w1, hw1⟩ : ∃ x, x = w0.alloc (.cells #[.int .i64 0, .int .i64 0, .int .i64 0] 54) := ⟨_, rfl⟩
  have hb1 : Below w0.heap.size w0 w1 := by rw [hw1]; exact (Below.refl _ _).alloc (Nat.le_refl _) _
  have hs1 : w1.heap.size = eb + 1 + 1 + 1 := by rw [hw1]; simp [hs0]
  have hh1 : w1.heap[eb + 1 + 1]? = some (.cells #[.int .i64 0, .int .i64 0, .int .i64 0] 54 (0, 0)) := by rw [hw1, ← hs0]; exact heap_alloc_new _ _
  have z0 := cell_below hb1 (cell_below hb0 z0); have z1 := cell_below hb1 (cell_below hb0 z1)
  have hbw : Below w.heap.size w w1 := (hbz.trans (hb0.mono hbz.size)).trans (hb1.mono (Nat.le_trans hbz.size hb0.size))
  obtain ⟨rt, hrt⟩ : ∃ r, r = reallyC C t := ⟨_, rfl⟩
  obtain ⟨OT, hOT⟩ : ∃ o, o = oneT ah Z C ln t := ⟨_, rfl⟩
  rw [← hOT]
  have RA := Lib.hid (show Calls Tryz.prog 121 #[.agg #[.string snm, .string stx, .int .i64 st, .int .i64 ln, .bool rp, .int .i64 fr, .int .i64 ev, .int .i64 ct, .int .i64 ti, .slice am mo.length km, .slice ad da.length kd, .slice aw we.length kw, .slice ap pk.length kp, .slice aM M.length kM, .slice aN N.length kN, .slice aC C.length kC, .slice aA A.length kA], .int .i64 t] w1 (fun e w' => e = .returned (.tuple #[.int .i64 rt.1, .bool (!rt.2)]) ∧ Below w1.heap.size w1 w') by
    rw [hrt]
    exact rreally_any snm stx st ln rp fr ev ct ti _ _ _ _ _ _ _ _ mo da we pk M N C A t w1 rfl rfl rfl rfl rfl rfl rfl (hC.below hbw) (Nat.le_trans hF.lenC (by decide)))
  have ZA := Lib.hid (show ∀ wx, Below w1.heap.size w1 wx → Calls Tryz.prog 220 #[.agg #[.int .i64 ah, .slice aZ Z.length kZ], .int .i64 rt.1] wx (fun e w' => ∃ u, e = .returned u ∧ IntsR w' u (zoneAll ah Z rt.1) ∧ Below wx.heap.size wx w') from fun wx hbx => by
    rw [← hrt] at ht
    refine (rtwice_any _ Z ah rt.1 wx (hZ.below (hbw.trans (hbx.mono hbw.size))) hz ht.1 ht.2).mono ?_
    rintro e w' ⟨u, e1, e2, e3⟩
    exact ⟨u, e1, ownsRow_reads e2, e3⟩)
  have LN := Lib.hid hF.ln
  have EC := Lib.hid (ec.below hb1); have BW := Lib.hid hbw; have WZ := Lib.hid hwz; have W0 := Lib.hid hw0; have W1 := Lib.hid hw1; have EB := Lib.hid heb
  have H1 := Lib.hid hh1; have S1 := Lib.hid hs1; have Z0 := Lib.hid z0; have Z1 := Lib.hid z1
  have OE := Lib.hid (show OT = if rt.2 = true then none else match zoneAll ah Z rt.1 with
    | [] => none
    | x :: _ => if timeB (x + ln) = true then some (t, x) else none by rw [hOT, hrt]; rfl)
  have ZM := Lib.hid (show ∀ x ∈ zoneAll ah Z rt.1, 1 ≤ x ∧ x < 157785120 from fun x hx => timeB_yes (zoneAll_mem.1 hx).1)
  obtain ⟨r1, r2⟩ := rt
  simp only at RA ZA OE ZM
  clear h1 h2 h3 h4 hM hN hC hA hF hZ hz ht hwz hbz hsz z0 z1 hw0 hb0 hs0 ec hw1 hb1 hs1 hh1 hbw hrt hOT heb hds
  go_enter Tryz.func170, Tryz.ntmps170
  go_upto_region 1 with fail
  rw [← WZ.out, ← W0.out, ← W1.out]
  rw [← EB.out]
  have k0 := EC.out.k0; have k1 := EC.out.k1; have k2 := EC.out.k2; have k3 := EC.out.k3; have k4 := EC.out.k4; have k5 := EC.out.k5; have k6 := EC.out.k6; have k7 := EC.out.k7; have k8 := EC.out.k8; have k9 := EC.out.k9; have k10 := EC.out.k10; have k11 := EC.out.k11; have k12 := EC.out.k12; have k13 := EC.out.k13; have k14 := EC.out.k14; have k15 := EC.out.k15; have k16 := EC.out.k16
  go_cut [8, 9] (fun s8 s9 wx => s8 = .int .i64 r1 ∧ s9 = .bool (!r2) ∧ Below w1.heap.size w1 wx)
  case first => as_aux_lemma =>
    go_wp2_with fail
    refine RA.out.mono ?_; rintro e w2 ⟨rfl, hb⟩
    have HB := Lib.hid hb
    clear hb k0 k1 k2 k3 k4 k5 k6 k7 k8 k9 k10 k11 k12 k13 k14 k15 k16
    go_wp2
    go_meet
    exact ⟨rfl, rfl, HB.out⟩
  case rest =>
  clear k0 k1 k2 k3 k4 k5 k6 k7 k8 k9 k10 k11 k12 k13 k14 k15 k16
  obtain ⟨rfl, rfl, hb2⟩ := hcut
  obtain ⟨w2, rfl⟩ : ∃ x, x = wc := ⟨_, rfl⟩
  have B2 := Lib.hid hb2
  have z0 := cell_below hb2 Z0.out
  have z1 := cell_below hb2 Z1.out
  have STO := Lib.hid (show ∀ wx, Below w1.heap.size w1 wx → wx.there (eb + 1 + 1) 0 3 ∧ (∀ a b c, (wx.setCells (eb + 1 + 1) 0 [a, b, c]).cell? ⟨eb + 1 + 1, 0, none⟩ = some a ∧ (wx.setCells (eb + 1 + 1) 0 [a, b, c]).cell? ⟨eb + 1 + 1, 1, none⟩ = some b ∧ (wx.setCells (eb + 1 + 1) 0 [a, b, c]).cell? ⟨eb + 1 + 1, 2, none⟩ = some c) ∧ (∀ a b c, Below w.heap.size w (wx.setCells (eb + 1 + 1) 0 [a, b, c])) from fun wx hbx => by
    have hh := (hbx.block (eb + 1 + 1) (by have := S1.out; omega)).trans H1.out
    exact ⟨one_there hh, fun a b c => one_cells (a := a) (b := b) (c := c) hh, fun a b c => one_below (BW.out.trans (hbx.mono BW.out.size)) (by rw [EB.out]; omega)⟩)
  clear hb2
  cases r2
  · obtain ⟨K, hK⟩ : ∃ K, K = zoneAll ah Z r1 := ⟨_, rfl⟩
    rw [← hK] at OE ZM ZA
    simp only [Bool.not_false]
    go_upto_region 4 with fail
    go_cut [10] (fun s10 wx => IntsR wx s10 K ∧ Below w2.heap.size w2 wx)
    case first => as_aux_lemma =>
      go_wp2_with fail
      refine (ZA.out _ B2.out).mono ?_; rintro e w3 ⟨u, rfl, hu, hb⟩
      have HU := Lib.hid hu; have HB := Lib.hid hb
      clear hu hb z0 z1
      go_wp2
      go_meet
      exact ⟨HU.out, HB.out⟩
    case rest =>
    obtain ⟨hu, hb3⟩ := hcut
    obtain ⟨w3, rfl⟩ : ∃ x, x = wc := ⟨_, rfl⟩
    have B3 := Lib.hid (B2.out.trans (hb3.mono B2.out.size))
    obtain ⟨ak, ck, rfl, -, ck2, hcs⟩ := intsR_open hu
    unfold maxLen at ck2
    clear hb3 hu z0 z1 hK
    cases K with
    | nil =>
      obtain ⟨T3, RS, SB⟩ := STO.out _ B3.out
      have hO : OT = none := by rw [OE.out]; rfl
      have T3 := Lib.hid T3; have RS := Lib.hid RS; have SB := Lib.hid SB
      have HO := Lib.hid hO
      clear hcs OE ZM ZA hO STO
      go_wp2_with (refine wpList_store_mid rfl 54 _ _ rfl (eb + 1 + 1) 0 #[.int .i64 0, .int .i64 0, .int .i64 0] rfl rfl T3.out (by kernel_rfl) (by simp [Value.oneCell']) ?_)
      refine bodyPost_ret (results_rtm rfl rfl (RS.out _ _ _).1 (RS.out _ _ _).2.1 (RS.out _ _ _).2.2) rfl ?_
      exact ⟨_, _, _, _, rfl, (fun h => by cases h), (fun _ => HO.out), SB.out _ _ _⟩
    | cons x r =>
      obtain ⟨b4, o4, rfl, hc4⟩ := hcs (by simp)
      have g0 := hc4 0 (by simp)
      rw [Nat.add_zero] at g0
      have g0 : w3.cell? ⟨b4, o4, none⟩ = some (.int .i64 x) := g0
      obtain ⟨x1, x2⟩ := ZM.out x List.mem_cons_self
      obtain ⟨l1, l2⟩ := LN.out
      have WR : IntKind.i64.wrap (x + ln) = x + ln := IntWalk.i64_in _ (by omega)
      have d2 : 0 < (x :: r).length := by simp
      obtain ⟨n, hn⟩ : ∃ n, n = (x :: r).length := ⟨_, rfl⟩
      rw [← hn] at d2 ⊢
      have d1 : ((n : Int) == 0) = false := by rw [beq_eq_false_iff_ne]; omega
      have d3 : (0 : Int) < (n : Int) := by omega
      have k3 := (EC.out.below B3.out).k3
      obtain ⟨q, hq⟩ : ∃ q, q = timeB (x + ln) := ⟨_, rfl⟩
      have OQ := Lib.hid (show OT = if q = true then some (t, x) else none by rw [OE.out, hq]; rfl)
      have RT := Lib.hid (show ∀ wx, Calls Tryz.prog 44 #[.int .i64 (x + ln)] wx (fun e w' => e = .returned (.bool q) ∧ wx = w') from fun wx => by rw [hq]; exact rtime_any (x + ln) wx)
      clear hcs hc4 hn hq OE ZM ZA
      go_upto_region 7 with fail
      have hlB : b4 < w3.heap.size := World.block_lt_of_cell? w3 _ g0
      have hlE : eb + 1 < w3.heap.size := World.block_lt_of_cell? w3 _ k3
      go_region_held3 (fun w' => w'.cell? ⟨b4, o4, none⟩ = some (.int .i64 x) ∧ w'.cell? ⟨eb + 1, 3, none⟩ = some (.int .i64 ln))
        (first | (refine ⟨?_, ?_⟩ <;> assumption) | (refine ⟨?_, ?_⟩ <;> (first | exact cell_below (Below.drew (Below.refl _ _)) g0 | exact cell_below (Below.drew (Below.refl _ _)) k3 | exact cell_below (Below.alloc (Below.refl _ _) (Nat.le_refl _) _) g0 | exact cell_below (Below.alloc (Below.refl _ _) (Nat.le_refl _) _) k3 | exact cell_below (Below.drew (Below.alloc (Below.refl _ _) (Nat.le_refl _) _)) g0 | exact cell_below (Below.drew (Below.alloc (Below.refl _ _) (Nat.le_refl _) _)) k3)) | go_keep)
        (fail)
      obtain ⟨w4, hw4⟩ : ∃ z, z = (w3.alloc (.cells #[.int .i64 t, .int .i64 x, .int .i64 (x + ln)] 54)).drew := ⟨_, rfl⟩
      obtain ⟨g, hg⟩ : ∃ z, z = w3.heap.size := ⟨_, rfl⟩
      have hB4 : Below w1.heap.size w1 w4 := by rw [hw4]; exact (B3.out.alloc B3.out.size _).drew
      have c0 : w4.cell? ⟨g, 0, none⟩ = some (.int .i64 t) := by rw [hw4, hg]; exact (show (w3.alloc _).cell? _ = _ by simp)
      have c1 : w4.cell? ⟨g, 1, none⟩ = some (.int .i64 x) := by rw [hw4, hg]; exact (show (w3.alloc _).cell? _ = _ by simp)
      have c2 : w4.cell? ⟨g, 2, none⟩ = some (.int .i64 (x + ln)) := by rw [hw4, hg]; exact (show (w3.alloc _).cell? _ = _ by simp)
      obtain ⟨T4, RS4, SB4⟩ := STO.out _ hB4
      have T4 := Lib.hid T4; have RS4 := Lib.hid RS4; have SB4 := Lib.hid SB4
      rw [← hw4, ← hg]
      clear hw4 hg hB4 g0 k3 hlB hlE STO
      go_wp2_with (first
        | (go_at_call 44; refine (RT.out _).mono ?_; rintro e w' ⟨rfl, rfl⟩)
        | (refine wpList_store_mid rfl 54 _ _ rfl (eb + 1 + 1) 0 #[.int .i64 t, .int .i64 x, .int .i64 (x + ln)] rfl rfl T4.out (by kernel_rfl) (by simp [Value.oneCell']) ?_))
      refine bodyPost_ret (results_rtm rfl rfl (RS4.out _ _ _).1 (RS4.out _ _ _).2.1 (RS4.out _ _ _).2.2) rfl ?_
      exact ⟨_, _, _, _, rfl, (fun h => by rw [OQ.out, if_pos h]; exact ⟨rfl, rfl⟩), (fun h => by rw [OQ.out, if_neg (by rw [h]; simp)]), SB4.out _ _ _⟩
  · have hO : OT = none := by rw [OE.out]; rfl
    obtain ⟨T3, RS, SB⟩ := STO.out _ B2.out
    have T3 := Lib.hid T3; have RS := Lib.hid RS; have SB := Lib.hid SB
    have HO := Lib.hid hO
    simp only [Bool.not_true]
    clear OE ZM ZA hO STO z0 z1
    go_wp2_with (refine wpList_store_mid rfl 54 _ _ rfl (eb + 1 + 1) 0 #[.int .i64 0, .int .i64 0, .int .i64 0] rfl rfl T3.out (by kernel_rfl) (by simp [Value.oneCell']) ?_)
    refine bodyPost_ret (results_rtm rfl rfl (RS.out _ _ _).1 (RS.out _ _ _).2.1 (RS.out _ _ _).2.2) rfl ?_
    exact ⟨_, _, _, _, rfl, (fun h => by cases h), (fun _ => HO.out), SB.out _ _ _⟩

end Go.Proofs.YtgelojhpanbnaaaGreatDoor
