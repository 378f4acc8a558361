/- The law LineBack: what is escaped is plain again; what is folded is unfolded; what is read is written so. The walk. Conditions: the text and the pieces together hold at most 1048576 bytes and pieces. -/
import Derived.Test.YtdpngbjlljgoaaaLineP
import Derived.Deep.DeepCutAuto
import Derived.Deep.CutBlock
import Derived.Outline
namespace Go.Proofs.Ytdpngbjlljgoaaa
open Go.RowKit Go.Shelf
set_option linter.unusedSimpArgs false
set_option linter.unusedVariables false

theorem plain_yes (l : List UInt8) (w : World) (hs : l.length ≤ 4194304) (h : esc (unesc l) = l) :
    Calls Try.prog 9 #[.string (bs l)] w fun e w' => e = .returned (.tuple #[.string (bs (unesc l)), .nilIface]) ∧ Below w.heap.size w w' :=
  plain_loop l w hs true (decide_eq_true h)

theorem plain_no (l : List UInt8) (w : World) (hs : l.length ≤ 4194304) (h : esc (unesc l) ≠ l) :
    Calls Try.prog 9 #[.string (bs l)] w fun e w' => e = .returned (.tuple #[.string (bs []), .iface 65 (.int .i64 2)]) ∧ Below w.heap.size w w' :=
  plain_loop l w hs false (decide_eq_false h)

theorem unfold_yes (v : Value) (L : List (List UInt8)) (w : World) (hL : StrsR w v L) (hs : L.flatten.length ≤ 4194304) (h : foldL (unfoldL L) = L) :
    Calls Try.prog 10 #[v] w fun e w' => e = .returned (.tuple #[.string (bs (unfoldL L)), .nilIface]) ∧ Below w.heap.size w w' :=
  unfold_loop v L w hL hs true (decide_eq_true h)

theorem unfold_no (v : Value) (L : List (List UInt8)) (w : World) (hL : StrsR w v L) (hs : L.flatten.length ≤ 4194304) (h : foldL (unfoldL L) ≠ L) :
    Calls Try.prog 10 #[v] w fun e w' => e = .returned (.tuple #[.string (bs []), .iface 65 (.int .i64 2)]) ∧ Below w.heap.size w w' :=
  unfold_loop v L w hL hs false (decide_eq_false h)

theorem plain_or (l : List UInt8) (w : World) (hs : l.length ≤ 4194304) :
    Calls Try.prog 9 #[.string (bs l)] w fun e w' => ∃ c ev, e = .returned (.tuple #[.string c, ev]) ∧ Hid ((ev = .nilIface ∧ c = bs (unesc l) ∧ esc (unesc l) = l) ∨ (ev = .iface 65 (.int .i64 2) ∧ c = bs [] ∧ esc (unesc l) ≠ l)) ∧ Below w.heap.size w w' := by
  by_cases h : esc (unesc l) = l
  · exact (plain_yes l w hs h).mono fun e w' ⟨h1, h2⟩ => ⟨_, _, h1, .inl ⟨rfl, rfl, h⟩, h2⟩
  · exact (plain_no l w hs h).mono fun e w' ⟨h1, h2⟩ => ⟨_, _, h1, .inr ⟨rfl, rfl, h⟩, h2⟩

theorem unfold_or (v : Value) (L : List (List UInt8)) (w : World) (hL : StrsR w v L) (hs : L.flatten.length ≤ 4194304) :
    Calls Try.prog 10 #[v] w fun e w' => ∃ c ev, e = .returned (.tuple #[.string c, ev]) ∧ Hid ((ev = .nilIface ∧ c = bs (unfoldL L) ∧ foldL (unfoldL L) = L) ∨ (ev = .iface 65 (.int .i64 2) ∧ c = bs [] ∧ foldL (unfoldL L) ≠ L)) ∧ Below w.heap.size w w' := by
  by_cases h : foldL (unfoldL L) = L
  · exact (unfold_yes v L w hL hs h).mono fun e w' ⟨h1, h2⟩ => ⟨_, _, h1, .inl ⟨rfl, rfl, h⟩, h2⟩
  · exact (unfold_no v L w hL hs h).mono fun e w' ⟨h1, h2⟩ => ⟨_, _, h1, .inr ⟨rfl, rfl, h⟩, h2⟩

theorem fold_ref (l : List UInt8) (w : World) (hs : l.length ≤ 140737488351232) :
    Calls Try.prog 8 #[.string (bs l)] w fun e w' => ∃ v, e = .returned v ∧ StrsR w' v (foldL l) ∧ Below w.heap.size w w' :=
  (fold_any l w hs).mono fun e w' ⟨v, h1, h2, h3⟩ => ⟨v, h1, strsR_of_owns h2, h3⟩

theorem foldRest_flat (l : List UInt8) : (foldRest l).flatten.length = l.length + (foldRest l).length := by
  induction h : l.length using Nat.strongRecOn generalizing l with
  | _ n ih =>
    by_cases hl : l = []
    · subst hl; rw [foldRest_nil]; simp at h; subst h; rfl
    · have hp := List.length_pos_iff.2 hl
      rw [foldRest_cons hl, List.flatten_cons, List.length_append, ih (l.drop 39).length (by simp; omega) (l.drop 39) rfl]
      simp
      omega

theorem foldL_flat (l : List UInt8) : (foldL l).flatten.length ≤ l.length + (foldL l).length := by
  rw [foldL, List.flatten_cons, List.length_append, foldRest_flat, List.length_cons]
  simp
  omega

set_option maxRecDepth 100000 in
set_option maxHeartbeats 2000000 in
theorem lineBack_any (s : List UInt8) (v : Value) (L : List (List UInt8)) (w : World) (hm : MaxL w) (hs : s.length ≤ 1048576) (hL : StrsR w v L) (hl : L.flatten.length ≤ 1048576) :
    Calls Try.prog 3 #[.string (bs s), v] w fun e w' => e = .returned (.bool true) ∧ Below w.heap.size w w' := by
  obtain ⟨va, vc, rfl, _, _, _⟩ := strsR_open hL
  have LR := Lib.hid hL; have M := Lib.hid hm
  clear hL hm
  have el := esc_len s
  have fl := foldL_len s
  have ff := foldL_flat s
  have ul := unfold_len L
  have unl := unesc_len s
  obtain ⟨S, hS⟩ : ∃ S, S = bs s := ⟨_, rfl⟩
  obtain ⟨F, hF⟩ : ∃ F, F = foldL s := ⟨_, rfl⟩
  rw [← hF] at fl ff
  rw [← hS]
  have SE := Lib.hid hS; have FE := Lib.hid hF
  have e1 := Lib.hid (show bs (esc [97, 59, 98]) = { data := #[97, 92, 59, 98] } from rfl)
  have e2 := Lib.hid (show (foldL []).length = 1 by rw [foldL_len]; rfl)
  have f1 : 1 ≤ F.length := by rw [fl]; omega
  have f2 : F.length ≤ s.length + 1 := by rw [fl]; omega
  clear fl
  have FU := Lib.hid (unfold_fold s)
  have UE := Lib.hid (unesc_esc s)
  have s1 : (S.toList != S.toList) = false := by simp
  have SH := Lib.hid (foldL_short s)
  clear hS hF
  go_enter Try.func3, Try.ntmps3
  go_wp2_with fail
  refine (escape_any [97, 59, 98] _ (by decide)).mono ?_; rintro e w1 ⟨rfl, hb1⟩
  rw [e1.out]
  have B := Lib.hid hb1; clear hb1
  go_wp2_with fail
  refine (fold_ref [] _ (by decide)).mono ?_; rintro e w2 ⟨v2, rfl, hv2, hb2⟩
  obtain ⟨a2, c2, rfl, -, -, -⟩ := strsR_open hv2
  rw [e2.out]
  have B := Lib.hid (B.out.trans (hb2.mono B.out.size)); clear hb2 hv2
  go_wp2_with fail
  rw [SE.out]
  refine (escape_any s _ (by omega)).mono ?_; rintro e w3 ⟨rfl, hb3⟩
  rw [← SE.out]
  have B := Lib.hid (B.out.trans (hb3.mono B.out.size)); clear hb3
  go_wp2_with fail
  refine (plain_yes (esc s) _ (by omega) (by rw [UE.out])).mono ?_; rintro e w4 ⟨rfl, hb4⟩
  rw [UE.out, ← SE.out]
  have B := Lib.hid (B.out.trans (hb4.mono B.out.size)); clear hb4
  go_wp2_with fail
  rw [SE.out]
  refine (fold_ref s _ (by omega)).mono ?_; rintro e w5 ⟨v5, rfl, hv5, hb5⟩
  rw [← SE.out]
  rw [← FE.out] at hv5
  obtain ⟨a5, c5, rfl, -, k5, h5⟩ := strsR_open hv5
  unfold maxLen at k5
  have B := Lib.hid (B.out.trans (hb5.mono B.out.size)); clear hb5
  have V5 := Lib.hid hv5; have H5 := Lib.hid h5
  clear hv5 h5
  go_wp2_with fail
  refine (unfold_yes _ F _ V5.out (by omega) (by rw [FE.out, FU.out])).mono ?_; rintro e w6 ⟨rfl, hb6⟩
  rw [show unfoldL F = s by rw [FE.out]; exact FU.out, ← SE.out]
  have V6 := Lib.hid (V5.out.below hb6)
  have B := Lib.hid (B.out.trans (hb6.mono B.out.size)); clear hb6
  obtain ⟨wq, rfl⟩ : ∃ wq, wq = w6 := ⟨_, rfl⟩
  go_upto_block 0 with fail
  go_cut [13] (fun s13 wx => Below wq.heap.size wq wx)
  case first => as_aux_lemma =>
    go_wp2_with fail
    go_loopg [11] F.length (fun g i wr => ∃ k : Nat, k ≤ F.length ∧ i = .int .i64 k ∧ g = F.length - k ∧ ∃ n, wr = wq.drewN n)
    case atStart => exact ⟨0, Nat.zero_le _, rfl, rfl, 0, rfl⟩
    case round =>
      obtain ⟨k, hk, rfl, hg, n, rfl⟩ := hrel
      have G := Lib.hid hg; clear hg
      by_cases hlt : k < F.length
      · obtain ⟨a6, c6, e6, _, _, hds⟩ := strsR_open V6.out
        obtain ⟨b1, off1, e7, hcs⟩ := hds (by omega)
        cases e6
        subst e7
        clear hds
        have c0 := hcs k hlt
        obtain ⟨x, hx⟩ : ∃ x, x = bs F[k] := ⟨_, rfl⟩
        rw [← hx] at c0
        have x1 : x.size ≤ 40 := by rw [hx, bs_size]; exact SH.out _ (by rw [← FE.out]; exact List.getElem_mem hlt)
        have x2 : decide ((40 : Int) < (x.size : Int)) = false := decide_eq_false (by omega)
        have x3 : decide (40 < x.size) = false := decide_eq_false (by omega)
        clear hcs hx
        have i1 : (0 : Int) ≤ (k : Int) := Int.natCast_nonneg _
        have i2 : (k : Int) < (F.length : Int) := by omega
        go_wp2
        go_roundg (F.length - (k + 1))
        case measure => rw [G.out]; omega
        case rel => exact ⟨k + 1, by omega, by go_num, rfl, _, rfl⟩
      · obtain rfl : k = F.length := by omega
        go_wp2
        go_meet
        exact below_drewN (Below.refl _ _) _
  case rest =>
  have hb := hcut
  have LR := Lib.hid (LR.out.below (B.out.trans (hb.mono B.out.size)))
  have M := Lib.hid (M.out.below (B.out.trans (hb.mono B.out.size)))
  have B := Lib.hid (B.out.trans (hb.mono B.out.size))
  clear hb hcut
  obtain ⟨wz, rfl⟩ : ∃ wz, wz = wc := ⟨_, rfl⟩
  go_wp2_with fail
  rw [SE.out]
  refine (plain_or s _ (by omega)).mono ?_; rintro e w7 ⟨c, ev, rfl, P7, hb7⟩
  rw [← SE.out]
  have LR := Lib.hid (LR.out.below hb7)
  have M := Lib.hid (M.out.below hb7)
  have B := Lib.hid (B.out.trans (hb7.mono B.out.size))
  clear hb7
  obtain ⟨wz, rfl⟩ : ∃ wz, wz = w7 := ⟨_, rfl⟩
  go_upto_region 15 with fail
  go_cut [84] (fun s84 wx => s84 = .bool false ∧ Below wz.heap.size wz wx)
  case first => as_aux_lemma =>
    rcases P7.out with ⟨rfl, rfl, h1⟩ | ⟨rfl, rfl, -⟩
    · have H1 := Lib.hid h1; clear h1
      go_wp2_with fail
      refine (escape_any (unesc s) _ (by omega)).mono ?_; rintro e w8 ⟨rfl, hb8⟩
      rw [H1.out, ← SE.out]
      go_wp2
      go_meet
      exact ⟨rfl, hb8⟩
    · go_wp2
      go_meet
      exact ⟨rfl, Below.refl _ _⟩
  case rest =>
  obtain ⟨rfl, hb⟩ := hcut
  have LR := Lib.hid (LR.out.below hb)
  have M := Lib.hid (M.out.below hb)
  have B := Lib.hid (B.out.trans (hb.mono B.out.size))
  clear hb
  obtain ⟨wy, rfl⟩ : ∃ wy, wy = wc := ⟨_, rfl⟩
  go_wp2_with fail
  refine (unfold_or _ L _ LR.out (by omega)).mono ?_; rintro e w7 ⟨d, ew, rfl, P8, hb7⟩
  have LR := Lib.hid (LR.out.below hb7)
  have M := Lib.hid (M.out.below hb7)
  have B := Lib.hid (B.out.trans (hb7.mono B.out.size))
  clear hb7
  obtain ⟨wv, rfl⟩ : ∃ wv, wv = w7 := ⟨_, rfl⟩
  go_upto_region 18 with fail
  go_cut [91] (fun s91 wx => ∃ b : Bool, s91 = .bool b ∧ Hid (b = true → d = bs (unfoldL L) ∧ foldL (unfoldL L) = L) ∧ wv = wx)
  case first => as_aux_lemma =>
    rcases P8.out with ⟨rfl, rfl, h1⟩ | ⟨rfl, rfl, -⟩
    · have H1 := Lib.hid h1; clear h1
      go_wp2
      go_meet
      exact ⟨true, rfl, Lib.hid (fun _ => ⟨by first | rfl | trivial, H1.out⟩), rfl⟩
    · go_wp2
      go_meet
      exact ⟨false, rfl, Lib.hid (fun h => by cases h), rfl⟩
  case rest =>
  obtain ⟨b, rfl, T1, rfl⟩ := hcut
  go_upto_if 91 with fail
  go_cut [13] (fun s13 wx => Below wv.heap.size wv wx)
  case first => as_aux_lemma =>
    cases b
    · go_wp2
      go_meet
      exact Below.refl _ _
    · obtain ⟨rfl, h1⟩ := T1.out rfl
      have H1 := Lib.hid h1; clear h1
      go_wp2_with fail
      refine (fold_ref (unfoldL L) _ (by omega)).mono ?_; rintro e w8 ⟨v8, rfl, hv8, hb8⟩
      rw [H1.out] at hv8
      have LR := Lib.hid (LR.out.below hb8)
      have V8 := Lib.hid hv8
      have B7 := Lib.hid hb8; clear hb8 hv8
      go_wp2_with fail
      refine (texts_any _ _ L L _ V8.out LR.out).mono ?_; rintro e w9 ⟨rfl, hb9⟩
      rw [show textsB L L = true by simp [textsB]]
      have B7 := Lib.hid (B7.out.trans (hb9.mono B7.out.size)); clear hb9
      go_wp2
      go_meet
      exact B7.out
  case rest =>
  have hb := hcut
  have M := Lib.hid (M.out.below hb)
  have B := Lib.hid (B.out.trans (hb.mono B.out.size))
  clear hb hcut
  obtain ⟨wx, rfl⟩ : ∃ wx, wx = wc := ⟨_, rfl⟩
  by_cases h1 : (pairF s).2.2 = 0
  · have P1 := Lib.hid (pairF_back h1)
    obtain ⟨k, hk⟩ : ∃ k, k = bs (pairF s).1 := ⟨_, rfl⟩
    obtain ⟨x, hx⟩ : ∃ x, x = bs (pairF s).2.1 := ⟨_, rfl⟩
    have E1 := Lib.hid (show errV (pairF s).2.2 = .nilIface by rw [h1]; rfl)
    have C1 := Lib.hid (show k ++ { data := #[58] } ++ x = S by rw [hk, hx, show ({ data := #[58] } : ByteArray) = bs [58] from rfl, bs_append, bs_append, SE.out, List.append_assoc]; exact congrArg bs P1.out)
    have hkx : k.size + 1 + x.size = s.length := by
      have := congrArg List.length P1.out
      rw [List.length_append, List.length_cons] at this
      rw [hk, hx, bs_size, bs_size]; omega
    have hk1 : k.size ≤ 1048576 := by omega
    have hx1 : x.size ≤ 1048576 := by omega
    clear hkx
    have K1 := Lib.hid hk; have X1 := Lib.hid hx
    clear hk hx h1
    go_wp2_with fail
    rw [SE.out]
    refine (pair_any s _ (by omega) M.out).mono ?_; rintro e w7 ⟨rfl, hb7⟩
    rw [← SE.out, E1.out, ← K1.out, ← X1.out]
    have B7 := Lib.hid (B.out.trans (hb7.mono B.out.size)); clear hb7
    have s2 : ((k ++ { data := #[58] } ++ x).toList == S.toList) = true := by rw [C1.out]; simp
    go_wp2
    go_ret
    exact ⟨by first | rfl | (rw [C1.out]; simp), B7.out⟩
  · obtain ⟨n, hn⟩ : ∃ n, n = (pairF s).2.2 := ⟨_, rfl⟩
    have E1 := Lib.hid (show errV (pairF s).2.2 = .iface 65 (.int .i64 (pairF s).2.2) by rw [errV, if_neg h1])
    clear h1 hn
    go_wp2_with fail
    rw [SE.out]
    refine (pair_any s _ (by omega) M.out).mono ?_; rintro e w7 ⟨rfl, hb7⟩
    rw [← SE.out, E1.out]
    have B7 := Lib.hid (B.out.trans (hb7.mono B.out.size)); clear hb7
    go_wp2
    go_ret
    exact ⟨rfl, B7.out⟩

end Go.Proofs.Ytdpngbjlljgoaaa
