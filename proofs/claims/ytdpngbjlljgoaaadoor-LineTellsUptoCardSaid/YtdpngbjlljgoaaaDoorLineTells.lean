/- The law LineTells: any text escaped, plain, folded, as a pair; any pieces unfolded: program and reference are one. The walk. Conditions: the text and the pieces hold at most 1048576 bytes each. -/
import Derived.Test.YtdpngbjlljgoaaaDoorRefM
import Derived.Test.YtdpngbjlljgoaaaDoorErr
namespace Go.Proofs.YtdpngbjlljgoaaaDoor
open Go.RowKit Go.Shelf
set_option linter.unusedSimpArgs false
set_option linter.unusedVariables false

theorem fold_refT (l : List UInt8) (w : World) (hs : l.length ≤ 140737488351232) :
    Calls Tryd.prog 26 #[.string (bs l)] w fun e w' => ∃ v, e = .returned v ∧ StrsR w' v (foldL l) ∧ Below w.heap.size w w' :=
  (fold_any l w hs).mono fun e w' ⟨v, h1, h2, h3⟩ => ⟨v, h1, strsR_of_owns h2, h3⟩

set_option maxRecDepth 100000 in
set_option maxHeartbeats 4000000 in
theorem lineTells_any (s : List UInt8) (v : Value) (L : List (List UInt8)) (w : World) (hx : ErrT w) (hm : MaxL w) (hs : s.length ≤ 1048576) (hL : StrsR w v L) (hl : L.flatten.length ≤ 1048576) :
    Calls Tryd.prog 5 #[.string (bs s), v] w fun e w' => e = .returned (.bool true) ∧ Below w.heap.size w w' := by
  obtain ⟨va, vc, rfl, _, _, _⟩ := strsR_open hL
  have LR := Lib.hid hL; have M := Lib.hid hm; have X := Lib.hid hx
  clear hL hm hx
  obtain ⟨S, hS⟩ : ∃ S, S = bs s := ⟨_, rfl⟩
  rw [← hS]
  have SE := Lib.hid hS
  obtain ⟨b1, hb1⟩ : ∃ b, b = plB s := ⟨_, rfl⟩
  obtain ⟨c1, hc1⟩ : ∃ c, c = plC s := ⟨_, rfl⟩
  obtain ⟨e1, he1⟩ : ∃ e, e = plE s := ⟨_, rfl⟩
  obtain ⟨b2, hb2⟩ : ∃ b, b = ufB L := ⟨_, rfl⟩
  obtain ⟨c2, hc2⟩ : ∃ c, c = ufC L := ⟨_, rfl⟩
  obtain ⟨e2, he2⟩ : ∃ e, e = ufE L := ⟨_, rfl⟩
  obtain ⟨k3, hk3⟩ : ∃ c, c = bs (pairF s).1 := ⟨_, rfl⟩
  obtain ⟨v3, hv3⟩ : ∃ c, c = bs (pairF s).2.1 := ⟨_, rfl⟩
  obtain ⟨e3, he3⟩ : ∃ e, e = (pairF s).2.2 := ⟨_, rfl⟩
  obtain ⟨E, hE⟩ : ∃ c, c = bs (esc s) := ⟨_, rfl⟩
  have N1 := Lib.hid (show b1 = false → c1 = { data := #[] } ∧ e1 = 2 by rw [hb1, hc1, he1]; intro h; rw [plC, plE, h]; exact ⟨rfl, rfl⟩)
  have Y1 := Lib.hid (show b1 = true → e1 = 0 by rw [hb1, he1]; intro h; rw [plE, h]; rfl)
  have N2 := Lib.hid (show b2 = false → c2 = { data := #[] } ∧ e2 = 2 by rw [hb2, hc2, he2]; intro h; rw [ufC, ufE, h]; exact ⟨rfl, rfl⟩)
  have Y2 := Lib.hid (show b2 = true → e2 = 0 by rw [hb2, he2]; intro h; rw [ufE, h]; rfl)
  have B1 := Lib.hid hb1; have C1 := Lib.hid hc1; have E1 := Lib.hid he1; have B2 := Lib.hid hb2; have C2 := Lib.hid hc2; have E2 := Lib.hid he2
  have K3 := Lib.hid hk3; have V3 := Lib.hid hv3; have E3 := Lib.hid he3; have EE := Lib.hid hE
  clear hS hb1 hc1 he1 hb2 hc2 he2 hk3 hv3 he3 hE
  go_enter Tryd.func5, Tryd.ntmps5
  go_wp2_with fail
  rw [SE.out]
  refine (escRef_any s _ hs).mono ?_; rintro e w1 ⟨rfl, hb⟩
  rw [← SE.out, ← EE.out]
  have B := Lib.hid hb; clear hb
  go_wp2_with fail
  rw [SE.out]
  refine (plainRef_any s _ hs).mono ?_; rintro e w2 ⟨rfl, hb⟩
  rw [← SE.out, ← C1.out, ← B1.out]
  have B := Lib.hid (B.out.trans (hb.mono B.out.size)); clear hb
  obtain ⟨wa, rfl⟩ : ∃ wa, wa = w2 := ⟨_, rfl⟩
  go_upto_if 29 with fail
  go_cut [6, 8] (fun s6 s8 wx => s6 = .string c1 ∧ s8 = .int .i64 e1 ∧ wa = wx)
  case first => as_aux_lemma =>
    cases b1
    · obtain ⟨rfl, rfl⟩ := N1.out rfl
      go_wp2
      go_meet
      exact ⟨rfl, rfl, rfl⟩
    · obtain rfl := Y1.out rfl
      go_wp2
      go_meet
      exact ⟨rfl, rfl, rfl⟩
  case rest =>
  obtain ⟨rfl, rfl, rfl⟩ := hcut
  go_wp2_with fail
  rw [SE.out]
  refine (plainT_any s _ (by omega)).mono ?_; rintro e w3 ⟨rfl, hb⟩
  rw [← SE.out, ← C1.out, ← E1.out]
  have B := Lib.hid (B.out.trans (hb.mono B.out.size)); clear hb
  go_wp2_with fail
  refine (error_same e1 _ (X.out.below B.out)).mono ?_; rintro e w4 ⟨rfl, hb⟩
  have B := Lib.hid (B.out.trans (hb.mono B.out.size)); clear hb
  go_wp2_with fail
  rw [SE.out]
  refine (fold_refT s _ (by omega)).mono ?_; rintro e w5 ⟨v5, rfl, hv5, hb⟩
  rw [← SE.out]
  have V5 := Lib.hid hv5
  have B := Lib.hid (B.out.trans (hb.mono B.out.size)); clear hb hv5
  go_wp2_with fail
  rw [SE.out]
  refine (foldRef_any s _ hs).mono ?_; rintro e w6 ⟨v6, rfl, hv6, hb⟩
  rw [← SE.out]
  have V5 := Lib.hid (V5.out.below hb)
  have V6 := Lib.hid hv6
  have B := Lib.hid (B.out.trans (hb.mono B.out.size)); clear hb hv6
  go_wp2_with fail
  refine (texts_any _ _ (foldL s) (foldL s) _ V5.out V6.out).mono ?_; rintro e w7 ⟨rfl, hb⟩
  rw [show textsB (foldL s) (foldL s) = true by simp [textsB]]
  have B := Lib.hid (B.out.trans (hb.mono B.out.size)); clear hb V5 V6
  go_wp2_with fail
  refine (unfoldRef_any _ L _ (LR.out.below B.out) hl).mono ?_; rintro e w8 ⟨rfl, hb⟩
  rw [← C2.out, ← B2.out]
  have B := Lib.hid (B.out.trans (hb.mono B.out.size)); clear hb
  obtain ⟨wb, rfl⟩ : ∃ wb, wb = w8 := ⟨_, rfl⟩
  go_upto_if 49 with fail
  go_cut [13, 8] (fun s13 s8 wx => s13 = .string c2 ∧ s8 = .int .i64 e2 ∧ wb = wx)
  case first => as_aux_lemma =>
    cases b2
    · obtain ⟨rfl, rfl⟩ := N2.out rfl
      go_wp2
      go_meet
      exact ⟨rfl, rfl, rfl⟩
    · obtain rfl := Y2.out rfl
      go_wp2
      go_meet
      exact ⟨rfl, rfl, rfl⟩
  case rest =>
  obtain ⟨rfl, rfl, rfl⟩ := hcut
  go_wp2_with fail
  refine (unfoldT_any _ L _ (LR.out.below B.out) (by omega)).mono ?_; rintro e w9 ⟨rfl, hb⟩
  rw [← C2.out, ← E2.out]
  have B := Lib.hid (B.out.trans (hb.mono B.out.size)); clear hb
  go_wp2_with fail
  refine (error_same e2 _ (X.out.below B.out)).mono ?_; rintro e w10 ⟨rfl, hb⟩
  have B := Lib.hid (B.out.trans (hb.mono B.out.size)); clear hb
  go_wp2_with fail
  rw [SE.out]
  refine (pairRef_any s _ hs).mono ?_; rintro e w11 ⟨k, x, b, rfl, q1, q2, hb⟩
  rw [← SE.out]
  have Q1 := Lib.hid q1; have Q2 := Lib.hid q2
  have B := Lib.hid (B.out.trans (hb.mono B.out.size)); clear hb q1 q2
  obtain ⟨wd, rfl⟩ : ∃ wd, wd = w11 := ⟨_, rfl⟩
  go_upto_if 65 with fail
  go_cut [16, 17, 8] (fun s16 s17 s8 wx => s16 = .string k3 ∧ s17 = .string v3 ∧ s8 = .int .i64 e3 ∧ wd = wx)
  case first => as_aux_lemma =>
    cases b
    · have q := Q2.out rfl
      have P1 := Lib.hid (show k3 = { data := #[] } by rw [K3.out, q]; rfl)
      have P2 := Lib.hid (show v3 = { data := #[] } by rw [V3.out, q]; rfl)
      have P3 := Lib.hid (show e3 = 2 by rw [E3.out, q])
      clear q
      go_wp2
      go_meet
      exact ⟨by rw [P1.out], by rw [P2.out], by rw [P3.out], rfl⟩
    · obtain ⟨h1, h2, h3⟩ := Q1.out rfl
      have P1 := Lib.hid (show k = k3 by rw [K3.out, h1])
      have P2 := Lib.hid (show x = v3 by rw [V3.out, h2])
      have P3 := Lib.hid (show e3 = 0 by rw [E3.out, h3])
      clear h1 h2 h3
      go_wp2
      go_meet
      exact ⟨by rw [P1.out], by rw [P2.out], by rw [P3.out], rfl⟩
  case rest =>
  obtain ⟨rfl, rfl, rfl, rfl⟩ := hcut
  go_wp2_with fail
  rw [SE.out]
  refine (pair_any s _ (by omega) (M.out.below B.out)).mono ?_; rintro e w12 ⟨rfl, hb⟩
  rw [← SE.out, ← K3.out, ← V3.out, ← E3.out]
  have B := Lib.hid (B.out.trans (hb.mono B.out.size)); clear hb
  go_wp2_with fail
  refine (error_same e3 _ (X.out.below B.out)).mono ?_; rintro e w13 ⟨rfl, hb⟩
  have B := Lib.hid (B.out.trans (hb.mono B.out.size)); clear hb
  have s1 : (E.toList == E.toList) = true := by simp
  have s2 : (c1.toList == c1.toList) = true := by simp
  have s3 : (c2.toList == c2.toList) = true := by simp
  have s4 : (k3.toList == k3.toList) = true := by simp
  have s5 : (v3.toList == v3.toList) = true := by simp
  go_wp2_with fail
  rw [SE.out]
  refine (escape_any s _ (by omega)).mono ?_; rintro e w14 ⟨rfl, hb⟩
  rw [← SE.out, ← EE.out]
  have B := Lib.hid (B.out.trans (hb.mono B.out.size)); clear hb
  go_wp2
  go_ret
  exact ⟨by first | rfl | simp, B.out⟩

end Go.Proofs.YtdpngbjlljgoaaaDoor
