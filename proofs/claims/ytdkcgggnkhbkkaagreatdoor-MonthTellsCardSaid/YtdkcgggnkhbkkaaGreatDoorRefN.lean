/- The reference's Marks: its contract. Condition: a month that is right. -/
import Derived.Test.YtdkcgggnkhbkkaaGreatDoorDigits
import Derived.Test.YtdkcgggnkhbkkaaGreatDoorMonA
import Derived.Test.YtdkcgggnkhbkkaaGreatDoorRefW
import Derived.Deep.DeepCutAuto
import Derived.Deep.CutBlock
import Derived.Outline
namespace Go.Proofs.YtdkcgggnkhbkkaaGreatDoor
open Go.RowKit Go.Shelf
set_option linter.unusedSimpArgs false
set_option linter.unusedVariables false

/-- the text of a day in a cell: two bytes. -/
def cellD (fi sz q : Int) : List UInt8 := List.replicate (2 - (dayT fi sz q).length) 32 ++ dayT fi sz q

theorem cellD_no {fi sz q : Int} (h : ¬ (fi ≤ q ∧ q < fi + sz)) : cellD fi sz q = [32, 32] := by rw [cellD, dayT, if_neg h]; rfl

theorem cellD_yes {fi sz q : Int} (h : fi ≤ q ∧ q < fi + sz) (hs : sz ≤ 31) :
    ((Lib.decDigits (q - fi + 1).toNat).length = 1 → cellD fi sz q = 32 :: Lib.decDigits (q - fi + 1).toNat) ∧ ((Lib.decDigits (q - fi + 1).toNat).length ≠ 1 → cellD fi sz q = Lib.decDigits (q - fi + 1).toNat) := by
  have hl := decDigits_len (n := (q - fi + 1).toNat) (by omega)
  rw [cellD, dayT, if_pos h]
  constructor
  · intro e; rw [e]; rfl
  · intro e; rw [show 2 - (Lib.decDigits (q - fi + 1).toNat).length = 0 by omega]; rfl

theorem row_next {fi sz n q : Int} {D : List Int} {i : Nat} {s C X : ByteArray} {c : UInt8} {sg : Bool} (hs : s = bs (rowTo fi sz D n i)) (hC : C = bs [c]) (hc : c = if sg = true then 42 else 32) (hsg : sg = inB D q) (hq : q = n + (i : Int)) (hX : X = bs (cellD fi sz q)) :
    s ++ C ++ X = bs (rowTo fi sz D n (i + 1)) := by
  rw [rowTo_succ, ← hq, hs, hC, hX, bs_append, bs_append, List.append_assoc]
  congr 2
  rw [cellL, hc, hsg]; rfl

set_option maxRecDepth 100000 in
set_option maxHeartbeats 8000000 in
theorem rmarks_any (y m : Int) (vd : Value) (D : List Int) (w : World) (hD : IntsR w vd D) (hM : Cal.monthB y m = true) :
    Calls Tryz.prog 33 #[.int .i64 y, .int .i64 m, vd] w fun e w' => ∃ v, e = .returned v ∧ StrsR w' v (leafL (Cal.num y m 1) (Cal.dim y m) D) ∧ Below w.heap.size w w' := by
  obtain ⟨i0, hi0, hz0, hz1, hz2⟩ := info_parts stringInfo
  obtain ⟨ad, kd, rfl, k1, k2, -⟩ := intsR_open hD
  unfold maxLen at k2
  have IR := Lib.hid hD; clear hD
  have hdt : Cal.dateB y m 1 = true := Cal.date_mk hM (by omega) (by have := Cal.dim_bd y m; omega)
  have hn := (Cal.num_bd hdt).2.2
  have hdb := Cal.dim_bd y m
  have HM := Lib.hid hM; have HD := Lib.hid hdt
  obtain ⟨sz, hsz⟩ : ∃ s, s = Cal.dim y m := ⟨_, rfl⟩
  obtain ⟨fi, hfi⟩ : ∃ s, s = Cal.num y m 1 := ⟨_, rfl⟩
  rw [← hsz] at hdb; rw [← hfi] at hn
  obtain ⟨f1, f2⟩ := hn
  obtain ⟨s1, s2⟩ := hdb
  have SZ := Lib.hid hsz; have FI := Lib.hid hfi
  rw [← hsz, ← hfi]
  clear hM hdt hsz hfi
  go_enter Tryz.func33, Tryz.ntmps33
  go_wp2_with fail
  refine (rof_yes y m 1 _ HD.out).mono ?_; rintro e w5 ⟨rfl, hb5⟩
  rw [← FI.out]
  have B5 := Lib.hid hb5
  have IR5 := Lib.hid (IR.out.below hb5)
  clear hb5
  go_wp2_with fail
  refine (rdays_yes y m _ HM.out).mono ?_; rintro e w6 ⟨rfl, rfl⟩
  rw [← SZ.out]
  go_wp2_with fail
  refine (rmonday_any fi _ f1 (by omega)).mono ?_; rintro e w6 ⟨rfl, rfl⟩
  obtain ⟨mo, hmo⟩ : ∃ m, m = Cal.mondayI fi := ⟨_, rfl⟩
  rw [← hmo]
  have MO := Lib.hid hmo
  have m1 : fi - 6 ≤ mo ∧ mo ≤ fi := by rw [hmo, Cal.mondayI]; omega
  obtain ⟨m1, m2⟩ := m1
  clear hmo
  obtain ⟨N, hN⟩ : ∃ N, N = rowsN fi sz := ⟨_, rfl⟩
  have NB := rowsN_bd f1 s1 s2
  rw [← hN] at NB
  obtain ⟨N1, N2⟩ := NB
  have RL := Lib.hid (show ∀ j : Nat, j < N ↔ mo + 7 * (j : Int) < fi + sz by intro j; rw [hN, MO.out]; exact rows_lt f1 s1 j)
  have NN := Lib.hid hN; clear hN
  go_wp2
  go_loopg [9, 10] N (fun g ov nv wr => ∃ (j : Nat) (n : Int), nv = .int .i64 n ∧ Hid (n = mo + 7 * (j : Int)) ∧ j ≤ N ∧ g = N - j ∧ wr.ownsRow w5.heap.size 9 1 ov j (strs (leafTo fi sz D j)) ∧ Below w5.heap.size w5 wr)
  case atStart => exact ⟨0, mo, rfl, Lib.hid (by simp), Nat.zero_le _, rfl, World.ownsRow_nil _ _ _ _, Below.refl _ _⟩
  case round =>
    obtain ⟨j, n, rfl, NE, hj, hg, hown, hb⟩ := hrel
    have G := Lib.hid hg
    have n1 : fi - 6 ≤ n ∧ n ≤ fi + sz + 7 := by
      have := NE.out
      by_cases h : j < N
      · have := (RL.out j).1 h; omega
      · have h2 := (RL.out (j - 1)).1 (by omega)
        omega
    obtain ⟨n1, n2⟩ := n1
    have hbs := hb.size
    by_cases hlt : j < N
    · have z : decide (n < fi + sz) = true := decide_eq_true (by have := NE.out; have := (RL.out j).1 hlt; omega)
      have OW := Lib.hid hown; have BW := Lib.hid hb
      obtain ⟨wo, rfl⟩ : ∃ wo, wo = wr := ⟨_, rfl⟩
      clear hown hb hg
      go_wp2
      go_loopg [11, 12] 7 (fun g sv kv wx => ∃ (i : Nat) (q : Int) (s : ByteArray), sv = .string s ∧ kv = .int .i64 q ∧ Hid (q = n + (i : Int)) ∧ i ≤ 7 ∧ g = 7 - i ∧ Hid (s = bs (rowTo fi sz D n i)) ∧ s.size ≤ 21 ∧ Below wo.heap.size wo wx)
      case atStart => exact ⟨0, n, bs [], rfl, rfl, Lib.hid (by simp), by omega, rfl, Lib.hid rfl, by simp [bs_size], Below.refl _ _⟩
      case round =>
        obtain ⟨i, q, s, rfl, rfl, QE, hi, hg, SE, hs21, hb⟩ := hrel
        obtain ⟨wi, rfl⟩ : ∃ wi, wi = wr := ⟨_, rfl⟩
        have G3 := Lib.hid hg; have BX := Lib.hid hb
        have q1 : n ≤ q ∧ q ≤ n + 7 := by have := QE.out; omega
        obtain ⟨q1, q2⟩ := q1
        have hbx := hb.size
        have IRX := Lib.hid ((IR5.out.below BW.out).below hb)
        clear hg hb
        by_cases hq : i < 7
        · have zq : decide (q < n + 7) = true := decide_eq_true (by have := QE.out; omega)
          have RS := Lib.hid (rowTo_succ fi sz D n i)
          have RN := Lib.hid (rowTo_len (fi := fi) (n := n) (D := D) s2 (i + 1))
          obtain ⟨sg, hsg⟩ : ∃ sg, sg = inB D q := ⟨_, rfl⟩
          have SG := Lib.hid hsg
          clear hsg
          go_wp2_with fail
          refine (rin_any _ D q _ IRX.out).mono ?_; rintro e w7 ⟨rfl, rfl⟩
          rw [← SG.out]
          go_upto_if 42 with fail
          go_cut [14] (fun s14 wx' => ∃ c : UInt8, s14 = .string (bs [c]) ∧ Hid (c = if sg = true then 42 else 32) ∧ wi = wx')
          case first => as_aux_lemma =>
            cases sg
            · go_wp2
              go_meet
              exact ⟨32, rfl, Lib.hid rfl, rfl⟩
            · go_wp2
              go_meet
              exact ⟨42, rfl, Lib.hid rfl, rfl⟩
          case rest =>
          obtain ⟨c, rfl, CE, rfl⟩ := hcut
          obtain ⟨C, hC⟩ : ∃ C, C = bs [c] := ⟨_, rfl⟩
          have CC := Lib.hid hC
          have c1 : C.size = 1 := by rw [hC, bs_size]; rfl
          rw [← hC]
          clear hC
          by_cases hin : fi ≤ q ∧ q < fi + sz
          · obtain ⟨CY1, CY2⟩ := cellD_yes hin s2
            have Y1 := Lib.hid CY1; have Y2 := Lib.hid CY2
            have DL := decDigits_len (n := (q - fi + 1).toNat) (by omega)
            obtain ⟨g1, g2⟩ := hin
            have t1 : decide (fi ≤ q) = true := decide_eq_true g1
            have t2 : decide (q < fi + sz) = true := decide_eq_true g2
            clear CY1 CY2
            go_wp2_with fail
            refine (rdigits_pos 32 (q - fi + 1) _ (by omega) (by omega) (by omega)).mono ?_; rintro e w8 ⟨rfl, rfl⟩
            obtain ⟨T, hT⟩ : ∃ T, T = bs (Lib.decDigits (q - fi + 1).toNat) := ⟨_, rfl⟩
            have TE := Lib.hid hT
            have tz : T.size ≤ 2 := by rw [hT, bs_size]; exact DL.2
            have TZ := Lib.hid (show T.size = (Lib.decDigits (q - fi + 1).toNat).length by rw [hT, bs_size])
            rw [← hT]
            clear hT DL
            by_cases h1 : T.size = 1
            · have u1 : ((T.size : Int) == 1) = true := by rw [beq_iff_eq]; omega
              have E := Lib.hid (row_next SE.out CC.out CE.out SG.out QE.out (show ({ data := #[32] } : ByteArray) ++ T = bs (cellD fi sz q) by
                rw [Y1.out (by rw [← TZ.out]; exact h1), TE.out, show ({ data := #[32] } : ByteArray) = bs [32] from rfl, bs_append]; rfl))
              clear h1
              go_wp2
              go_roundg (7 - (i + 1))
              case measure => rw [G3.out]; omega
              case rel => exact ⟨i + 1, q + 1, _, rfl, by first | rfl | go_num, Lib.hid (by rw [QE.out]; omega), by omega, rfl, E, by rw [E.out, bs_size, RN.out]; omega, BX.out⟩
            · have u1 : ((T.size : Int) == 1) = false := by rw [beq_eq_false_iff_ne]; omega
              have E := Lib.hid (row_next SE.out CC.out CE.out SG.out QE.out (show T = bs (cellD fi sz q) by
                rw [Y2.out (by rw [← TZ.out]; exact h1), TE.out]))
              clear h1
              go_wp2
              go_roundg (7 - (i + 1))
              case measure => rw [G3.out]; omega
              case rel => exact ⟨i + 1, q + 1, _, rfl, by first | rfl | go_num, Lib.hid (by rw [QE.out]; omega), by omega, rfl, E, by rw [E.out, bs_size, RN.out]; omega, BX.out⟩
          · have E := Lib.hid (row_next SE.out CC.out CE.out SG.out QE.out (show ({ data := #[32, 32] } : ByteArray) = bs (cellD fi sz q) by rw [cellD_no hin]; rfl))
            have tt : decide (fi ≤ q) = false ∨ (decide (fi ≤ q) = true ∧ decide (q < fi + sz) = false) := by
              by_cases g1 : fi ≤ q
              · exact .inr ⟨decide_eq_true g1, decide_eq_false (fun h => hin ⟨g1, h⟩)⟩
              · exact .inl (decide_eq_false g1)
            clear hin
            rcases tt with t1 | ⟨t1, t2⟩
            all_goals
              go_wp2
              go_roundg (7 - (i + 1))
              case measure => rw [G3.out]; omega
              case rel => exact ⟨i + 1, q + 1, _, rfl, by first | rfl | go_num, Lib.hid (by rw [QE.out]; omega), by omega, rfl, E, by rw [E.out, bs_size, RN.out]; omega, BX.out⟩
        · obtain rfl : i = 7 := by omega
          have zq : decide (q < n + 7) = false := decide_eq_false (by have := QE.out; omega)
          clear hq
          have hown := own_kept OW.out BX.out
          have LS := Lib.hid (leafTo_succ fi sz D j)
          go_wp2_with (at_builtin; refine wpList_append_lies _ rfl _ _ 66 rfl w5.heap.size 9 i0 _ 1 16 Tryz.underlying66 hi0 hz0 hz1 hz2 rfl (by decide) _ _ _ rfl (hown.alloc _) ⟨wi.heap.size, 0, none⟩ 1 1 [.string s] rfl rfl ?c1 ?c2 (by decide) (by unfold maxLen; omega) (by omega) (by simp; omega) _ rfl ?_)
          case c1 => exact cell_one_new _ _ _
          case c2 => intro u hu; simp at hu; subst hu; rfl
          intro g cap w1 hown1 hgrow1 hat1 hlt1
          have hb1 : Below w5.heap.size w5 w1 := (((BW.out.trans (BX.out.mono hbs)).alloc (by omega) _)).grown hgrow1 (by simp; omega) (ownBlock_ge hown)
          have O := Lib.hid (show w1.ownsRow w5.heap.size 9 1 (.slice (some ⟨g, 0, none⟩) (j + 1) cap) (j + 1) (strs (leafTo fi sz D (j + 1))) by
            rw [LS.out, strs_snoc, ← MO.out, ← NE.out, ← SE.out]; exact hown1)
          have B := Lib.hid hb1
          clear hown1 hb1 hgrow1 hat1 hown
          go_wp2
          go_roundg (N - (j + 1))
          case measure => rw [G.out]; omega
          case rel => exact ⟨j + 1, n + 7, by first | rfl | go_num, Lib.hid (by rw [NE.out]; omega), by omega, rfl, O.out, B.out⟩
    · obtain rfl : j = N := by omega
      have z : decide (n < fi + sz) = false := decide_eq_false (by have := NE.out; have h := mt (RL.out j).2 hlt; omega)
      have OS := Lib.hid (show StrsR wr _ (leafL fi sz D) by
        rw [leafL, ← NN.out]
        exact strsR_of_owns (L := leafTo fi sz D j) (by rw [leafTo_len]; exact hown))
      have B := Lib.hid (B5.out.trans (hb.mono B5.out.size))
      clear hown hb
      go_wp2
      go_ret
      exact ⟨_, rfl, OS.out, B.out⟩

end Go.Proofs.YtdkcgggnkhbkkaaGreatDoor
