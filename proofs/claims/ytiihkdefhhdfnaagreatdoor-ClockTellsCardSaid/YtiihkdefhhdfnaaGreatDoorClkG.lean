/- The contract of clock.Span. Conditions: the library's powers of ten lie as they are laid, its ErrSyntax holds an error; the text is no longer than a text may be. -/
import Derived.Test.YtiihkdefhhdfnaaGreatDoorClkF
import Derived.StillTailTactics
namespace Go.Proofs.YtiihkdefhhdfnaaGreatDoor
open Go.RowKit Go.Shelf
set_option linter.unusedSimpArgs false
set_option linter.unusedVariables false

/-- the library's ErrSyntax holds an error. -/
def SynT (w : World) : Prop := ∃ (t : TypeId) (p : Value), w.cell? ⟨3, 0, none⟩ = some (.iface t p)

theorem SynT.below {w w' : World} (h : SynT w) (hb : Below w.heap.size w w') : SynT w' := by
  obtain ⟨t, p, hm⟩ := h
  exact ⟨t, p, cell_below hb hm⟩

theorem atoi_yes (l : List UInt8) (n : Int) (w : World) (hl : l.length ≤ 18) (h : Lib.atoi l = some n) :
    Calls Tryz.prog 40 #[.string (bs l)] w fun e w' => e = .returned (.tuple #[.int .i64 n, .nilIface]) ∧ Below w.heap.size w w' := by
  refine (Tryz.strconv_Atoi (bs l) n (by rw [bs_size]; exact hl) (by rw [bs_arr]; exact h) w).mono ?_
  rintro e w' ⟨rfl, t, rfl⟩
  exact ⟨rfl, Go.Joins.below_bytesWorld _ _ _ _ (Nat.le_refl _)⟩

theorem atoi_no (l : List UInt8) (w : World) (hS : SynT w) (hl : l.length ≤ 18) (h : Lib.atoi l = none) :
    Calls Tryz.prog 40 #[.string (bs l)] w fun e w' => (∃ p, e = .returned (.tuple #[.int .i64 0, .iface 95 p])) ∧ Below w.heap.size w w' := by
  obtain ⟨t, p, hc⟩ := hS
  refine (Tryz.strconv_Atoi_err (bs l) (by rw [bs_size]; exact hl) (by rw [bs_arr]; exact h) _ w hc (.inr ⟨t, p, rfl⟩)).mono ?_
  rintro e w' ⟨N, rfl, _, _, hb⟩
  exact ⟨⟨_, rfl⟩, hb⟩

theorem bs_mid (P r : List UInt8) (c : UInt8) (h : P.length < (bs (P ++ c :: r)).size) : (bs (P ++ c :: r))[P.length] = c := by
  have h2 : P.length < (P ++ c :: r).length := by simp
  have h3 : (P ++ c :: r)[P.length]'h2 = c := by simp
  exact (bs_get _ _ h2 h).trans h3

theorem dat3_put0 {w : World} {b : Nat} {x y z v : Int} (h : Dat3 w b x y z) : Dat3 (w.setCell ⟨b, 0, none⟩ (.int .i64 v)) b v y z := by
  obtain ⟨h0, h1, h2, h3, h4, h5⟩ := h
  have ne : ∀ {i j : Nat}, i ≠ j → (⟨b, i, none⟩ : Addr) ≠ ⟨b, j, none⟩ := fun h e => h (congrArg Addr.off e)
  exact ⟨World.cell?_setCell_same _ _ _ h0, (World.cell?_setCell_other _ _ _ _ (ne (show 0 ≠ 1 by decide))).trans h1, (World.cell?_setCell_other _ _ _ _ (ne (show 0 ≠ 2 by decide))).trans h2, by simp only [World.frozen?_setCell]; exact h3, by simp only [World.frozen?_setCell]; exact h4, by simp only [World.frozen?_setCell]; exact h5⟩

theorem dat3_put1 {w : World} {b : Nat} {x y z v : Int} (h : Dat3 w b x y z) : Dat3 (w.setCell ⟨b, 1, none⟩ (.int .i64 v)) b x v z := by
  obtain ⟨h0, h1, h2, h3, h4, h5⟩ := h
  have ne : ∀ {i j : Nat}, i ≠ j → (⟨b, i, none⟩ : Addr) ≠ ⟨b, j, none⟩ := fun h e => h (congrArg Addr.off e)
  exact ⟨(World.cell?_setCell_other _ _ _ _ (ne (show 1 ≠ 0 by decide))).trans h0, World.cell?_setCell_same _ _ _ h1, (World.cell?_setCell_other _ _ _ _ (ne (show 1 ≠ 2 by decide))).trans h2, by simp only [World.frozen?_setCell]; exact h3, by simp only [World.frozen?_setCell]; exact h4, by simp only [World.frozen?_setCell]; exact h5⟩

theorem dat3_put2 {w : World} {b : Nat} {x y z v : Int} (h : Dat3 w b x y z) : Dat3 (w.setCell ⟨b, 2, none⟩ (.int .i64 v)) b x y v := by
  obtain ⟨h0, h1, h2, h3, h4, h5⟩ := h
  have ne : ∀ {i j : Nat}, i ≠ j → (⟨b, i, none⟩ : Addr) ≠ ⟨b, j, none⟩ := fun h e => h (congrArg Addr.off e)
  exact ⟨(World.cell?_setCell_other _ _ _ _ (ne (show 2 ≠ 0 by decide))).trans h0, (World.cell?_setCell_other _ _ _ _ (ne (show 2 ≠ 1 by decide))).trans h1, World.cell?_setCell_same _ _ _ h2, by simp only [World.frozen?_setCell]; exact h3, by simp only [World.frozen?_setCell]; exact h4, by simp only [World.frozen?_setCell]; exact h5⟩

theorem dat3_drew {w : World} {b : Nat} {x y z : Int} (h : Dat3 w b x y z) : Dat3 w.drew b x y z := h

theorem below_st1 {a w : World} {b i : Nat} {x : Value} (h : Below a.heap.size a w) (hb : a.heap.size ≤ b) : Below a.heap.size a (w.setCell ⟨b, i, none⟩ x).drew := (h.setCell hb x).drew

/-- what Span answers. -/
def SpanP (l : List UInt8) (w : World) (e : Ending) (w' : World) : Prop :=
  ∃ v : Int × Int, SpanR l v ∧ e = .returned (.tuple #[.int .i64 v.1, errV v.2]) ∧ Below w.heap.size w w'

theorem cut_less (l : List UInt8) (w : World) : Calls Tryz.prog 38 #[.string (bs l), .string { data := #[45] }] w fun e w' => e = .returned (.tuple #[.string (bs (bodyS l)), .bool (lessB l)]) ∧ w = w' := by
  refine (Tryz.strings_CutPrefix (bs l) { data := #[45] } w).mono fun e w' h => ⟨?_, h.2.symm⟩
  rw [h.1, bs_arr]
  have hp : Lib.hasPrefix l [45] = lessB l := by
    cases l with
    | nil => rfl
    | cons a t =>
      rw [Lib.hasPrefix, lessB, Bool.eq_iff_iff]
      simp only [List.isPrefixOf, Bool.and_true, beq_iff_eq, List.head?_cons, Option.some.injEq, decide_eq_true_eq]
      exact ⟨fun h => h.symm, fun h => h.symm⟩
  rw [show ({ data := #[45] } : ByteArray).data.toList = [45] from rfl, hp, Lib.trimPrefix, hp, bodyS]
  cases l with
  | nil => rfl
  | cons a t => cases lessB (a :: t) <;> rfl

set_option maxRecDepth 100000 in
set_option maxHeartbeats 4000000 in
theorem span_any (l : List UInt8) (w : World) (hP : PowT w) (hS : SynT w) (hl : l.length ≤ 9223372036854775807) :
    Calls Tryz.prog 17 #[.string (bs l)] w (SpanP l w) := by
  obtain ⟨T, hT⟩ : ∃ T, T = bs l := ⟨_, rfl⟩
  have CP := Lib.hid (cut_less l w)
  rw [← hT] at CP ⊢
  obtain ⟨less, hless⟩ : ∃ b, b = lessB l := ⟨_, rfl⟩
  obtain ⟨S0, hS0⟩ : ∃ s, s = bs (bodyS l) := ⟨_, rfl⟩
  rw [← hless, ← hS0] at CP
  obtain ⟨Z, hZ⟩ : ∃ Z, Z = decide (l = [48, 109]) := ⟨_, rfl⟩
  have IS := Lib.hid (show InvS l Z 0 0 (bodyS l) by rw [hZ]; exact invS_start l)
  have LB := Lib.hid (show (bodyS l).length ≤ 9223372036854775807 by
    unfold bodyS; split
    · rw [List.length_tail]; omega
    · exact hl)
  have HT := Lib.hid hT; have HL := Lib.hid hless; have HS0 := Lib.hid hS0; have PT := Lib.hid hP; have ST := Lib.hid hS
  have TZ := Lib.hid (show (T.toList = [48, 109]) ↔ Z = true by rw [hT, bs_toList, hZ, decide_eq_true_eq])
  clear hT hless hS0 hZ hP hS hl
  go_enter Tryz.func17, Tryz.ntmps17
  go_wp2_with fail
  refine CP.out.mono ?_; rintro e w1 ⟨rfl, rfl⟩
  go_wp2
  obtain ⟨w1, hw1⟩ : ∃ w1, w1 = w.alloc (.cells #[.int .i64 0, .int .i64 0, .int .i64 0] 61) := ⟨_, rfl⟩
  rw [← hw1]
  have D1 := Lib.hid (show Dat3 w1 w.heap.size ((0 : Nat) : Int) ((0 : Nat) : Int) ((0 : Nat) : Int) by rw [hw1]; exact dat3_new w 0 0 0 61)
  have B1 := Lib.hid (show Below w.heap.size w w1 by rw [hw1]; exact (Below.refl _ _).alloc (Nat.le_refl _) _)
  clear hw1
  obtain ⟨pb, hpb⟩ : ∃ pb, pb = w.heap.size := ⟨_, rfl⟩
  rw [← hpb] at D1 ⊢
  have PB := Lib.hid hpb
  clear hpb
  go_loopg [4, 7] (bodyS l).length (fun g sv nv wr => ∃ (sL : List UInt8) (S : ByteArray) (nx p0 p1 p2 : Nat), sv = .string S ∧ nv = .int .i64 nx ∧ Hid (S = bs sL) ∧ nx ≤ 3 ∧ p0 < 1000000000 ∧ p1 < 1000000000 ∧ p2 < 1000000000 ∧ g = sL.length ∧ Hid (Dat3 wr pb p0 p1 p2) ∧ Hid (InvS l Z nx (p0 * 1440 + p1 * 60 + p2) sL) ∧ Hid ((nx ≤ 0 → p0 = 0) ∧ (nx ≤ 1 → p1 = 0) ∧ (nx ≤ 2 → p2 = 0)) ∧ sL.length ≤ 9223372036854775807 ∧ Below w.heap.size w wr)
  case atStart => exact ⟨bodyS l, _, 0, 0, 0, 0, rfl, rfl, HS0, by omega, by omega, by omega, by omega, rfl, D1, IS, Lib.hid ⟨fun _ => rfl, fun _ => rfl, fun _ => rfl⟩, LB.out, B1.out⟩
  case round =>
    obtain ⟨sL, S, nx, p0, p1, p2, rfl, rfl, HS, hnx, h0, h1, h2, hg, DD, IV, ZP, hsl, hbw⟩ := hrel
    have G := Lib.hid hg; have BW := Lib.hid hbw
    have n0 : (0 : Int) ≤ (nx : Int) := Int.natCast_nonneg _
    have a0 : (0 : Int) ≤ (p0 : Int) := Int.natCast_nonneg _
    have a1 : (0 : Int) ≤ (p1 : Int) := Int.natCast_nonneg _
    have a2 : (0 : Int) ≤ (p2 : Int) := Int.natCast_nonneg _
    have b0 : (p0 : Int) < 1000000000 := by omega
    have b1 : (p1 : Int) < 1000000000 := by omega
    have b2 : (p2 : Int) < 1000000000 := by omega
    clear hg hbw
    by_cases hs : sL = []
    · have e1 : S.toList = [] := by rw [HS.out, bs_toList, hs]
      have e2 : S.toList.isEmpty = true := by rw [e1]; rfl
      have e3 : (!S.toList.isEmpty) = false := by rw [e2]; rfl
      have SR := Lib.hid (invS_done (by have := IV.out; rw [hs] at this; exact this))
      obtain ⟨c0, c1, c2, -⟩ := DD.out
      obtain ⟨tot, htot⟩ : ∃ tot : Nat, tot = p0 * 1440 + p1 * 60 + p2 := ⟨_, rfl⟩
      have TT := Lib.hid (show (p0 : Int) * 1440 + (p1 : Int) * 60 + (p2 : Int) = (tot : Int) by omega)
      rw [← htot] at SR
      clear hs htot
      by_cases hn0 : nx = 0
      · have E := Lib.hid (show finS (lessB l) (some (nx, tot)) = (0, 2) by rw [finS, if_pos hn0])
        have t1 : ((nx : Int) == 0) = true := by rw [beq_iff_eq]; omega
        clear hn0
        go_wp2
        go_ret2
        exact ⟨_, SR.out, by rw [E.out]; rfl, BW.out⟩
      have t1 : ((nx : Int) == 0) = false := by rw [beq_eq_false_iff_ne]; omega
      by_cases hn1 : 1000000 < (tot : Int)
      · have E := Lib.hid (show finS (lessB l) (some (nx, tot)) = (0, 1) by rw [finS, if_neg hn0, if_pos (by omega)])
        have t2 : decide (1000000 < (p0 : Int) * 1440 + (p1 : Int) * 60 + (p2 : Int)) = true := by rw [TT.out]; exact decide_eq_true hn1
        clear hn0 hn1
        go_wp2
        go_ret2
        exact ⟨_, SR.out, by rw [E.out]; rfl, BW.out⟩
      have t2 : decide (1000000 < (p0 : Int) * 1440 + (p1 : Int) * 60 + (p2 : Int)) = false := by rw [TT.out]; exact decide_eq_false hn1
      have E := Lib.hid (show finS (lessB l) (some (nx, tot)) = (if less then -(tot : Int) else tot, 0) by rw [finS, if_neg hn0, if_neg (by omega), HL.out])
      clear hn0 hn1
      cases less
      · go_wp2
        go_ret2
        exact ⟨_, SR.out, by rw [E.out, ← TT.out]; rfl, BW.out⟩
      · go_wp2
        go_ret2
        exact ⟨_, SR.out, by rw [E.out, ← TT.out]; rfl, BW.out⟩
    · have e1 : ¬ S.toList = [] := by rw [HS.out, bs_toList]; exact hs
      have e2 : S.toList.isEmpty = false := by
        cases h : S.toList with
        | nil => exact absurd h e1
        | cons a r => rfl
      have e3 : (!S.toList.isEmpty) = true := by rw [e2]; rfl
      have sz : S.size = sL.length := by rw [HS.out, bs_size]
      have IA := Lib.hid (fun w => iany_any S w (by rw [HS.out, bs_size]; exact hsl))
      rw [show S.data.toList = sL by rw [HS.out, bs_arr]] at IA
      rcases any_split sL with hno | ⟨P, c, r, rfl, hP, hc⟩
      · have hz : Z = false := by
          rcases IV.out with ⟨h, -⟩ | ⟨h, -, ⟨h', -⟩ | ⟨h', -⟩⟩
          · exact h
          · rw [h'] at hno; exact absurd (hno 109 (by simp)) (by decide)
          · exact absurd h' hs
        have SR := Lib.hid (invS_bad (by have := IV.out; rw [hz] at this; exact this) hs (step_none hno))
        rw [ia_none hno] at IA
        clear hno hz hs
        go_wp2_with fail
        refine (IA.out _).mono ?_; rintro e w2 ⟨rfl, hb2⟩
        have B2 := Lib.hid (BW.out.trans (hb2.mono BW.out.size))
        clear hb2
        go_wp2
        go_ret2
        exact ⟨_, SR.out, rfl, B2.out⟩
      obtain ⟨k, hk, rfl⟩ := let_in hc
      rw [ia_hit hP hc] at IA
      have ZF := Lib.hid (show Z = true → P = [48] ∧ k = 2 ∧ r = [] ∧ nx = 0 from fun h => by
        rcases IV.out with ⟨h1, -⟩ | ⟨-, -, ⟨h', h3, -⟩ | ⟨h', -⟩⟩
        · rw [h] at h1; cases h1
        · obtain ⟨g1, g2, g3⟩ := split_let P [48] (letC k) (letC 2) r [] hP (by decide) hc (by decide) h'
          exact ⟨g1, letC_inj hk (by omega) g2, g3, h3⟩
        · exact absurd h' hs)
      have LEN := Lib.hid (show (P ++ letC k :: r).length = P.length + 1 + r.length by simp; omega)
      have FAIL := Lib.hid (show Z = false → (∀ k' n' r', ¬ StepS nx (P ++ letC k :: r) k' n' r') → SpanR l (0, 2) from fun h h' => invS_bad (by have := IV.out; rw [h] at this; exact this) hs h')
      have i0 : (0 : Int) ≤ (P.length : Int) := Int.natCast_nonneg _
      clear hs hc
      by_cases hlen : P.length < 1 ∨ 9 < P.length
      · have SR := Lib.hid (FAIL.out (by
          cases hz : Z
          · rfl
          · obtain ⟨h, -⟩ := ZF.out hz
            rw [h] at hlen; simp at hlen) (fun k' n' r' => len_step hP hk hlen))
        have tt : decide ((P.length : Int) < 1) = true ∨ (decide ((P.length : Int) < 1) = false ∧ decide (9 < (P.length : Int)) = true) := by
          simp only [decide_eq_true_eq, decide_eq_false_iff_not]; omega
        clear hlen
        rcases tt with t1 | ⟨t1, t2⟩
        all_goals
          go_wp2_with fail
          refine (IA.out _).mono ?_; rintro e w2 ⟨rfl, hb2⟩
          have B2 := Lib.hid (BW.out.trans (hb2.mono BW.out.size))
          clear hb2
          go_wp2
          go_ret2
          exact ⟨_, SR.out, rfl, B2.out⟩
      have l1 : 1 ≤ P.length := by omega
      have l2 : P.length ≤ 9 := by omega
      have t1 : decide ((P.length : Int) < 1) = false := decide_eq_false (by omega)
      have t2 : decide (9 < (P.length : Int)) = false := decide_eq_false (by omega)
      have l3 : (P.length : Int) ≤ 9 := by omega
      have lS : P.length < S.size := by rw [sz, LEN.out]; omega
      have lSi : (P.length : Int) < (S.size : Int) := by omega
      have PX := Lib.hid (show S.extract 0 P.length = bs P by rw [HS.out, bs_extract]; simp)
      have RX := Lib.hid (show S.extract (P.length + 1) S.size = bs r by
        rw [sz, HS.out, bs_extract]
        congr 1
        rw [show (P ++ letC k :: r).drop (P.length + 1) = r by simp]
        exact List.take_of_length_le (by rw [LEN.out]; omega))
      have CX := Lib.hid (show S[P.length] = letC k by
        have h := HS.out
        subst h
        exact bs_mid P r (letC k) lS)
      obtain ⟨cn, hcn0⟩ : ∃ cn : Int, cn = ((letC k).toNat : Int) := ⟨_, rfl⟩
      have hcn : ((S[P.length]).toNat : Int) = cn := by rw [CX.out, hcn0]
      have IB := Lib.hid (fun w => show Calls Tryz.prog 41 #[.string { data := #[100, 104, 109] }, .int .u8 cn] w (fun e w' => e = .returned (.int .i64 (k : Int)) ∧ w = w') from (Tryz.strings_IndexByte { data := #[100, 104, 109] } cn w).mono fun e w' h => ⟨by rw [h.1, show cn.toNat.toUInt8 = letC k by rw [hcn0]; simp, ← let_ix hk]; rfl, h.2.symm⟩)
      clear hcn0 hlen
      cases hA : Lib.atoi P with
      | none =>
        have SR := Lib.hid (FAIL.out (by
          cases hz : Z
          · rfl
          · obtain ⟨h, -⟩ := ZF.out hz
            rw [h] at hA; exact absurd hA (by decide)) (fun k' n' r' => atoi_step hP hk hA))
        have HA := Lib.hid hA
        clear hA
        go_wp2_with fail
        refine (IA.out _).mono ?_; rintro e w2 ⟨rfl, hb2⟩
        have B2 := Lib.hid (BW.out.trans (hb2.mono BW.out.size))
        clear hb2
        go_wp2_with fail
        rw [PX.out]
        refine (atoi_no P _ (ST.out.below B2.out) (by omega) HA.out).mono ?_; rintro e w3 ⟨⟨pe, rfl⟩, hb3⟩
        rw [← PX.out]
        have B3 := Lib.hid (B2.out.trans (hb3.mono B2.out.size))
        clear hb3
        go_wp2_with fail
        refine (IB.out _).mono ?_; rintro e w4 ⟨rfl, rfl⟩
        go_upto_region 10 with fail
        go_quiet (fail)
        have B4 := Lib.hid (below_drewN B3.out nq)
        go_wp2
        go_ret2
        exact ⟨_, SR.out, rfl, B4.out⟩
      | some n =>
        obtain ⟨bad, hbad⟩ : ∃ b, b = badR Z nx k n P := ⟨_, rfl⟩
        have BD := Lib.hid hbad
        have nb := Lib.atoi_bound hA (by omega)
        obtain ⟨nb1, nb2⟩ := nb
        have HA := Lib.hid hA
        have BY := Lib.hid (show bad = true → SpanR l (0, 2) from fun h => FAIL.out (by
          cases hz : Z
          · rfl
          · obtain ⟨g1, g2, g3, g4⟩ := ZF.out hz
            subst g1; subst g2; subst g4
            have e : n = 0 := by
              have : Lib.atoi [48] = some 0 := by decide
              rw [hA] at this; exact Option.some.inj this
            subst e
            rw [hbad, hz, badR_zero] at h; cases h) (fun k' n' r' => badR_yes (r := r) hP hk hA (by rw [← hbad]; exact h) k' n' r'))
        clear hA hbad
        go_wp2_with fail
        refine (IA.out _).mono ?_; rintro e w2 ⟨rfl, hb2⟩
        have B2 := Lib.hid (BW.out.trans (hb2.mono BW.out.size))
        have D2 := Lib.hid (dat3_below DD.out hb2)
        clear hb2
        go_wp2_with fail
        rw [PX.out]
        refine (atoi_yes P n _ (by omega) HA.out).mono ?_; rintro e w3 ⟨rfl, hb3⟩
        rw [← PX.out]
        have B3 := Lib.hid (B2.out.trans (hb3.mono B2.out.size))
        have D3 := Lib.hid (dat3_below D2.out hb3)
        clear hb3
        go_wp2_with fail
        refine (IB.out _).mono ?_; rintro e w4 ⟨rfl, rfl⟩
        have k0 : (0 : Int) ≤ (k : Int) := Int.natCast_nonneg _
        have lq : P.length ≤ S.size := by omega
        have lqi : (P.length : Int) ≤ (S.size : Int) := by omega
        have SZ := Lib.hid sz
        clear sz
        have IT := Lib.hid (fun wx (hb : Below w3.heap.size w3 wx) => itoa_any n wx (PT.out.below (B3.out.trans (hb.mono B3.out.size))) (by omega) (by omega))
        go_upto_region 10 with fail
        go_cut [78] (fun s78 wx => s78 = .bool bad ∧ Below w3.heap.size w3 wx)
        case first => as_aux_lemma =>
          by_cases hi : Lib.itoa n = P
          · rw [hi, ← PX.out] at IT
            by_cases hneg : n < 0
            · have f1 : decide (n < 0) = true := decide_eq_true hneg
              have EB := Lib.hid (show bad = true by rw [BD.out]; exact decide_eq_true (.inr (.inl hneg)))
              have cI := fun dd os => Calls.regrown_of (IT.out (Go.Sort.grow (redrawn w3 dd) os) (below_regrown w3 dd os))
              refine wp_region_quiet_below (by kernel_rfl) (by kernel_rfl) ?_
              repeat (go_big_quiet_step (with_reducible exact cI _ _))
              refine wpQuiet_nil ?_
              intro _ hw'
              obtain ⟨⟨dq, osq⟩, hw''⟩ := hw'
              have hb4 := below_regrown w3 dq osq
              simp only [] at hw''
              rw [← hw''] at hb4
              clear hw'' cI
              go_wp2
              go_meet
              exact ⟨by rw [EB.out], hb4⟩
            have f1 : decide (n < 0) = false := decide_eq_false hneg
            by_cases hkn : k < nx
            · have f2 : decide ((k : Int) < (nx : Int)) = true := decide_eq_true (by omega)
              have f2b : decide (k < nx) = true := decide_eq_true hkn
              have EB := Lib.hid (show bad = true by rw [BD.out]; exact decide_eq_true (.inr (.inr (.inl hkn))))
              have cI := fun dd os => Calls.regrown_of (IT.out (Go.Sort.grow (redrawn w3 dd) os) (below_regrown w3 dd os))
              refine wp_region_quiet_below (by kernel_rfl) (by kernel_rfl) ?_
              repeat (go_big_quiet_step (with_reducible exact cI _ _))
              refine wpQuiet_nil ?_
              intro _ hw'
              obtain ⟨⟨dq, osq⟩, hw''⟩ := hw'
              have hb4 := below_regrown w3 dq osq
              simp only [] at hw''
              rw [← hw''] at hb4
              clear hw'' cI
              go_wp2
              go_meet
              exact ⟨by rw [EB.out], hb4⟩
            have f2 : decide ((k : Int) < (nx : Int)) = false := decide_eq_false (by omega)
            have f2b : decide (k < nx) = false := decide_eq_false hkn
            have hk3 : k = 0 ∨ k = 1 ∨ k = 2 := by omega
            by_cases hn0 : n = 0
            · have f4 : (n == 0) = true := by rw [beq_iff_eq]; exact hn0
              have g1 : decide ((24 : Int) ≤ n) = false := decide_eq_false (by omega)
              have g2 : decide ((60 : Int) ≤ n) = false := decide_eq_false (by omega)
              have HN0 := Lib.hid hn0
              clear hn0
              cases hz : Z
              · have u1 : ¬ T.toList = [48, 109] := fun h => by have := TZ.out.1 h; rw [hz] at this; cases this
                have u2 : (T.toList == [48, 109]) = false := by rw [beq_eq_false_iff_ne]; exact u1
                rcases hk3 with rfl | hk1 | hk2
                · have EB := Lib.hid (show bad = true by rw [BD.out]; exact decide_eq_true (.inr (.inr (.inr (.inr ⟨HN0.out, hz⟩)))))
                  have cI := fun dd os => Calls.regrown_of (IT.out (Go.Sort.grow (redrawn w3 dd) os) (below_regrown w3 dd os))
                  refine wp_region_quiet_below (by kernel_rfl) (by kernel_rfl) ?_
                  repeat (go_big_quiet_step (with_reducible exact cI _ _))
                  refine wpQuiet_nil ?_
                  intro _ hw'
                  obtain ⟨⟨dq, osq⟩, hw''⟩ := hw'
                  have hb4 := below_regrown w3 dq osq
                  simp only [] at hw''
                  rw [← hw''] at hb4
                  clear hw'' cI
                  go_wp2
                  go_meet
                  exact ⟨by rw [EB.out], hb4⟩
                · have HLM := Lib.hid (show limN k = 24 by rw [limN, if_pos hk1])
                  have f7 : decide ((0 : Int) < (k : Int)) = true := decide_eq_true (by omega)
                  have f7b : decide (0 < k) = true := decide_eq_true (by omega)
                  have i3 : (k : Int) < 3 := by omega
                  have i3b : k < 3 := by omega
                  have EB := Lib.hid (show bad = true by rw [BD.out]; exact decide_eq_true (.inr (.inr (.inr (.inr ⟨HN0.out, hz⟩)))))
                  have HK := Lib.hid hk1; clear hk1
                  refine wp_region_held_drew (S := (fun w' => Below w3.heap.size w3 w')) (by kernel_rfl) (Below.refl _ _).drew (fun hHeld => ?_)
                  refine wpAnyH_take (i := 0) (v := ?_) rfl (by kernel_rfl) (by kernel_rfl) (by kernel_rfl) (fun _ _ _ h => h) (Or.inl ⟨by rfl, ?_⟩) hHeld ?_
                  rotate_left
                  · (intro w hSw; go_simp <;> with_reducible rfl)
                  change wpAnyH _ _ _ _ _ _ _ (Act.put _ (some 40) _) _
                  try simp only [Act.put, List.setIfInBounds_toArray, List.set_cons_zero, List.set_cons_succ]
                  refine wpAnyH_take (i := 1) (v := ?_) rfl (by kernel_rfl) (by kernel_rfl) (by kernel_rfl) (fun _ _ _ h => h) (Or.inl ⟨by rfl, ?_⟩) hHeld ?_
                  rotate_left
                  · (intro w hSw; go_simp <;> with_reducible rfl)
                  change wpAnyH _ _ _ _ _ _ _ (Act.put _ (some 41) _) _
                  try simp only [Act.put, List.setIfInBounds_toArray, List.set_cons_zero, List.set_cons_succ]
                  refine wpAnyH_take (i := 2) (v := ?_) rfl (by kernel_rfl) (by kernel_rfl) (by kernel_rfl) (fun _ _ _ h => h) (Or.inl ⟨by rfl, ?_⟩) hHeld ?_
                  rotate_left
                  · (intro w hSw; go_simp <;> with_reducible rfl)
                  change wpAnyH _ _ _ _ _ _ _ (Act.put _ (some 42) _) _
                  try simp only [Act.put, List.setIfInBounds_toArray, List.set_cons_zero, List.set_cons_succ]
                  refine wpAnyH_take (i := 3) (v := ?_) rfl (by kernel_rfl) (by kernel_rfl) (by kernel_rfl) (fun _ _ _ h => h) (Or.inl ⟨by rfl, ?_⟩) hHeld ?_
                  rotate_left
                  · (intro w hSw; go_simp <;> with_reducible rfl)
                  change wpAnyH _ _ _ _ _ _ _ (Act.put _ (some 43) _) _
                  try simp only [Act.put, List.setIfInBounds_toArray, List.set_cons_zero, List.set_cons_succ]
                  refine wpAnyH_take (i := 5) (v := ?_) rfl (by kernel_rfl) (by kernel_rfl) (by kernel_rfl) (fun _ _ _ h => h) (Or.inl ⟨by rfl, ?_⟩) hHeld ?_
                  rotate_left
                  · (intro w hSw; go_simp <;> with_reducible rfl)
                  change wpAnyH _ _ _ _ _ _ _ (Act.put _ (some 45) _) _
                  try simp only [Act.put, List.setIfInBounds_toArray, List.set_cons_zero, List.set_cons_succ]
                  refine wpAnyH_take (i := 6) (v := ?_) rfl (by kernel_rfl) (by kernel_rfl) (by kernel_rfl) (fun _ _ _ h => h) (Or.inl ⟨by rfl, ?_⟩) hHeld ?_
                  rotate_left
                  · (intro w hSw; go_simp <;> with_reducible rfl)
                  change wpAnyH _ _ _ _ _ _ _ (Act.put _ (some 46) _) _
                  try simp only [Act.put, List.setIfInBounds_toArray, List.set_cons_zero, List.set_cons_succ]
                  refine wpAnyH_take (i := 7) (v := ?_) rfl (by kernel_rfl) (by kernel_rfl) (by kernel_rfl) (fun _ _ _ h => h) (Or.inl ⟨by rfl, ?_⟩) hHeld ?_
                  rotate_left
                  · (intro w hSw; go_simp <;> with_reducible rfl)
                  change wpAnyH _ _ _ _ _ _ _ (Act.put _ (some 47) _) _
                  try simp only [Act.put, List.setIfInBounds_toArray, List.set_cons_zero, List.set_cons_succ]
                  refine wpAnyH_ready (rs := [4]) (by kernel_rfl) (by simp) ?_
                  refine AllReadyH.cons rfl (fun K hK => ?_) ?_
                  · go_simp; go_at_call 37; (with_reducible refine (IT.out _ hHeld).mono ?_); rintro e wq ⟨rfl, hbq⟩; (try go_wp2_with fail)
                    refine hK.out _ _ (below_nx hHeld hbq) (fun hHeld => ?_)
                    clear hK K
                    try simp only [Act.put, List.setIfInBounds_toArray, List.set_cons_zero, List.set_cons_succ]
                    clear hbq
                    refine wpAnyH_take (i := 8) (v := ?_) rfl (by kernel_rfl) (by kernel_rfl) (by kernel_rfl) (fun _ _ _ h => h) (Or.inl ⟨by rfl, ?_⟩) hHeld ?_
                    rotate_left
                    · (intro w hSw; go_simp <;> with_reducible rfl)
                    change wpAnyH _ _ _ _ _ _ _ (Act.put _ (some 48) _) _
                    try simp only [Act.put, List.setIfInBounds_toArray, List.set_cons_zero, List.set_cons_succ]
                    refine wpAnyH_take (i := 9) (v := ?_) rfl (by kernel_rfl) (by kernel_rfl) (by kernel_rfl) (fun _ _ _ h => h) (Or.inl ⟨by rfl, ?_⟩) hHeld ?_
                    rotate_left
                    · (intro w hSw; go_simp <;> with_reducible rfl)
                    change wpAnyH _ _ _ _ _ _ _ (Act.put _ (some 49) _) _
                    try simp only [Act.put, List.setIfInBounds_toArray, List.set_cons_zero, List.set_cons_succ]
                    refine wpAnyH_take (i := 10) (v := ?_) rfl (by kernel_rfl) (by kernel_rfl) (by kernel_rfl) (fun _ _ _ h => h) (Or.inl ⟨by rfl, ?_⟩) hHeld ?_
                    rotate_left
                    · (intro w hSw; go_simp <;> with_reducible rfl)
                    change wpAnyH _ _ _ _ _ _ _ (Act.put _ (some 50) _) _
                    try simp only [Act.put, List.setIfInBounds_toArray, List.set_cons_zero, List.set_cons_succ]
                    refine wpAnyH_take (i := 11) (v := ?_) rfl (by kernel_rfl) (by kernel_rfl) (by kernel_rfl) (fun _ _ _ h => h) (Or.inl ⟨by rfl, ?_⟩) hHeld ?_
                    rotate_left
                    · (intro w hSw; go_simp <;> with_reducible rfl)
                    change wpAnyH _ _ _ _ _ _ _ (Act.put _ (some 51) _) _
                    try simp only [Act.put, List.setIfInBounds_toArray, List.set_cons_zero, List.set_cons_succ]
                    refine wpAnyH_take (i := 12) (v := ?_) rfl (by kernel_rfl) (by kernel_rfl) (by kernel_rfl) (fun _ _ _ h => h) (Or.inl ⟨by rfl, ?_⟩) hHeld ?_
                    rotate_left
                    · (intro w hSw; go_simp <;> with_reducible rfl)
                    change wpAnyH _ _ _ _ _ _ _ (Act.put _ (some 52) _) _
                    try simp only [Act.put, List.setIfInBounds_toArray, List.set_cons_zero, List.set_cons_succ]
                    refine wpAnyH_take (i := 13) (v := ?_) rfl (by kernel_rfl) (by kernel_rfl) (by kernel_rfl) (fun _ _ _ h => h) (Or.inl ⟨by rfl, ?_⟩) hHeld ?_
                    rotate_left
                    · (intro w hSw; go_simp <;> with_reducible rfl)
                    change wpAnyH _ _ _ _ _ _ _ (Act.put _ (some 53) _) _
                    try simp only [Act.put, List.setIfInBounds_toArray, List.set_cons_zero, List.set_cons_succ]
                    refine wpAnyH_take (i := 14) (v := ?_) rfl (by kernel_rfl) (by kernel_rfl) (by kernel_rfl) (fun _ _ _ h => h) (Or.inl ⟨by rfl, ?_⟩) hHeld ?_
                    rotate_left
                    · (intro w hSw; go_simp <;> with_reducible rfl)
                    change wpAnyH _ _ _ _ _ _ _ (Act.put _ (some 54) _) _
                    try simp only [Act.put, List.setIfInBounds_toArray, List.set_cons_zero, List.set_cons_succ]
                    refine wpAnyH_take (i := 15) (v := ?_) rfl (by kernel_rfl) (by kernel_rfl) (by kernel_rfl) (fun _ _ _ h => h) (Or.inl ⟨by rfl, ?_⟩) hHeld ?_
                    rotate_left
                    · (intro w hSw; go_simp <;> with_reducible rfl)
                    change wpAnyH _ _ _ _ _ _ _ (Act.put _ (some 55) _) _
                    try simp only [Act.put, List.setIfInBounds_toArray, List.set_cons_zero, List.set_cons_succ]
                    refine wpAnyH_take (i := 16) (v := ?_) rfl (by kernel_rfl) (by kernel_rfl) (by kernel_rfl) (fun _ _ _ h => h) (Or.inl ⟨by rfl, ?_⟩) hHeld ?_
                    rotate_left
                    · (intro w hSw; go_simp <;> with_reducible rfl)
                    change wpAnyH _ _ _ _ _ _ _ (Act.put _ (some 56) _) _
                    try simp only [Act.put, List.setIfInBounds_toArray, List.set_cons_zero, List.set_cons_succ]
                    refine wpAnyH_take (i := 17) (v := ?_) rfl (by kernel_rfl) (by kernel_rfl) (by kernel_rfl) (fun _ _ _ h => h) (Or.inl ⟨by rfl, ?_⟩) hHeld ?_
                    rotate_left
                    · (intro w hSw; go_simp <;> with_reducible rfl)
                    change wpAnyH _ _ _ _ _ _ _ (Act.put _ (some 57) _) _
                    try simp only [Act.put, List.setIfInBounds_toArray, List.set_cons_zero, List.set_cons_succ]
                    refine wpAnyH_take (i := 18) (v := ?_) rfl (by kernel_rfl) (by kernel_rfl) (by kernel_rfl) (fun _ _ _ h => h) (Or.inl ⟨by rfl, ?_⟩) hHeld ?_
                    rotate_left
                    · (intro w hSw; go_simp <;> with_reducible rfl)
                    change wpAnyH _ _ _ _ _ _ _ (Act.put _ (some 58) _) _
                    try simp only [Act.put, List.setIfInBounds_toArray, List.set_cons_zero, List.set_cons_succ]
                    refine wpAnyH_take (i := 19) (v := ?_) rfl (by kernel_rfl) (by kernel_rfl) (by kernel_rfl) (fun _ _ _ h => h) (Or.inl ⟨by rfl, ?_⟩) hHeld ?_
                    rotate_left
                    · (intro w hSw; go_simp <;> with_reducible rfl)
                    change wpAnyH _ _ _ _ _ _ _ (Act.put _ (some 59) _) _
                    try simp only [Act.put, List.setIfInBounds_toArray, List.set_cons_zero, List.set_cons_succ]
                    refine wpAnyH_take (i := 20) (v := ?_) rfl (by kernel_rfl) (by kernel_rfl) (by kernel_rfl) (fun _ _ _ h => h) (Or.inl ⟨by rfl, ?_⟩) hHeld ?_
                    rotate_left
                    · (intro w hSw; go_simp <;> with_reducible rfl)
                    change wpAnyH _ _ _ _ _ _ _ (Act.put _ (some 60) _) _
                    try simp only [Act.put, List.setIfInBounds_toArray, List.set_cons_zero, List.set_cons_succ]
                    refine wpAnyH_take (i := 21) (v := ?_) rfl (by kernel_rfl) (by kernel_rfl) (by kernel_rfl) (fun _ _ _ h => h) (Or.inl ⟨by rfl, ?_⟩) hHeld ?_
                    rotate_left
                    · (intro w hSw; go_simp <;> with_reducible rfl)
                    change wpAnyH _ _ _ _ _ _ _ (Act.put _ (some 61) _) _
                    try simp only [Act.put, List.setIfInBounds_toArray, List.set_cons_zero, List.set_cons_succ]
                    refine wpAnyH_take (i := 22) (v := ?_) rfl (by kernel_rfl) (by kernel_rfl) (by kernel_rfl) (fun _ _ _ h => h) (Or.inl ⟨by rfl, ?_⟩) hHeld ?_
                    rotate_left
                    · (intro w hSw; go_simp <;> with_reducible rfl)
                    change wpAnyH _ _ _ _ _ _ _ (Act.put _ (some 62) _) _
                    try simp only [Act.put, List.setIfInBounds_toArray, List.set_cons_zero, List.set_cons_succ]
                    refine wpAnyH_take (i := 23) (v := ?_) rfl (by kernel_rfl) (by kernel_rfl) (by kernel_rfl) (fun _ _ _ h => h) (Or.inl ⟨by rfl, ?_⟩) hHeld ?_
                    rotate_left
                    · (intro w hSw; go_simp <;> with_reducible rfl)
                    change wpAnyH _ _ _ _ _ _ _ (Act.put _ (some 63) _) _
                    try simp only [Act.put, List.setIfInBounds_toArray, List.set_cons_zero, List.set_cons_succ]
                    refine wpAnyH_take (i := 25) (v := ?_) rfl (by kernel_rfl) (by kernel_rfl) (by kernel_rfl) (fun _ _ _ h => h) (Or.inl ⟨by rfl, ?_⟩) hHeld ?_
                    rotate_left
                    · (intro w hSw; go_simp <;> with_reducible rfl)
                    change wpAnyH _ _ _ _ _ _ _ (Act.put _ (some 65) _) _
                    try simp only [Act.put, List.setIfInBounds_toArray, List.set_cons_zero, List.set_cons_succ]
                    refine wpAnyH_ready (rs := [24]) (by kernel_rfl) (by simp) ?_
                    refine AllReadyH.cons rfl (fun K hK => ?_) ?_
                    · go_simp
                      refine hK.out _ _ (below_al hHeld (Nat.le_refl _) _) (fun hHeld => ?_)
                      clear hK K
                      try simp only [Act.put, List.setIfInBounds_toArray, List.set_cons_zero, List.set_cons_succ]
                      have c27 : (wq.alloc (.cells #[.int .i64 0, .int .i64 24, .int .i64 60] 3)).cell? ⟨wq.heap.size, k, none⟩ = some (.int .i64 24) := by rw [HK.out]; simp
                      refine wpAnyH_take (i := 26) (v := ?_) rfl (by kernel_rfl) (by kernel_rfl) (by kernel_rfl) (fun _ _ _ h => h) (Or.inl ⟨by rfl, ?_⟩) hHeld ?_
                      rotate_left
                      · (intro w hSw; go_simp <;> with_reducible rfl)
                      change wpAnyH _ _ _ _ _ _ _ (Act.put _ (some 66) _) _
                      try simp only [Act.put, List.setIfInBounds_toArray, List.set_cons_zero, List.set_cons_succ]
                      refine wpAnyH_ready (rs := [27]) (by kernel_rfl) (by simp) ?_
                      refine AllReadyH.cons rfl (fun K hK => ?_) ?_
                      · go_simp
                        refine hK.out _ _ (hHeld) (fun hHeld => ?_)
                        clear hK K
                        try simp only [Act.put, List.setIfInBounds_toArray, List.set_cons_zero, List.set_cons_succ]
                        refine wpAnyH_take (i := 28) (v := ?_) rfl (by kernel_rfl) (by kernel_rfl) (by kernel_rfl) (fun _ _ _ h => h) (Or.inl ⟨by rfl, ?_⟩) hHeld ?_
                        rotate_left
                        · (intro w hSw; go_simp <;> with_reducible rfl)
                        change wpAnyH _ _ _ _ _ _ _ (Act.put _ (some 68) _) _
                        try simp only [Act.put, List.setIfInBounds_toArray, List.set_cons_zero, List.set_cons_succ]
                        refine wpAnyH_take (i := 29) (v := ?_) rfl (by kernel_rfl) (by kernel_rfl) (by kernel_rfl) (fun _ _ _ h => h) (Or.inl ⟨by rfl, ?_⟩) hHeld ?_
                        rotate_left
                        · (intro w hSw; go_simp <;> with_reducible rfl)
                        change wpAnyH _ _ _ _ _ _ _ (Act.put _ (some 69) _) _
                        try simp only [Act.put, List.setIfInBounds_toArray, List.set_cons_zero, List.set_cons_succ]
                        refine wpAnyH_take (i := 30) (v := ?_) rfl (by kernel_rfl) (by kernel_rfl) (by kernel_rfl) (fun _ _ _ h => h) (Or.inl ⟨by rfl, ?_⟩) hHeld ?_
                        rotate_left
                        · (intro w hSw; go_simp <;> with_reducible rfl)
                        change wpAnyH _ _ _ _ _ _ _ (Act.put _ (some 70) _) _
                        try simp only [Act.put, List.setIfInBounds_toArray, List.set_cons_zero, List.set_cons_succ]
                        refine wpAnyH_take (i := 31) (v := ?_) rfl (by kernel_rfl) (by kernel_rfl) (by kernel_rfl) (fun _ _ _ h => h) (Or.inl ⟨by rfl, ?_⟩) hHeld ?_
                        rotate_left
                        · (intro w hSw; go_simp <;> with_reducible rfl)
                        change wpAnyH _ _ _ _ _ _ _ (Act.put _ (some 71) _) _
                        try simp only [Act.put, List.setIfInBounds_toArray, List.set_cons_zero, List.set_cons_succ]
                        refine wpAnyH_take (i := 32) (v := ?_) rfl (by kernel_rfl) (by kernel_rfl) (by kernel_rfl) (fun _ _ _ h => h) (Or.inl ⟨by rfl, ?_⟩) hHeld ?_
                        rotate_left
                        · (intro w hSw; go_simp <;> with_reducible rfl)
                        change wpAnyH _ _ _ _ _ _ _ (Act.put _ (some 72) _) _
                        try simp only [Act.put, List.setIfInBounds_toArray, List.set_cons_zero, List.set_cons_succ]
                        refine wpAnyH_take (i := 33) (v := ?_) rfl (by kernel_rfl) (by kernel_rfl) (by kernel_rfl) (fun _ _ _ h => h) (Or.inl ⟨by rfl, ?_⟩) hHeld ?_
                        rotate_left
                        · (intro w hSw; go_simp <;> with_reducible rfl)
                        change wpAnyH _ _ _ _ _ _ _ (Act.put _ (some 73) _) _
                        try simp only [Act.put, List.setIfInBounds_toArray, List.set_cons_zero, List.set_cons_succ]
                        refine wpAnyH_take (i := 34) (v := ?_) rfl (by kernel_rfl) (by kernel_rfl) (by kernel_rfl) (fun _ _ _ h => h) (Or.inl ⟨by rfl, ?_⟩) hHeld ?_
                        rotate_left
                        · (intro w hSw; go_simp <;> with_reducible rfl)
                        change wpAnyH _ _ _ _ _ _ _ (Act.put _ (some 74) _) _
                        try simp only [Act.put, List.setIfInBounds_toArray, List.set_cons_zero, List.set_cons_succ]
                        refine wpAnyH_take (i := 35) (v := ?_) rfl (by kernel_rfl) (by kernel_rfl) (by kernel_rfl) (fun _ _ _ h => h) (Or.inl ⟨by rfl, ?_⟩) hHeld ?_
                        rotate_left
                        · (intro w hSw; go_simp <;> with_reducible rfl)
                        change wpAnyH _ _ _ _ _ _ _ (Act.put _ (some 75) _) _
                        try simp only [Act.put, List.setIfInBounds_toArray, List.set_cons_zero, List.set_cons_succ]
                        refine wpAnyH_take (i := 36) (v := ?_) rfl (by kernel_rfl) (by kernel_rfl) (by kernel_rfl) (fun _ _ _ h => h) (Or.inl ⟨by rfl, ?_⟩) hHeld ?_
                        rotate_left
                        · (intro w hSw; go_simp <;> with_reducible rfl)
                        change wpAnyH _ _ _ _ _ _ _ (Act.put _ (some 76) _) _
                        try simp only [Act.put, List.setIfInBounds_toArray, List.set_cons_zero, List.set_cons_succ]
                        refine wpAnyH_take (i := 37) (v := ?_) rfl (by kernel_rfl) (by kernel_rfl) (by kernel_rfl) (fun _ _ _ h => h) (Or.inl ⟨by rfl, ?_⟩) hHeld ?_
                        rotate_left
                        · (intro w hSw; go_simp <;> with_reducible rfl)
                        change wpAnyH _ _ _ _ _ _ _ (Act.put _ (some 77) _) _
                        try simp only [Act.put, List.setIfInBounds_toArray, List.set_cons_zero, List.set_cons_succ]
                        refine wpAnyH_take (i := 38) (v := ?_) rfl (by kernel_rfl) (by kernel_rfl) (by kernel_rfl) (fun _ _ _ h => h) (Or.inl ⟨by rfl, ?_⟩) hHeld ?_
                        rotate_left
                        · (intro w hSw; go_simp <;> with_reducible rfl)
                        change wpAnyH _ _ _ _ _ _ _ (Act.put _ (some 78) _) _
                        try simp only [Act.put, List.setIfInBounds_toArray, List.set_cons_zero, List.set_cons_succ]
                        refine wpAnyH_done (by kernel_rfl) ?_ _
                        (try dsimp only [Act.put])
                        try simp only [Act.put, List.setIfInBounds_toArray, List.set_cons_zero, List.set_cons_succ]
                        clear f1 f2 f2b f4 f7 f7b i3 i3b hneg hkn hi nb1 nb2 k0
                        go_wp2
                        go_meet
                        exact ⟨by rw [EB.out], hHeld⟩
                      exact AllReadyH.nil
                    exact AllReadyH.nil
                  exact AllReadyH.nil
                · have HLM := Lib.hid (show limN k = 60 by rw [limN, if_neg (by omega)])
                  have f7 : decide ((0 : Int) < (k : Int)) = true := decide_eq_true (by omega)
                  have f7b : decide (0 < k) = true := decide_eq_true (by omega)
                  have i3 : (k : Int) < 3 := by omega
                  have i3b : k < 3 := by omega
                  have EB := Lib.hid (show bad = true by rw [BD.out]; exact decide_eq_true (.inr (.inr (.inr (.inr ⟨HN0.out, hz⟩)))))
                  have HK := Lib.hid hk2; clear hk2
                  refine wp_region_held_drew (S := (fun w' => Below w3.heap.size w3 w')) (by kernel_rfl) (Below.refl _ _).drew (fun hHeld => ?_)
                  refine wpAnyH_take (i := 0) (v := ?_) rfl (by kernel_rfl) (by kernel_rfl) (by kernel_rfl) (fun _ _ _ h => h) (Or.inl ⟨by rfl, ?_⟩) hHeld ?_
                  rotate_left
                  · (intro w hSw; go_simp <;> with_reducible rfl)
                  change wpAnyH _ _ _ _ _ _ _ (Act.put _ (some 40) _) _
                  try simp only [Act.put, List.setIfInBounds_toArray, List.set_cons_zero, List.set_cons_succ]
                  refine wpAnyH_take (i := 1) (v := ?_) rfl (by kernel_rfl) (by kernel_rfl) (by kernel_rfl) (fun _ _ _ h => h) (Or.inl ⟨by rfl, ?_⟩) hHeld ?_
                  rotate_left
                  · (intro w hSw; go_simp <;> with_reducible rfl)
                  change wpAnyH _ _ _ _ _ _ _ (Act.put _ (some 41) _) _
                  try simp only [Act.put, List.setIfInBounds_toArray, List.set_cons_zero, List.set_cons_succ]
                  refine wpAnyH_take (i := 2) (v := ?_) rfl (by kernel_rfl) (by kernel_rfl) (by kernel_rfl) (fun _ _ _ h => h) (Or.inl ⟨by rfl, ?_⟩) hHeld ?_
                  rotate_left
                  · (intro w hSw; go_simp <;> with_reducible rfl)
                  change wpAnyH _ _ _ _ _ _ _ (Act.put _ (some 42) _) _
                  try simp only [Act.put, List.setIfInBounds_toArray, List.set_cons_zero, List.set_cons_succ]
                  refine wpAnyH_take (i := 3) (v := ?_) rfl (by kernel_rfl) (by kernel_rfl) (by kernel_rfl) (fun _ _ _ h => h) (Or.inl ⟨by rfl, ?_⟩) hHeld ?_
                  rotate_left
                  · (intro w hSw; go_simp <;> with_reducible rfl)
                  change wpAnyH _ _ _ _ _ _ _ (Act.put _ (some 43) _) _
                  try simp only [Act.put, List.setIfInBounds_toArray, List.set_cons_zero, List.set_cons_succ]
                  refine wpAnyH_take (i := 5) (v := ?_) rfl (by kernel_rfl) (by kernel_rfl) (by kernel_rfl) (fun _ _ _ h => h) (Or.inl ⟨by rfl, ?_⟩) hHeld ?_
                  rotate_left
                  · (intro w hSw; go_simp <;> with_reducible rfl)
                  change wpAnyH _ _ _ _ _ _ _ (Act.put _ (some 45) _) _
                  try simp only [Act.put, List.setIfInBounds_toArray, List.set_cons_zero, List.set_cons_succ]
                  refine wpAnyH_take (i := 6) (v := ?_) rfl (by kernel_rfl) (by kernel_rfl) (by kernel_rfl) (fun _ _ _ h => h) (Or.inl ⟨by rfl, ?_⟩) hHeld ?_
                  rotate_left
                  · (intro w hSw; go_simp <;> with_reducible rfl)
                  change wpAnyH _ _ _ _ _ _ _ (Act.put _ (some 46) _) _
                  try simp only [Act.put, List.setIfInBounds_toArray, List.set_cons_zero, List.set_cons_succ]
                  refine wpAnyH_take (i := 7) (v := ?_) rfl (by kernel_rfl) (by kernel_rfl) (by kernel_rfl) (fun _ _ _ h => h) (Or.inl ⟨by rfl, ?_⟩) hHeld ?_
                  rotate_left
                  · (intro w hSw; go_simp <;> with_reducible rfl)
                  change wpAnyH _ _ _ _ _ _ _ (Act.put _ (some 47) _) _
                  try simp only [Act.put, List.setIfInBounds_toArray, List.set_cons_zero, List.set_cons_succ]
                  refine wpAnyH_ready (rs := [4]) (by kernel_rfl) (by simp) ?_
                  refine AllReadyH.cons rfl (fun K hK => ?_) ?_
                  · go_simp; go_at_call 37; (with_reducible refine (IT.out _ hHeld).mono ?_); rintro e wq ⟨rfl, hbq⟩; (try go_wp2_with fail)
                    refine hK.out _ _ (below_nx hHeld hbq) (fun hHeld => ?_)
                    clear hK K
                    try simp only [Act.put, List.setIfInBounds_toArray, List.set_cons_zero, List.set_cons_succ]
                    clear hbq
                    refine wpAnyH_take (i := 8) (v := ?_) rfl (by kernel_rfl) (by kernel_rfl) (by kernel_rfl) (fun _ _ _ h => h) (Or.inl ⟨by rfl, ?_⟩) hHeld ?_
                    rotate_left
                    · (intro w hSw; go_simp <;> with_reducible rfl)
                    change wpAnyH _ _ _ _ _ _ _ (Act.put _ (some 48) _) _
                    try simp only [Act.put, List.setIfInBounds_toArray, List.set_cons_zero, List.set_cons_succ]
                    refine wpAnyH_take (i := 9) (v := ?_) rfl (by kernel_rfl) (by kernel_rfl) (by kernel_rfl) (fun _ _ _ h => h) (Or.inl ⟨by rfl, ?_⟩) hHeld ?_
                    rotate_left
                    · (intro w hSw; go_simp <;> with_reducible rfl)
                    change wpAnyH _ _ _ _ _ _ _ (Act.put _ (some 49) _) _
                    try simp only [Act.put, List.setIfInBounds_toArray, List.set_cons_zero, List.set_cons_succ]
                    refine wpAnyH_take (i := 10) (v := ?_) rfl (by kernel_rfl) (by kernel_rfl) (by kernel_rfl) (fun _ _ _ h => h) (Or.inl ⟨by rfl, ?_⟩) hHeld ?_
                    rotate_left
                    · (intro w hSw; go_simp <;> with_reducible rfl)
                    change wpAnyH _ _ _ _ _ _ _ (Act.put _ (some 50) _) _
                    try simp only [Act.put, List.setIfInBounds_toArray, List.set_cons_zero, List.set_cons_succ]
                    refine wpAnyH_take (i := 11) (v := ?_) rfl (by kernel_rfl) (by kernel_rfl) (by kernel_rfl) (fun _ _ _ h => h) (Or.inl ⟨by rfl, ?_⟩) hHeld ?_
                    rotate_left
                    · (intro w hSw; go_simp <;> with_reducible rfl)
                    change wpAnyH _ _ _ _ _ _ _ (Act.put _ (some 51) _) _
                    try simp only [Act.put, List.setIfInBounds_toArray, List.set_cons_zero, List.set_cons_succ]
                    refine wpAnyH_take (i := 12) (v := ?_) rfl (by kernel_rfl) (by kernel_rfl) (by kernel_rfl) (fun _ _ _ h => h) (Or.inl ⟨by rfl, ?_⟩) hHeld ?_
                    rotate_left
                    · (intro w hSw; go_simp <;> with_reducible rfl)
                    change wpAnyH _ _ _ _ _ _ _ (Act.put _ (some 52) _) _
                    try simp only [Act.put, List.setIfInBounds_toArray, List.set_cons_zero, List.set_cons_succ]
                    refine wpAnyH_take (i := 13) (v := ?_) rfl (by kernel_rfl) (by kernel_rfl) (by kernel_rfl) (fun _ _ _ h => h) (Or.inl ⟨by rfl, ?_⟩) hHeld ?_
                    rotate_left
                    · (intro w hSw; go_simp <;> with_reducible rfl)
                    change wpAnyH _ _ _ _ _ _ _ (Act.put _ (some 53) _) _
                    try simp only [Act.put, List.setIfInBounds_toArray, List.set_cons_zero, List.set_cons_succ]
                    refine wpAnyH_take (i := 14) (v := ?_) rfl (by kernel_rfl) (by kernel_rfl) (by kernel_rfl) (fun _ _ _ h => h) (Or.inl ⟨by rfl, ?_⟩) hHeld ?_
                    rotate_left
                    · (intro w hSw; go_simp <;> with_reducible rfl)
                    change wpAnyH _ _ _ _ _ _ _ (Act.put _ (some 54) _) _
                    try simp only [Act.put, List.setIfInBounds_toArray, List.set_cons_zero, List.set_cons_succ]
                    refine wpAnyH_take (i := 15) (v := ?_) rfl (by kernel_rfl) (by kernel_rfl) (by kernel_rfl) (fun _ _ _ h => h) (Or.inl ⟨by rfl, ?_⟩) hHeld ?_
                    rotate_left
                    · (intro w hSw; go_simp <;> with_reducible rfl)
                    change wpAnyH _ _ _ _ _ _ _ (Act.put _ (some 55) _) _
                    try simp only [Act.put, List.setIfInBounds_toArray, List.set_cons_zero, List.set_cons_succ]
                    refine wpAnyH_take (i := 16) (v := ?_) rfl (by kernel_rfl) (by kernel_rfl) (by kernel_rfl) (fun _ _ _ h => h) (Or.inl ⟨by rfl, ?_⟩) hHeld ?_
                    rotate_left
                    · (intro w hSw; go_simp <;> with_reducible rfl)
                    change wpAnyH _ _ _ _ _ _ _ (Act.put _ (some 56) _) _
                    try simp only [Act.put, List.setIfInBounds_toArray, List.set_cons_zero, List.set_cons_succ]
                    refine wpAnyH_take (i := 17) (v := ?_) rfl (by kernel_rfl) (by kernel_rfl) (by kernel_rfl) (fun _ _ _ h => h) (Or.inl ⟨by rfl, ?_⟩) hHeld ?_
                    rotate_left
                    · (intro w hSw; go_simp <;> with_reducible rfl)
                    change wpAnyH _ _ _ _ _ _ _ (Act.put _ (some 57) _) _
                    try simp only [Act.put, List.setIfInBounds_toArray, List.set_cons_zero, List.set_cons_succ]
                    refine wpAnyH_take (i := 18) (v := ?_) rfl (by kernel_rfl) (by kernel_rfl) (by kernel_rfl) (fun _ _ _ h => h) (Or.inl ⟨by rfl, ?_⟩) hHeld ?_
                    rotate_left
                    · (intro w hSw; go_simp <;> with_reducible rfl)
                    change wpAnyH _ _ _ _ _ _ _ (Act.put _ (some 58) _) _
                    try simp only [Act.put, List.setIfInBounds_toArray, List.set_cons_zero, List.set_cons_succ]
                    refine wpAnyH_take (i := 19) (v := ?_) rfl (by kernel_rfl) (by kernel_rfl) (by kernel_rfl) (fun _ _ _ h => h) (Or.inl ⟨by rfl, ?_⟩) hHeld ?_
                    rotate_left
                    · (intro w hSw; go_simp <;> with_reducible rfl)
                    change wpAnyH _ _ _ _ _ _ _ (Act.put _ (some 59) _) _
                    try simp only [Act.put, List.setIfInBounds_toArray, List.set_cons_zero, List.set_cons_succ]
                    refine wpAnyH_take (i := 20) (v := ?_) rfl (by kernel_rfl) (by kernel_rfl) (by kernel_rfl) (fun _ _ _ h => h) (Or.inl ⟨by rfl, ?_⟩) hHeld ?_
                    rotate_left
                    · (intro w hSw; go_simp <;> with_reducible rfl)
                    change wpAnyH _ _ _ _ _ _ _ (Act.put _ (some 60) _) _
                    try simp only [Act.put, List.setIfInBounds_toArray, List.set_cons_zero, List.set_cons_succ]
                    refine wpAnyH_take (i := 21) (v := ?_) rfl (by kernel_rfl) (by kernel_rfl) (by kernel_rfl) (fun _ _ _ h => h) (Or.inl ⟨by rfl, ?_⟩) hHeld ?_
                    rotate_left
                    · (intro w hSw; go_simp <;> with_reducible rfl)
                    change wpAnyH _ _ _ _ _ _ _ (Act.put _ (some 61) _) _
                    try simp only [Act.put, List.setIfInBounds_toArray, List.set_cons_zero, List.set_cons_succ]
                    refine wpAnyH_take (i := 22) (v := ?_) rfl (by kernel_rfl) (by kernel_rfl) (by kernel_rfl) (fun _ _ _ h => h) (Or.inl ⟨by rfl, ?_⟩) hHeld ?_
                    rotate_left
                    · (intro w hSw; go_simp <;> with_reducible rfl)
                    change wpAnyH _ _ _ _ _ _ _ (Act.put _ (some 62) _) _
                    try simp only [Act.put, List.setIfInBounds_toArray, List.set_cons_zero, List.set_cons_succ]
                    refine wpAnyH_take (i := 23) (v := ?_) rfl (by kernel_rfl) (by kernel_rfl) (by kernel_rfl) (fun _ _ _ h => h) (Or.inl ⟨by rfl, ?_⟩) hHeld ?_
                    rotate_left
                    · (intro w hSw; go_simp <;> with_reducible rfl)
                    change wpAnyH _ _ _ _ _ _ _ (Act.put _ (some 63) _) _
                    try simp only [Act.put, List.setIfInBounds_toArray, List.set_cons_zero, List.set_cons_succ]
                    refine wpAnyH_take (i := 25) (v := ?_) rfl (by kernel_rfl) (by kernel_rfl) (by kernel_rfl) (fun _ _ _ h => h) (Or.inl ⟨by rfl, ?_⟩) hHeld ?_
                    rotate_left
                    · (intro w hSw; go_simp <;> with_reducible rfl)
                    change wpAnyH _ _ _ _ _ _ _ (Act.put _ (some 65) _) _
                    try simp only [Act.put, List.setIfInBounds_toArray, List.set_cons_zero, List.set_cons_succ]
                    refine wpAnyH_ready (rs := [24]) (by kernel_rfl) (by simp) ?_
                    refine AllReadyH.cons rfl (fun K hK => ?_) ?_
                    · go_simp
                      refine hK.out _ _ (below_al hHeld (Nat.le_refl _) _) (fun hHeld => ?_)
                      clear hK K
                      try simp only [Act.put, List.setIfInBounds_toArray, List.set_cons_zero, List.set_cons_succ]
                      have c27 : (wq.alloc (.cells #[.int .i64 0, .int .i64 24, .int .i64 60] 3)).cell? ⟨wq.heap.size, k, none⟩ = some (.int .i64 60) := by rw [HK.out]; simp
                      refine wpAnyH_take (i := 26) (v := ?_) rfl (by kernel_rfl) (by kernel_rfl) (by kernel_rfl) (fun _ _ _ h => h) (Or.inl ⟨by rfl, ?_⟩) hHeld ?_
                      rotate_left
                      · (intro w hSw; go_simp <;> with_reducible rfl)
                      change wpAnyH _ _ _ _ _ _ _ (Act.put _ (some 66) _) _
                      try simp only [Act.put, List.setIfInBounds_toArray, List.set_cons_zero, List.set_cons_succ]
                      refine wpAnyH_ready (rs := [27]) (by kernel_rfl) (by simp) ?_
                      refine AllReadyH.cons rfl (fun K hK => ?_) ?_
                      · go_simp
                        refine hK.out _ _ (hHeld) (fun hHeld => ?_)
                        clear hK K
                        try simp only [Act.put, List.setIfInBounds_toArray, List.set_cons_zero, List.set_cons_succ]
                        refine wpAnyH_take (i := 28) (v := ?_) rfl (by kernel_rfl) (by kernel_rfl) (by kernel_rfl) (fun _ _ _ h => h) (Or.inl ⟨by rfl, ?_⟩) hHeld ?_
                        rotate_left
                        · (intro w hSw; go_simp <;> with_reducible rfl)
                        change wpAnyH _ _ _ _ _ _ _ (Act.put _ (some 68) _) _
                        try simp only [Act.put, List.setIfInBounds_toArray, List.set_cons_zero, List.set_cons_succ]
                        refine wpAnyH_take (i := 29) (v := ?_) rfl (by kernel_rfl) (by kernel_rfl) (by kernel_rfl) (fun _ _ _ h => h) (Or.inl ⟨by rfl, ?_⟩) hHeld ?_
                        rotate_left
                        · (intro w hSw; go_simp <;> with_reducible rfl)
                        change wpAnyH _ _ _ _ _ _ _ (Act.put _ (some 69) _) _
                        try simp only [Act.put, List.setIfInBounds_toArray, List.set_cons_zero, List.set_cons_succ]
                        refine wpAnyH_take (i := 30) (v := ?_) rfl (by kernel_rfl) (by kernel_rfl) (by kernel_rfl) (fun _ _ _ h => h) (Or.inl ⟨by rfl, ?_⟩) hHeld ?_
                        rotate_left
                        · (intro w hSw; go_simp <;> with_reducible rfl)
                        change wpAnyH _ _ _ _ _ _ _ (Act.put _ (some 70) _) _
                        try simp only [Act.put, List.setIfInBounds_toArray, List.set_cons_zero, List.set_cons_succ]
                        refine wpAnyH_take (i := 31) (v := ?_) rfl (by kernel_rfl) (by kernel_rfl) (by kernel_rfl) (fun _ _ _ h => h) (Or.inl ⟨by rfl, ?_⟩) hHeld ?_
                        rotate_left
                        · (intro w hSw; go_simp <;> with_reducible rfl)
                        change wpAnyH _ _ _ _ _ _ _ (Act.put _ (some 71) _) _
                        try simp only [Act.put, List.setIfInBounds_toArray, List.set_cons_zero, List.set_cons_succ]
                        refine wpAnyH_take (i := 32) (v := ?_) rfl (by kernel_rfl) (by kernel_rfl) (by kernel_rfl) (fun _ _ _ h => h) (Or.inl ⟨by rfl, ?_⟩) hHeld ?_
                        rotate_left
                        · (intro w hSw; go_simp <;> with_reducible rfl)
                        change wpAnyH _ _ _ _ _ _ _ (Act.put _ (some 72) _) _
                        try simp only [Act.put, List.setIfInBounds_toArray, List.set_cons_zero, List.set_cons_succ]
                        refine wpAnyH_take (i := 33) (v := ?_) rfl (by kernel_rfl) (by kernel_rfl) (by kernel_rfl) (fun _ _ _ h => h) (Or.inl ⟨by rfl, ?_⟩) hHeld ?_
                        rotate_left
                        · (intro w hSw; go_simp <;> with_reducible rfl)
                        change wpAnyH _ _ _ _ _ _ _ (Act.put _ (some 73) _) _
                        try simp only [Act.put, List.setIfInBounds_toArray, List.set_cons_zero, List.set_cons_succ]
                        refine wpAnyH_take (i := 34) (v := ?_) rfl (by kernel_rfl) (by kernel_rfl) (by kernel_rfl) (fun _ _ _ h => h) (Or.inl ⟨by rfl, ?_⟩) hHeld ?_
                        rotate_left
                        · (intro w hSw; go_simp <;> with_reducible rfl)
                        change wpAnyH _ _ _ _ _ _ _ (Act.put _ (some 74) _) _
                        try simp only [Act.put, List.setIfInBounds_toArray, List.set_cons_zero, List.set_cons_succ]
                        refine wpAnyH_take (i := 35) (v := ?_) rfl (by kernel_rfl) (by kernel_rfl) (by kernel_rfl) (fun _ _ _ h => h) (Or.inl ⟨by rfl, ?_⟩) hHeld ?_
                        rotate_left
                        · (intro w hSw; go_simp <;> with_reducible rfl)
                        change wpAnyH _ _ _ _ _ _ _ (Act.put _ (some 75) _) _
                        try simp only [Act.put, List.setIfInBounds_toArray, List.set_cons_zero, List.set_cons_succ]
                        refine wpAnyH_take (i := 36) (v := ?_) rfl (by kernel_rfl) (by kernel_rfl) (by kernel_rfl) (fun _ _ _ h => h) (Or.inl ⟨by rfl, ?_⟩) hHeld ?_
                        rotate_left
                        · (intro w hSw; go_simp <;> with_reducible rfl)
                        change wpAnyH _ _ _ _ _ _ _ (Act.put _ (some 76) _) _
                        try simp only [Act.put, List.setIfInBounds_toArray, List.set_cons_zero, List.set_cons_succ]
                        refine wpAnyH_take (i := 37) (v := ?_) rfl (by kernel_rfl) (by kernel_rfl) (by kernel_rfl) (fun _ _ _ h => h) (Or.inl ⟨by rfl, ?_⟩) hHeld ?_
                        rotate_left
                        · (intro w hSw; go_simp <;> with_reducible rfl)
                        change wpAnyH _ _ _ _ _ _ _ (Act.put _ (some 77) _) _
                        try simp only [Act.put, List.setIfInBounds_toArray, List.set_cons_zero, List.set_cons_succ]
                        refine wpAnyH_take (i := 38) (v := ?_) rfl (by kernel_rfl) (by kernel_rfl) (by kernel_rfl) (fun _ _ _ h => h) (Or.inl ⟨by rfl, ?_⟩) hHeld ?_
                        rotate_left
                        · (intro w hSw; go_simp <;> with_reducible rfl)
                        change wpAnyH _ _ _ _ _ _ _ (Act.put _ (some 78) _) _
                        try simp only [Act.put, List.setIfInBounds_toArray, List.set_cons_zero, List.set_cons_succ]
                        refine wpAnyH_done (by kernel_rfl) ?_ _
                        (try dsimp only [Act.put])
                        try simp only [Act.put, List.setIfInBounds_toArray, List.set_cons_zero, List.set_cons_succ]
                        clear f1 f2 f2b f4 f7 f7b i3 i3b hneg hkn hi nb1 nb2 k0
                        go_wp2
                        go_meet
                        exact ⟨by rw [EB.out], hHeld⟩
                      exact AllReadyH.nil
                    exact AllReadyH.nil
                  exact AllReadyH.nil
              · have u1 : T.toList = [48, 109] := TZ.out.2 hz
                have u2 : (T.toList == [48, 109]) = true := by rw [u1]; rfl
                obtain ⟨-, hk2, -⟩ := ZF.out hz
                have HLM := Lib.hid (show limN k = 60 by rw [limN, if_neg (by omega)])
                have f7 : decide ((0 : Int) < (k : Int)) = true := decide_eq_true (by omega)
                have f7b : decide (0 < k) = true := decide_eq_true (by omega)
                have i3 : (k : Int) < 3 := by omega
                have i3b : k < 3 := by omega
                have EB := Lib.hid (show bad = false by rw [BD.out]; exact decide_eq_false (fun hx => by rcases hx with h | h | h | ⟨h, h'⟩ | ⟨h, h'⟩; exact h hi; exact hneg h; exact hkn h; exact (by rw [HLM.out] at h'; have := HN0.out; omega); exact (by rw [hz] at h'; cases h')))
                have HK := Lib.hid hk2; clear hk2
                refine wp_region_held_drew (S := (fun w' => Below w3.heap.size w3 w')) (by kernel_rfl) (Below.refl _ _).drew (fun hHeld => ?_)
                refine wpAnyH_take (i := 0) (v := ?_) rfl (by kernel_rfl) (by kernel_rfl) (by kernel_rfl) (fun _ _ _ h => h) (Or.inl ⟨by rfl, ?_⟩) hHeld ?_
                rotate_left
                · (intro w hSw; go_simp <;> with_reducible rfl)
                change wpAnyH _ _ _ _ _ _ _ (Act.put _ (some 40) _) _
                try simp only [Act.put, List.setIfInBounds_toArray, List.set_cons_zero, List.set_cons_succ]
                refine wpAnyH_take (i := 1) (v := ?_) rfl (by kernel_rfl) (by kernel_rfl) (by kernel_rfl) (fun _ _ _ h => h) (Or.inl ⟨by rfl, ?_⟩) hHeld ?_
                rotate_left
                · (intro w hSw; go_simp <;> with_reducible rfl)
                change wpAnyH _ _ _ _ _ _ _ (Act.put _ (some 41) _) _
                try simp only [Act.put, List.setIfInBounds_toArray, List.set_cons_zero, List.set_cons_succ]
                refine wpAnyH_take (i := 2) (v := ?_) rfl (by kernel_rfl) (by kernel_rfl) (by kernel_rfl) (fun _ _ _ h => h) (Or.inl ⟨by rfl, ?_⟩) hHeld ?_
                rotate_left
                · (intro w hSw; go_simp <;> with_reducible rfl)
                change wpAnyH _ _ _ _ _ _ _ (Act.put _ (some 42) _) _
                try simp only [Act.put, List.setIfInBounds_toArray, List.set_cons_zero, List.set_cons_succ]
                refine wpAnyH_take (i := 3) (v := ?_) rfl (by kernel_rfl) (by kernel_rfl) (by kernel_rfl) (fun _ _ _ h => h) (Or.inl ⟨by rfl, ?_⟩) hHeld ?_
                rotate_left
                · (intro w hSw; go_simp <;> with_reducible rfl)
                change wpAnyH _ _ _ _ _ _ _ (Act.put _ (some 43) _) _
                try simp only [Act.put, List.setIfInBounds_toArray, List.set_cons_zero, List.set_cons_succ]
                refine wpAnyH_take (i := 5) (v := ?_) rfl (by kernel_rfl) (by kernel_rfl) (by kernel_rfl) (fun _ _ _ h => h) (Or.inl ⟨by rfl, ?_⟩) hHeld ?_
                rotate_left
                · (intro w hSw; go_simp <;> with_reducible rfl)
                change wpAnyH _ _ _ _ _ _ _ (Act.put _ (some 45) _) _
                try simp only [Act.put, List.setIfInBounds_toArray, List.set_cons_zero, List.set_cons_succ]
                refine wpAnyH_take (i := 6) (v := ?_) rfl (by kernel_rfl) (by kernel_rfl) (by kernel_rfl) (fun _ _ _ h => h) (Or.inl ⟨by rfl, ?_⟩) hHeld ?_
                rotate_left
                · (intro w hSw; go_simp <;> with_reducible rfl)
                change wpAnyH _ _ _ _ _ _ _ (Act.put _ (some 46) _) _
                try simp only [Act.put, List.setIfInBounds_toArray, List.set_cons_zero, List.set_cons_succ]
                refine wpAnyH_take (i := 7) (v := ?_) rfl (by kernel_rfl) (by kernel_rfl) (by kernel_rfl) (fun _ _ _ h => h) (Or.inl ⟨by rfl, ?_⟩) hHeld ?_
                rotate_left
                · (intro w hSw; go_simp <;> with_reducible rfl)
                change wpAnyH _ _ _ _ _ _ _ (Act.put _ (some 47) _) _
                try simp only [Act.put, List.setIfInBounds_toArray, List.set_cons_zero, List.set_cons_succ]
                refine wpAnyH_ready (rs := [4]) (by kernel_rfl) (by simp) ?_
                refine AllReadyH.cons rfl (fun K hK => ?_) ?_
                · go_simp; go_at_call 37; (with_reducible refine (IT.out _ hHeld).mono ?_); rintro e wq ⟨rfl, hbq⟩; (try go_wp2_with fail)
                  refine hK.out _ _ (below_nx hHeld hbq) (fun hHeld => ?_)
                  clear hK K
                  try simp only [Act.put, List.setIfInBounds_toArray, List.set_cons_zero, List.set_cons_succ]
                  clear hbq
                  refine wpAnyH_take (i := 8) (v := ?_) rfl (by kernel_rfl) (by kernel_rfl) (by kernel_rfl) (fun _ _ _ h => h) (Or.inl ⟨by rfl, ?_⟩) hHeld ?_
                  rotate_left
                  · (intro w hSw; go_simp <;> with_reducible rfl)
                  change wpAnyH _ _ _ _ _ _ _ (Act.put _ (some 48) _) _
                  try simp only [Act.put, List.setIfInBounds_toArray, List.set_cons_zero, List.set_cons_succ]
                  refine wpAnyH_take (i := 9) (v := ?_) rfl (by kernel_rfl) (by kernel_rfl) (by kernel_rfl) (fun _ _ _ h => h) (Or.inl ⟨by rfl, ?_⟩) hHeld ?_
                  rotate_left
                  · (intro w hSw; go_simp <;> with_reducible rfl)
                  change wpAnyH _ _ _ _ _ _ _ (Act.put _ (some 49) _) _
                  try simp only [Act.put, List.setIfInBounds_toArray, List.set_cons_zero, List.set_cons_succ]
                  refine wpAnyH_take (i := 10) (v := ?_) rfl (by kernel_rfl) (by kernel_rfl) (by kernel_rfl) (fun _ _ _ h => h) (Or.inl ⟨by rfl, ?_⟩) hHeld ?_
                  rotate_left
                  · (intro w hSw; go_simp <;> with_reducible rfl)
                  change wpAnyH _ _ _ _ _ _ _ (Act.put _ (some 50) _) _
                  try simp only [Act.put, List.setIfInBounds_toArray, List.set_cons_zero, List.set_cons_succ]
                  refine wpAnyH_take (i := 11) (v := ?_) rfl (by kernel_rfl) (by kernel_rfl) (by kernel_rfl) (fun _ _ _ h => h) (Or.inl ⟨by rfl, ?_⟩) hHeld ?_
                  rotate_left
                  · (intro w hSw; go_simp <;> with_reducible rfl)
                  change wpAnyH _ _ _ _ _ _ _ (Act.put _ (some 51) _) _
                  try simp only [Act.put, List.setIfInBounds_toArray, List.set_cons_zero, List.set_cons_succ]
                  refine wpAnyH_take (i := 12) (v := ?_) rfl (by kernel_rfl) (by kernel_rfl) (by kernel_rfl) (fun _ _ _ h => h) (Or.inl ⟨by rfl, ?_⟩) hHeld ?_
                  rotate_left
                  · (intro w hSw; go_simp <;> with_reducible rfl)
                  change wpAnyH _ _ _ _ _ _ _ (Act.put _ (some 52) _) _
                  try simp only [Act.put, List.setIfInBounds_toArray, List.set_cons_zero, List.set_cons_succ]
                  refine wpAnyH_take (i := 13) (v := ?_) rfl (by kernel_rfl) (by kernel_rfl) (by kernel_rfl) (fun _ _ _ h => h) (Or.inl ⟨by rfl, ?_⟩) hHeld ?_
                  rotate_left
                  · (intro w hSw; go_simp <;> with_reducible rfl)
                  change wpAnyH _ _ _ _ _ _ _ (Act.put _ (some 53) _) _
                  try simp only [Act.put, List.setIfInBounds_toArray, List.set_cons_zero, List.set_cons_succ]
                  refine wpAnyH_take (i := 14) (v := ?_) rfl (by kernel_rfl) (by kernel_rfl) (by kernel_rfl) (fun _ _ _ h => h) (Or.inl ⟨by rfl, ?_⟩) hHeld ?_
                  rotate_left
                  · (intro w hSw; go_simp <;> with_reducible rfl)
                  change wpAnyH _ _ _ _ _ _ _ (Act.put _ (some 54) _) _
                  try simp only [Act.put, List.setIfInBounds_toArray, List.set_cons_zero, List.set_cons_succ]
                  refine wpAnyH_take (i := 15) (v := ?_) rfl (by kernel_rfl) (by kernel_rfl) (by kernel_rfl) (fun _ _ _ h => h) (Or.inl ⟨by rfl, ?_⟩) hHeld ?_
                  rotate_left
                  · (intro w hSw; go_simp <;> with_reducible rfl)
                  change wpAnyH _ _ _ _ _ _ _ (Act.put _ (some 55) _) _
                  try simp only [Act.put, List.setIfInBounds_toArray, List.set_cons_zero, List.set_cons_succ]
                  refine wpAnyH_take (i := 16) (v := ?_) rfl (by kernel_rfl) (by kernel_rfl) (by kernel_rfl) (fun _ _ _ h => h) (Or.inl ⟨by rfl, ?_⟩) hHeld ?_
                  rotate_left
                  · (intro w hSw; go_simp <;> with_reducible rfl)
                  change wpAnyH _ _ _ _ _ _ _ (Act.put _ (some 56) _) _
                  try simp only [Act.put, List.setIfInBounds_toArray, List.set_cons_zero, List.set_cons_succ]
                  refine wpAnyH_take (i := 17) (v := ?_) rfl (by kernel_rfl) (by kernel_rfl) (by kernel_rfl) (fun _ _ _ h => h) (Or.inl ⟨by rfl, ?_⟩) hHeld ?_
                  rotate_left
                  · (intro w hSw; go_simp <;> with_reducible rfl)
                  change wpAnyH _ _ _ _ _ _ _ (Act.put _ (some 57) _) _
                  try simp only [Act.put, List.setIfInBounds_toArray, List.set_cons_zero, List.set_cons_succ]
                  refine wpAnyH_take (i := 18) (v := ?_) rfl (by kernel_rfl) (by kernel_rfl) (by kernel_rfl) (fun _ _ _ h => h) (Or.inl ⟨by rfl, ?_⟩) hHeld ?_
                  rotate_left
                  · (intro w hSw; go_simp <;> with_reducible rfl)
                  change wpAnyH _ _ _ _ _ _ _ (Act.put _ (some 58) _) _
                  try simp only [Act.put, List.setIfInBounds_toArray, List.set_cons_zero, List.set_cons_succ]
                  refine wpAnyH_take (i := 19) (v := ?_) rfl (by kernel_rfl) (by kernel_rfl) (by kernel_rfl) (fun _ _ _ h => h) (Or.inl ⟨by rfl, ?_⟩) hHeld ?_
                  rotate_left
                  · (intro w hSw; go_simp <;> with_reducible rfl)
                  change wpAnyH _ _ _ _ _ _ _ (Act.put _ (some 59) _) _
                  try simp only [Act.put, List.setIfInBounds_toArray, List.set_cons_zero, List.set_cons_succ]
                  refine wpAnyH_take (i := 20) (v := ?_) rfl (by kernel_rfl) (by kernel_rfl) (by kernel_rfl) (fun _ _ _ h => h) (Or.inl ⟨by rfl, ?_⟩) hHeld ?_
                  rotate_left
                  · (intro w hSw; go_simp <;> with_reducible rfl)
                  change wpAnyH _ _ _ _ _ _ _ (Act.put _ (some 60) _) _
                  try simp only [Act.put, List.setIfInBounds_toArray, List.set_cons_zero, List.set_cons_succ]
                  refine wpAnyH_take (i := 21) (v := ?_) rfl (by kernel_rfl) (by kernel_rfl) (by kernel_rfl) (fun _ _ _ h => h) (Or.inl ⟨by rfl, ?_⟩) hHeld ?_
                  rotate_left
                  · (intro w hSw; go_simp <;> with_reducible rfl)
                  change wpAnyH _ _ _ _ _ _ _ (Act.put _ (some 61) _) _
                  try simp only [Act.put, List.setIfInBounds_toArray, List.set_cons_zero, List.set_cons_succ]
                  refine wpAnyH_take (i := 22) (v := ?_) rfl (by kernel_rfl) (by kernel_rfl) (by kernel_rfl) (fun _ _ _ h => h) (Or.inl ⟨by rfl, ?_⟩) hHeld ?_
                  rotate_left
                  · (intro w hSw; go_simp <;> with_reducible rfl)
                  change wpAnyH _ _ _ _ _ _ _ (Act.put _ (some 62) _) _
                  try simp only [Act.put, List.setIfInBounds_toArray, List.set_cons_zero, List.set_cons_succ]
                  refine wpAnyH_take (i := 23) (v := ?_) rfl (by kernel_rfl) (by kernel_rfl) (by kernel_rfl) (fun _ _ _ h => h) (Or.inl ⟨by rfl, ?_⟩) hHeld ?_
                  rotate_left
                  · (intro w hSw; go_simp <;> with_reducible rfl)
                  change wpAnyH _ _ _ _ _ _ _ (Act.put _ (some 63) _) _
                  try simp only [Act.put, List.setIfInBounds_toArray, List.set_cons_zero, List.set_cons_succ]
                  refine wpAnyH_take (i := 25) (v := ?_) rfl (by kernel_rfl) (by kernel_rfl) (by kernel_rfl) (fun _ _ _ h => h) (Or.inl ⟨by rfl, ?_⟩) hHeld ?_
                  rotate_left
                  · (intro w hSw; go_simp <;> with_reducible rfl)
                  change wpAnyH _ _ _ _ _ _ _ (Act.put _ (some 65) _) _
                  try simp only [Act.put, List.setIfInBounds_toArray, List.set_cons_zero, List.set_cons_succ]
                  refine wpAnyH_ready (rs := [24]) (by kernel_rfl) (by simp) ?_
                  refine AllReadyH.cons rfl (fun K hK => ?_) ?_
                  · go_simp
                    refine hK.out _ _ (below_al hHeld (Nat.le_refl _) _) (fun hHeld => ?_)
                    clear hK K
                    try simp only [Act.put, List.setIfInBounds_toArray, List.set_cons_zero, List.set_cons_succ]
                    have c27 : (wq.alloc (.cells #[.int .i64 0, .int .i64 24, .int .i64 60] 3)).cell? ⟨wq.heap.size, k, none⟩ = some (.int .i64 60) := by rw [HK.out]; simp
                    refine wpAnyH_take (i := 26) (v := ?_) rfl (by kernel_rfl) (by kernel_rfl) (by kernel_rfl) (fun _ _ _ h => h) (Or.inl ⟨by rfl, ?_⟩) hHeld ?_
                    rotate_left
                    · (intro w hSw; go_simp <;> with_reducible rfl)
                    change wpAnyH _ _ _ _ _ _ _ (Act.put _ (some 66) _) _
                    try simp only [Act.put, List.setIfInBounds_toArray, List.set_cons_zero, List.set_cons_succ]
                    refine wpAnyH_ready (rs := [27]) (by kernel_rfl) (by simp) ?_
                    refine AllReadyH.cons rfl (fun K hK => ?_) ?_
                    · go_simp
                      refine hK.out _ _ (hHeld) (fun hHeld => ?_)
                      clear hK K
                      try simp only [Act.put, List.setIfInBounds_toArray, List.set_cons_zero, List.set_cons_succ]
                      refine wpAnyH_take (i := 28) (v := ?_) rfl (by kernel_rfl) (by kernel_rfl) (by kernel_rfl) (fun _ _ _ h => h) (Or.inl ⟨by rfl, ?_⟩) hHeld ?_
                      rotate_left
                      · (intro w hSw; go_simp <;> with_reducible rfl)
                      change wpAnyH _ _ _ _ _ _ _ (Act.put _ (some 68) _) _
                      try simp only [Act.put, List.setIfInBounds_toArray, List.set_cons_zero, List.set_cons_succ]
                      refine wpAnyH_take (i := 29) (v := ?_) rfl (by kernel_rfl) (by kernel_rfl) (by kernel_rfl) (fun _ _ _ h => h) (Or.inl ⟨by rfl, ?_⟩) hHeld ?_
                      rotate_left
                      · (intro w hSw; go_simp <;> with_reducible rfl)
                      change wpAnyH _ _ _ _ _ _ _ (Act.put _ (some 69) _) _
                      try simp only [Act.put, List.setIfInBounds_toArray, List.set_cons_zero, List.set_cons_succ]
                      refine wpAnyH_take (i := 30) (v := ?_) rfl (by kernel_rfl) (by kernel_rfl) (by kernel_rfl) (fun _ _ _ h => h) (Or.inl ⟨by rfl, ?_⟩) hHeld ?_
                      rotate_left
                      · (intro w hSw; go_simp <;> with_reducible rfl)
                      change wpAnyH _ _ _ _ _ _ _ (Act.put _ (some 70) _) _
                      try simp only [Act.put, List.setIfInBounds_toArray, List.set_cons_zero, List.set_cons_succ]
                      refine wpAnyH_take (i := 31) (v := ?_) rfl (by kernel_rfl) (by kernel_rfl) (by kernel_rfl) (fun _ _ _ h => h) (Or.inl ⟨by rfl, ?_⟩) hHeld ?_
                      rotate_left
                      · (intro w hSw; go_simp <;> with_reducible rfl)
                      change wpAnyH _ _ _ _ _ _ _ (Act.put _ (some 71) _) _
                      try simp only [Act.put, List.setIfInBounds_toArray, List.set_cons_zero, List.set_cons_succ]
                      refine wpAnyH_take (i := 32) (v := ?_) rfl (by kernel_rfl) (by kernel_rfl) (by kernel_rfl) (fun _ _ _ h => h) (Or.inl ⟨by rfl, ?_⟩) hHeld ?_
                      rotate_left
                      · (intro w hSw; go_simp <;> with_reducible rfl)
                      change wpAnyH _ _ _ _ _ _ _ (Act.put _ (some 72) _) _
                      try simp only [Act.put, List.setIfInBounds_toArray, List.set_cons_zero, List.set_cons_succ]
                      refine wpAnyH_take (i := 33) (v := ?_) rfl (by kernel_rfl) (by kernel_rfl) (by kernel_rfl) (fun _ _ _ h => h) (Or.inl ⟨by rfl, ?_⟩) hHeld ?_
                      rotate_left
                      · (intro w hSw; go_simp <;> with_reducible rfl)
                      change wpAnyH _ _ _ _ _ _ _ (Act.put _ (some 73) _) _
                      try simp only [Act.put, List.setIfInBounds_toArray, List.set_cons_zero, List.set_cons_succ]
                      refine wpAnyH_take (i := 34) (v := ?_) rfl (by kernel_rfl) (by kernel_rfl) (by kernel_rfl) (fun _ _ _ h => h) (Or.inl ⟨by rfl, ?_⟩) hHeld ?_
                      rotate_left
                      · (intro w hSw; go_simp <;> with_reducible rfl)
                      change wpAnyH _ _ _ _ _ _ _ (Act.put _ (some 74) _) _
                      try simp only [Act.put, List.setIfInBounds_toArray, List.set_cons_zero, List.set_cons_succ]
                      refine wpAnyH_take (i := 35) (v := ?_) rfl (by kernel_rfl) (by kernel_rfl) (by kernel_rfl) (fun _ _ _ h => h) (Or.inl ⟨by rfl, ?_⟩) hHeld ?_
                      rotate_left
                      · (intro w hSw; go_simp <;> with_reducible rfl)
                      change wpAnyH _ _ _ _ _ _ _ (Act.put _ (some 75) _) _
                      try simp only [Act.put, List.setIfInBounds_toArray, List.set_cons_zero, List.set_cons_succ]
                      refine wpAnyH_take (i := 36) (v := ?_) rfl (by kernel_rfl) (by kernel_rfl) (by kernel_rfl) (fun _ _ _ h => h) (Or.inl ⟨by rfl, ?_⟩) hHeld ?_
                      rotate_left
                      · (intro w hSw; go_simp <;> with_reducible rfl)
                      change wpAnyH _ _ _ _ _ _ _ (Act.put _ (some 76) _) _
                      try simp only [Act.put, List.setIfInBounds_toArray, List.set_cons_zero, List.set_cons_succ]
                      refine wpAnyH_take (i := 37) (v := ?_) rfl (by kernel_rfl) (by kernel_rfl) (by kernel_rfl) (fun _ _ _ h => h) (Or.inl ⟨by rfl, ?_⟩) hHeld ?_
                      rotate_left
                      · (intro w hSw; go_simp <;> with_reducible rfl)
                      change wpAnyH _ _ _ _ _ _ _ (Act.put _ (some 77) _) _
                      try simp only [Act.put, List.setIfInBounds_toArray, List.set_cons_zero, List.set_cons_succ]
                      refine wpAnyH_take (i := 38) (v := ?_) rfl (by kernel_rfl) (by kernel_rfl) (by kernel_rfl) (fun _ _ _ h => h) (Or.inl ⟨by rfl, ?_⟩) hHeld ?_
                      rotate_left
                      · (intro w hSw; go_simp <;> with_reducible rfl)
                      change wpAnyH _ _ _ _ _ _ _ (Act.put _ (some 78) _) _
                      try simp only [Act.put, List.setIfInBounds_toArray, List.set_cons_zero, List.set_cons_succ]
                      refine wpAnyH_done (by kernel_rfl) ?_ _
                      (try dsimp only [Act.put])
                      try simp only [Act.put, List.setIfInBounds_toArray, List.set_cons_zero, List.set_cons_succ]
                      clear f1 f2 f2b f4 f7 f7b i3 i3b hneg hkn hi nb1 nb2 k0
                      go_wp2
                      go_meet
                      exact ⟨by rw [EB.out], hHeld⟩
                    exact AllReadyH.nil
                  exact AllReadyH.nil
                exact AllReadyH.nil
            · have f4 : (n == 0) = false := by rw [beq_eq_false_iff_ne]; exact hn0
              rcases hk3 with rfl | hk1 | hk2
              · have EB := Lib.hid (show bad = false by rw [BD.out]; exact decide_eq_false (fun hx => by rcases hx with h | h | h | ⟨h, h'⟩ | ⟨h, h'⟩; exact h hi; exact hneg h; exact hkn h; exact (by omega); exact hn0 h))
                have cI := fun dd os => Calls.regrown_of (IT.out (Go.Sort.grow (redrawn w3 dd) os) (below_regrown w3 dd os))
                refine wp_region_quiet_below (by kernel_rfl) (by kernel_rfl) ?_
                repeat (go_big_quiet_step (with_reducible exact cI _ _))
                refine wpQuiet_nil ?_
                intro _ hw'
                obtain ⟨⟨dq, osq⟩, hw''⟩ := hw'
                have hb4 := below_regrown w3 dq osq
                simp only [] at hw''
                rw [← hw''] at hb4
                clear hw'' cI
                go_wp2
                go_meet
                exact ⟨by rw [EB.out], hb4⟩
              · by_cases hl : 24 ≤ n
                · have HLM := Lib.hid (show limN k = 24 by rw [limN, if_pos hk1])
                  have f7 : decide ((0 : Int) < (k : Int)) = true := decide_eq_true (by omega)
                  have f7b : decide (0 < k) = true := decide_eq_true (by omega)
                  have i3 : (k : Int) < 3 := by omega
                  have i3b : k < 3 := by omega
                  have f5 : decide ((24 : Int) ≤ n) = true := decide_eq_true hl
                  have EB := Lib.hid (show bad = true by rw [BD.out]; exact decide_eq_true (.inr (.inr (.inr (.inl ⟨by omega, by rw [HLM.out]; exact hl⟩)))))
                  have HK := Lib.hid hk1; clear hk1
                  clear hn0 hl
                  refine wp_region_held_drew (S := (fun w' => Below w3.heap.size w3 w')) (by kernel_rfl) (Below.refl _ _).drew (fun hHeld => ?_)
                  refine wpAnyH_take (i := 0) (v := ?_) rfl (by kernel_rfl) (by kernel_rfl) (by kernel_rfl) (fun _ _ _ h => h) (Or.inl ⟨by rfl, ?_⟩) hHeld ?_
                  rotate_left
                  · (intro w hSw; go_simp <;> with_reducible rfl)
                  change wpAnyH _ _ _ _ _ _ _ (Act.put _ (some 40) _) _
                  try simp only [Act.put, List.setIfInBounds_toArray, List.set_cons_zero, List.set_cons_succ]
                  refine wpAnyH_take (i := 1) (v := ?_) rfl (by kernel_rfl) (by kernel_rfl) (by kernel_rfl) (fun _ _ _ h => h) (Or.inl ⟨by rfl, ?_⟩) hHeld ?_
                  rotate_left
                  · (intro w hSw; go_simp <;> with_reducible rfl)
                  change wpAnyH _ _ _ _ _ _ _ (Act.put _ (some 41) _) _
                  try simp only [Act.put, List.setIfInBounds_toArray, List.set_cons_zero, List.set_cons_succ]
                  refine wpAnyH_take (i := 2) (v := ?_) rfl (by kernel_rfl) (by kernel_rfl) (by kernel_rfl) (fun _ _ _ h => h) (Or.inl ⟨by rfl, ?_⟩) hHeld ?_
                  rotate_left
                  · (intro w hSw; go_simp <;> with_reducible rfl)
                  change wpAnyH _ _ _ _ _ _ _ (Act.put _ (some 42) _) _
                  try simp only [Act.put, List.setIfInBounds_toArray, List.set_cons_zero, List.set_cons_succ]
                  refine wpAnyH_take (i := 3) (v := ?_) rfl (by kernel_rfl) (by kernel_rfl) (by kernel_rfl) (fun _ _ _ h => h) (Or.inl ⟨by rfl, ?_⟩) hHeld ?_
                  rotate_left
                  · (intro w hSw; go_simp <;> with_reducible rfl)
                  change wpAnyH _ _ _ _ _ _ _ (Act.put _ (some 43) _) _
                  try simp only [Act.put, List.setIfInBounds_toArray, List.set_cons_zero, List.set_cons_succ]
                  refine wpAnyH_take (i := 5) (v := ?_) rfl (by kernel_rfl) (by kernel_rfl) (by kernel_rfl) (fun _ _ _ h => h) (Or.inl ⟨by rfl, ?_⟩) hHeld ?_
                  rotate_left
                  · (intro w hSw; go_simp <;> with_reducible rfl)
                  change wpAnyH _ _ _ _ _ _ _ (Act.put _ (some 45) _) _
                  try simp only [Act.put, List.setIfInBounds_toArray, List.set_cons_zero, List.set_cons_succ]
                  refine wpAnyH_take (i := 6) (v := ?_) rfl (by kernel_rfl) (by kernel_rfl) (by kernel_rfl) (fun _ _ _ h => h) (Or.inl ⟨by rfl, ?_⟩) hHeld ?_
                  rotate_left
                  · (intro w hSw; go_simp <;> with_reducible rfl)
                  change wpAnyH _ _ _ _ _ _ _ (Act.put _ (some 46) _) _
                  try simp only [Act.put, List.setIfInBounds_toArray, List.set_cons_zero, List.set_cons_succ]
                  refine wpAnyH_take (i := 7) (v := ?_) rfl (by kernel_rfl) (by kernel_rfl) (by kernel_rfl) (fun _ _ _ h => h) (Or.inl ⟨by rfl, ?_⟩) hHeld ?_
                  rotate_left
                  · (intro w hSw; go_simp <;> with_reducible rfl)
                  change wpAnyH _ _ _ _ _ _ _ (Act.put _ (some 47) _) _
                  try simp only [Act.put, List.setIfInBounds_toArray, List.set_cons_zero, List.set_cons_succ]
                  refine wpAnyH_ready (rs := [4]) (by kernel_rfl) (by simp) ?_
                  refine AllReadyH.cons rfl (fun K hK => ?_) ?_
                  · go_simp; go_at_call 37; (with_reducible refine (IT.out _ hHeld).mono ?_); rintro e wq ⟨rfl, hbq⟩; (try go_wp2_with fail)
                    refine hK.out _ _ (below_nx hHeld hbq) (fun hHeld => ?_)
                    clear hK K
                    try simp only [Act.put, List.setIfInBounds_toArray, List.set_cons_zero, List.set_cons_succ]
                    clear hbq
                    refine wpAnyH_take (i := 8) (v := ?_) rfl (by kernel_rfl) (by kernel_rfl) (by kernel_rfl) (fun _ _ _ h => h) (Or.inl ⟨by rfl, ?_⟩) hHeld ?_
                    rotate_left
                    · (intro w hSw; go_simp <;> with_reducible rfl)
                    change wpAnyH _ _ _ _ _ _ _ (Act.put _ (some 48) _) _
                    try simp only [Act.put, List.setIfInBounds_toArray, List.set_cons_zero, List.set_cons_succ]
                    refine wpAnyH_take (i := 9) (v := ?_) rfl (by kernel_rfl) (by kernel_rfl) (by kernel_rfl) (fun _ _ _ h => h) (Or.inl ⟨by rfl, ?_⟩) hHeld ?_
                    rotate_left
                    · (intro w hSw; go_simp <;> with_reducible rfl)
                    change wpAnyH _ _ _ _ _ _ _ (Act.put _ (some 49) _) _
                    try simp only [Act.put, List.setIfInBounds_toArray, List.set_cons_zero, List.set_cons_succ]
                    refine wpAnyH_take (i := 10) (v := ?_) rfl (by kernel_rfl) (by kernel_rfl) (by kernel_rfl) (fun _ _ _ h => h) (Or.inl ⟨by rfl, ?_⟩) hHeld ?_
                    rotate_left
                    · (intro w hSw; go_simp <;> with_reducible rfl)
                    change wpAnyH _ _ _ _ _ _ _ (Act.put _ (some 50) _) _
                    try simp only [Act.put, List.setIfInBounds_toArray, List.set_cons_zero, List.set_cons_succ]
                    refine wpAnyH_take (i := 11) (v := ?_) rfl (by kernel_rfl) (by kernel_rfl) (by kernel_rfl) (fun _ _ _ h => h) (Or.inl ⟨by rfl, ?_⟩) hHeld ?_
                    rotate_left
                    · (intro w hSw; go_simp <;> with_reducible rfl)
                    change wpAnyH _ _ _ _ _ _ _ (Act.put _ (some 51) _) _
                    try simp only [Act.put, List.setIfInBounds_toArray, List.set_cons_zero, List.set_cons_succ]
                    refine wpAnyH_take (i := 12) (v := ?_) rfl (by kernel_rfl) (by kernel_rfl) (by kernel_rfl) (fun _ _ _ h => h) (Or.inl ⟨by rfl, ?_⟩) hHeld ?_
                    rotate_left
                    · (intro w hSw; go_simp <;> with_reducible rfl)
                    change wpAnyH _ _ _ _ _ _ _ (Act.put _ (some 52) _) _
                    try simp only [Act.put, List.setIfInBounds_toArray, List.set_cons_zero, List.set_cons_succ]
                    refine wpAnyH_take (i := 13) (v := ?_) rfl (by kernel_rfl) (by kernel_rfl) (by kernel_rfl) (fun _ _ _ h => h) (Or.inl ⟨by rfl, ?_⟩) hHeld ?_
                    rotate_left
                    · (intro w hSw; go_simp <;> with_reducible rfl)
                    change wpAnyH _ _ _ _ _ _ _ (Act.put _ (some 53) _) _
                    try simp only [Act.put, List.setIfInBounds_toArray, List.set_cons_zero, List.set_cons_succ]
                    refine wpAnyH_take (i := 14) (v := ?_) rfl (by kernel_rfl) (by kernel_rfl) (by kernel_rfl) (fun _ _ _ h => h) (Or.inl ⟨by rfl, ?_⟩) hHeld ?_
                    rotate_left
                    · (intro w hSw; go_simp <;> with_reducible rfl)
                    change wpAnyH _ _ _ _ _ _ _ (Act.put _ (some 54) _) _
                    try simp only [Act.put, List.setIfInBounds_toArray, List.set_cons_zero, List.set_cons_succ]
                    refine wpAnyH_take (i := 15) (v := ?_) rfl (by kernel_rfl) (by kernel_rfl) (by kernel_rfl) (fun _ _ _ h => h) (Or.inl ⟨by rfl, ?_⟩) hHeld ?_
                    rotate_left
                    · (intro w hSw; go_simp <;> with_reducible rfl)
                    change wpAnyH _ _ _ _ _ _ _ (Act.put _ (some 55) _) _
                    try simp only [Act.put, List.setIfInBounds_toArray, List.set_cons_zero, List.set_cons_succ]
                    refine wpAnyH_take (i := 16) (v := ?_) rfl (by kernel_rfl) (by kernel_rfl) (by kernel_rfl) (fun _ _ _ h => h) (Or.inl ⟨by rfl, ?_⟩) hHeld ?_
                    rotate_left
                    · (intro w hSw; go_simp <;> with_reducible rfl)
                    change wpAnyH _ _ _ _ _ _ _ (Act.put _ (some 56) _) _
                    try simp only [Act.put, List.setIfInBounds_toArray, List.set_cons_zero, List.set_cons_succ]
                    refine wpAnyH_take (i := 17) (v := ?_) rfl (by kernel_rfl) (by kernel_rfl) (by kernel_rfl) (fun _ _ _ h => h) (Or.inl ⟨by rfl, ?_⟩) hHeld ?_
                    rotate_left
                    · (intro w hSw; go_simp <;> with_reducible rfl)
                    change wpAnyH _ _ _ _ _ _ _ (Act.put _ (some 57) _) _
                    try simp only [Act.put, List.setIfInBounds_toArray, List.set_cons_zero, List.set_cons_succ]
                    refine wpAnyH_take (i := 18) (v := ?_) rfl (by kernel_rfl) (by kernel_rfl) (by kernel_rfl) (fun _ _ _ h => h) (Or.inl ⟨by rfl, ?_⟩) hHeld ?_
                    rotate_left
                    · (intro w hSw; go_simp <;> with_reducible rfl)
                    change wpAnyH _ _ _ _ _ _ _ (Act.put _ (some 58) _) _
                    try simp only [Act.put, List.setIfInBounds_toArray, List.set_cons_zero, List.set_cons_succ]
                    refine wpAnyH_take (i := 19) (v := ?_) rfl (by kernel_rfl) (by kernel_rfl) (by kernel_rfl) (fun _ _ _ h => h) (Or.inl ⟨by rfl, ?_⟩) hHeld ?_
                    rotate_left
                    · (intro w hSw; go_simp <;> with_reducible rfl)
                    change wpAnyH _ _ _ _ _ _ _ (Act.put _ (some 59) _) _
                    try simp only [Act.put, List.setIfInBounds_toArray, List.set_cons_zero, List.set_cons_succ]
                    refine wpAnyH_take (i := 20) (v := ?_) rfl (by kernel_rfl) (by kernel_rfl) (by kernel_rfl) (fun _ _ _ h => h) (Or.inl ⟨by rfl, ?_⟩) hHeld ?_
                    rotate_left
                    · (intro w hSw; go_simp <;> with_reducible rfl)
                    change wpAnyH _ _ _ _ _ _ _ (Act.put _ (some 60) _) _
                    try simp only [Act.put, List.setIfInBounds_toArray, List.set_cons_zero, List.set_cons_succ]
                    refine wpAnyH_take (i := 21) (v := ?_) rfl (by kernel_rfl) (by kernel_rfl) (by kernel_rfl) (fun _ _ _ h => h) (Or.inl ⟨by rfl, ?_⟩) hHeld ?_
                    rotate_left
                    · (intro w hSw; go_simp <;> with_reducible rfl)
                    change wpAnyH _ _ _ _ _ _ _ (Act.put _ (some 61) _) _
                    try simp only [Act.put, List.setIfInBounds_toArray, List.set_cons_zero, List.set_cons_succ]
                    refine wpAnyH_take (i := 22) (v := ?_) rfl (by kernel_rfl) (by kernel_rfl) (by kernel_rfl) (fun _ _ _ h => h) (Or.inl ⟨by rfl, ?_⟩) hHeld ?_
                    rotate_left
                    · (intro w hSw; go_simp <;> with_reducible rfl)
                    change wpAnyH _ _ _ _ _ _ _ (Act.put _ (some 62) _) _
                    try simp only [Act.put, List.setIfInBounds_toArray, List.set_cons_zero, List.set_cons_succ]
                    refine wpAnyH_take (i := 23) (v := ?_) rfl (by kernel_rfl) (by kernel_rfl) (by kernel_rfl) (fun _ _ _ h => h) (Or.inl ⟨by rfl, ?_⟩) hHeld ?_
                    rotate_left
                    · (intro w hSw; go_simp <;> with_reducible rfl)
                    change wpAnyH _ _ _ _ _ _ _ (Act.put _ (some 63) _) _
                    try simp only [Act.put, List.setIfInBounds_toArray, List.set_cons_zero, List.set_cons_succ]
                    refine wpAnyH_take (i := 25) (v := ?_) rfl (by kernel_rfl) (by kernel_rfl) (by kernel_rfl) (fun _ _ _ h => h) (Or.inl ⟨by rfl, ?_⟩) hHeld ?_
                    rotate_left
                    · (intro w hSw; go_simp <;> with_reducible rfl)
                    change wpAnyH _ _ _ _ _ _ _ (Act.put _ (some 65) _) _
                    try simp only [Act.put, List.setIfInBounds_toArray, List.set_cons_zero, List.set_cons_succ]
                    refine wpAnyH_ready (rs := [24]) (by kernel_rfl) (by simp) ?_
                    refine AllReadyH.cons rfl (fun K hK => ?_) ?_
                    · go_simp
                      refine hK.out _ _ (below_al hHeld (Nat.le_refl _) _) (fun hHeld => ?_)
                      clear hK K
                      try simp only [Act.put, List.setIfInBounds_toArray, List.set_cons_zero, List.set_cons_succ]
                      have c27 : (wq.alloc (.cells #[.int .i64 0, .int .i64 24, .int .i64 60] 3)).cell? ⟨wq.heap.size, k, none⟩ = some (.int .i64 24) := by rw [HK.out]; simp
                      refine wpAnyH_take (i := 26) (v := ?_) rfl (by kernel_rfl) (by kernel_rfl) (by kernel_rfl) (fun _ _ _ h => h) (Or.inl ⟨by rfl, ?_⟩) hHeld ?_
                      rotate_left
                      · (intro w hSw; go_simp <;> with_reducible rfl)
                      change wpAnyH _ _ _ _ _ _ _ (Act.put _ (some 66) _) _
                      try simp only [Act.put, List.setIfInBounds_toArray, List.set_cons_zero, List.set_cons_succ]
                      refine wpAnyH_ready (rs := [27]) (by kernel_rfl) (by simp) ?_
                      refine AllReadyH.cons rfl (fun K hK => ?_) ?_
                      · go_simp
                        refine hK.out _ _ (hHeld) (fun hHeld => ?_)
                        clear hK K
                        try simp only [Act.put, List.setIfInBounds_toArray, List.set_cons_zero, List.set_cons_succ]
                        refine wpAnyH_take (i := 28) (v := ?_) rfl (by kernel_rfl) (by kernel_rfl) (by kernel_rfl) (fun _ _ _ h => h) (Or.inl ⟨by rfl, ?_⟩) hHeld ?_
                        rotate_left
                        · (intro w hSw; go_simp <;> with_reducible rfl)
                        change wpAnyH _ _ _ _ _ _ _ (Act.put _ (some 68) _) _
                        try simp only [Act.put, List.setIfInBounds_toArray, List.set_cons_zero, List.set_cons_succ]
                        refine wpAnyH_take (i := 29) (v := ?_) rfl (by kernel_rfl) (by kernel_rfl) (by kernel_rfl) (fun _ _ _ h => h) (Or.inl ⟨by rfl, ?_⟩) hHeld ?_
                        rotate_left
                        · (intro w hSw; go_simp <;> with_reducible rfl)
                        change wpAnyH _ _ _ _ _ _ _ (Act.put _ (some 69) _) _
                        try simp only [Act.put, List.setIfInBounds_toArray, List.set_cons_zero, List.set_cons_succ]
                        refine wpAnyH_take (i := 30) (v := ?_) rfl (by kernel_rfl) (by kernel_rfl) (by kernel_rfl) (fun _ _ _ h => h) (Or.inl ⟨by rfl, ?_⟩) hHeld ?_
                        rotate_left
                        · (intro w hSw; go_simp <;> with_reducible rfl)
                        change wpAnyH _ _ _ _ _ _ _ (Act.put _ (some 70) _) _
                        try simp only [Act.put, List.setIfInBounds_toArray, List.set_cons_zero, List.set_cons_succ]
                        refine wpAnyH_take (i := 31) (v := ?_) rfl (by kernel_rfl) (by kernel_rfl) (by kernel_rfl) (fun _ _ _ h => h) (Or.inl ⟨by rfl, ?_⟩) hHeld ?_
                        rotate_left
                        · (intro w hSw; go_simp <;> with_reducible rfl)
                        change wpAnyH _ _ _ _ _ _ _ (Act.put _ (some 71) _) _
                        try simp only [Act.put, List.setIfInBounds_toArray, List.set_cons_zero, List.set_cons_succ]
                        refine wpAnyH_take (i := 32) (v := undef) rfl (by kernel_rfl) (by kernel_rfl) (by kernel_rfl) (fun _ _ _ h => h) (Or.inr ⟨by rfl, rfl⟩) hHeld ?_
                        change wpAnyH _ _ _ _ _ _ _ (Act.put _ (some 72) _) _
                        try simp only [Act.put, List.setIfInBounds_toArray, List.set_cons_zero, List.set_cons_succ]
                        refine wpAnyH_take (i := 33) (v := undef) rfl (by kernel_rfl) (by kernel_rfl) (by kernel_rfl) (fun _ _ _ h => h) (Or.inr ⟨by rfl, rfl⟩) hHeld ?_
                        change wpAnyH _ _ _ _ _ _ _ (Act.put _ (some 73) _) _
                        try simp only [Act.put, List.setIfInBounds_toArray, List.set_cons_zero, List.set_cons_succ]
                        refine wpAnyH_take (i := 34) (v := undef) rfl (by kernel_rfl) (by kernel_rfl) (by kernel_rfl) (fun _ _ _ h => h) (Or.inr ⟨by rfl, rfl⟩) hHeld ?_
                        change wpAnyH _ _ _ _ _ _ _ (Act.put _ (some 74) _) _
                        try simp only [Act.put, List.setIfInBounds_toArray, List.set_cons_zero, List.set_cons_succ]
                        refine wpAnyH_take (i := 35) (v := undef) rfl (by kernel_rfl) (by kernel_rfl) (by kernel_rfl) (fun _ _ _ h => h) (Or.inr ⟨by rfl, rfl⟩) hHeld ?_
                        change wpAnyH _ _ _ _ _ _ _ (Act.put _ (some 75) _) _
                        try simp only [Act.put, List.setIfInBounds_toArray, List.set_cons_zero, List.set_cons_succ]
                        refine wpAnyH_take (i := 36) (v := undef) rfl (by kernel_rfl) (by kernel_rfl) (by kernel_rfl) (fun _ _ _ h => h) (Or.inr ⟨by rfl, rfl⟩) hHeld ?_
                        change wpAnyH _ _ _ _ _ _ _ (Act.put _ (some 76) _) _
                        try simp only [Act.put, List.setIfInBounds_toArray, List.set_cons_zero, List.set_cons_succ]
                        refine wpAnyH_take (i := 37) (v := undef) rfl (by kernel_rfl) (by kernel_rfl) (by kernel_rfl) (fun _ _ _ h => h) (Or.inr ⟨by rfl, rfl⟩) hHeld ?_
                        change wpAnyH _ _ _ _ _ _ _ (Act.put _ (some 77) _) _
                        try simp only [Act.put, List.setIfInBounds_toArray, List.set_cons_zero, List.set_cons_succ]
                        refine wpAnyH_take (i := 38) (v := ?_) rfl (by kernel_rfl) (by kernel_rfl) (by kernel_rfl) (fun _ _ _ h => h) (Or.inl ⟨by rfl, ?_⟩) hHeld ?_
                        rotate_left
                        · (intro w hSw; go_simp <;> with_reducible rfl)
                        change wpAnyH _ _ _ _ _ _ _ (Act.put _ (some 78) _) _
                        try simp only [Act.put, List.setIfInBounds_toArray, List.set_cons_zero, List.set_cons_succ]
                        refine wpAnyH_done (by kernel_rfl) ?_ _
                        (try dsimp only [Act.put])
                        try simp only [Act.put, List.setIfInBounds_toArray, List.set_cons_zero, List.set_cons_succ]
                        clear f1 f2 f2b f4 f7 f7b i3 i3b hneg hkn hi nb1 nb2 k0 f5
                        go_wp2
                        go_meet
                        exact ⟨by rw [EB.out], hHeld⟩
                      exact AllReadyH.nil
                    exact AllReadyH.nil
                  exact AllReadyH.nil
                · have HLM := Lib.hid (show limN k = 24 by rw [limN, if_pos hk1])
                  have f7 : decide ((0 : Int) < (k : Int)) = true := decide_eq_true (by omega)
                  have f7b : decide (0 < k) = true := decide_eq_true (by omega)
                  have i3 : (k : Int) < 3 := by omega
                  have i3b : k < 3 := by omega
                  have f5 : decide ((24 : Int) ≤ n) = false := decide_eq_false hl
                  have EB := Lib.hid (show bad = false by rw [BD.out]; exact decide_eq_false (fun hx => by rcases hx with h | h | h | ⟨h, h'⟩ | ⟨h, h'⟩; exact h hi; exact hneg h; exact hkn h; exact hl (by rw [HLM.out] at h'; exact h'); exact hn0 h))
                  have HK := Lib.hid hk1; clear hk1
                  clear hn0 hl
                  refine wp_region_held_drew (S := (fun w' => Below w3.heap.size w3 w')) (by kernel_rfl) (Below.refl _ _).drew (fun hHeld => ?_)
                  refine wpAnyH_take (i := 0) (v := ?_) rfl (by kernel_rfl) (by kernel_rfl) (by kernel_rfl) (fun _ _ _ h => h) (Or.inl ⟨by rfl, ?_⟩) hHeld ?_
                  rotate_left
                  · (intro w hSw; go_simp <;> with_reducible rfl)
                  change wpAnyH _ _ _ _ _ _ _ (Act.put _ (some 40) _) _
                  try simp only [Act.put, List.setIfInBounds_toArray, List.set_cons_zero, List.set_cons_succ]
                  refine wpAnyH_take (i := 1) (v := ?_) rfl (by kernel_rfl) (by kernel_rfl) (by kernel_rfl) (fun _ _ _ h => h) (Or.inl ⟨by rfl, ?_⟩) hHeld ?_
                  rotate_left
                  · (intro w hSw; go_simp <;> with_reducible rfl)
                  change wpAnyH _ _ _ _ _ _ _ (Act.put _ (some 41) _) _
                  try simp only [Act.put, List.setIfInBounds_toArray, List.set_cons_zero, List.set_cons_succ]
                  refine wpAnyH_take (i := 2) (v := ?_) rfl (by kernel_rfl) (by kernel_rfl) (by kernel_rfl) (fun _ _ _ h => h) (Or.inl ⟨by rfl, ?_⟩) hHeld ?_
                  rotate_left
                  · (intro w hSw; go_simp <;> with_reducible rfl)
                  change wpAnyH _ _ _ _ _ _ _ (Act.put _ (some 42) _) _
                  try simp only [Act.put, List.setIfInBounds_toArray, List.set_cons_zero, List.set_cons_succ]
                  refine wpAnyH_take (i := 3) (v := ?_) rfl (by kernel_rfl) (by kernel_rfl) (by kernel_rfl) (fun _ _ _ h => h) (Or.inl ⟨by rfl, ?_⟩) hHeld ?_
                  rotate_left
                  · (intro w hSw; go_simp <;> with_reducible rfl)
                  change wpAnyH _ _ _ _ _ _ _ (Act.put _ (some 43) _) _
                  try simp only [Act.put, List.setIfInBounds_toArray, List.set_cons_zero, List.set_cons_succ]
                  refine wpAnyH_take (i := 5) (v := ?_) rfl (by kernel_rfl) (by kernel_rfl) (by kernel_rfl) (fun _ _ _ h => h) (Or.inl ⟨by rfl, ?_⟩) hHeld ?_
                  rotate_left
                  · (intro w hSw; go_simp <;> with_reducible rfl)
                  change wpAnyH _ _ _ _ _ _ _ (Act.put _ (some 45) _) _
                  try simp only [Act.put, List.setIfInBounds_toArray, List.set_cons_zero, List.set_cons_succ]
                  refine wpAnyH_take (i := 6) (v := ?_) rfl (by kernel_rfl) (by kernel_rfl) (by kernel_rfl) (fun _ _ _ h => h) (Or.inl ⟨by rfl, ?_⟩) hHeld ?_
                  rotate_left
                  · (intro w hSw; go_simp <;> with_reducible rfl)
                  change wpAnyH _ _ _ _ _ _ _ (Act.put _ (some 46) _) _
                  try simp only [Act.put, List.setIfInBounds_toArray, List.set_cons_zero, List.set_cons_succ]
                  refine wpAnyH_take (i := 7) (v := ?_) rfl (by kernel_rfl) (by kernel_rfl) (by kernel_rfl) (fun _ _ _ h => h) (Or.inl ⟨by rfl, ?_⟩) hHeld ?_
                  rotate_left
                  · (intro w hSw; go_simp <;> with_reducible rfl)
                  change wpAnyH _ _ _ _ _ _ _ (Act.put _ (some 47) _) _
                  try simp only [Act.put, List.setIfInBounds_toArray, List.set_cons_zero, List.set_cons_succ]
                  refine wpAnyH_ready (rs := [4]) (by kernel_rfl) (by simp) ?_
                  refine AllReadyH.cons rfl (fun K hK => ?_) ?_
                  · go_simp; go_at_call 37; (with_reducible refine (IT.out _ hHeld).mono ?_); rintro e wq ⟨rfl, hbq⟩; (try go_wp2_with fail)
                    refine hK.out _ _ (below_nx hHeld hbq) (fun hHeld => ?_)
                    clear hK K
                    try simp only [Act.put, List.setIfInBounds_toArray, List.set_cons_zero, List.set_cons_succ]
                    clear hbq
                    refine wpAnyH_take (i := 8) (v := ?_) rfl (by kernel_rfl) (by kernel_rfl) (by kernel_rfl) (fun _ _ _ h => h) (Or.inl ⟨by rfl, ?_⟩) hHeld ?_
                    rotate_left
                    · (intro w hSw; go_simp <;> with_reducible rfl)
                    change wpAnyH _ _ _ _ _ _ _ (Act.put _ (some 48) _) _
                    try simp only [Act.put, List.setIfInBounds_toArray, List.set_cons_zero, List.set_cons_succ]
                    refine wpAnyH_take (i := 9) (v := ?_) rfl (by kernel_rfl) (by kernel_rfl) (by kernel_rfl) (fun _ _ _ h => h) (Or.inl ⟨by rfl, ?_⟩) hHeld ?_
                    rotate_left
                    · (intro w hSw; go_simp <;> with_reducible rfl)
                    change wpAnyH _ _ _ _ _ _ _ (Act.put _ (some 49) _) _
                    try simp only [Act.put, List.setIfInBounds_toArray, List.set_cons_zero, List.set_cons_succ]
                    refine wpAnyH_take (i := 10) (v := ?_) rfl (by kernel_rfl) (by kernel_rfl) (by kernel_rfl) (fun _ _ _ h => h) (Or.inl ⟨by rfl, ?_⟩) hHeld ?_
                    rotate_left
                    · (intro w hSw; go_simp <;> with_reducible rfl)
                    change wpAnyH _ _ _ _ _ _ _ (Act.put _ (some 50) _) _
                    try simp only [Act.put, List.setIfInBounds_toArray, List.set_cons_zero, List.set_cons_succ]
                    refine wpAnyH_take (i := 11) (v := ?_) rfl (by kernel_rfl) (by kernel_rfl) (by kernel_rfl) (fun _ _ _ h => h) (Or.inl ⟨by rfl, ?_⟩) hHeld ?_
                    rotate_left
                    · (intro w hSw; go_simp <;> with_reducible rfl)
                    change wpAnyH _ _ _ _ _ _ _ (Act.put _ (some 51) _) _
                    try simp only [Act.put, List.setIfInBounds_toArray, List.set_cons_zero, List.set_cons_succ]
                    refine wpAnyH_take (i := 12) (v := ?_) rfl (by kernel_rfl) (by kernel_rfl) (by kernel_rfl) (fun _ _ _ h => h) (Or.inl ⟨by rfl, ?_⟩) hHeld ?_
                    rotate_left
                    · (intro w hSw; go_simp <;> with_reducible rfl)
                    change wpAnyH _ _ _ _ _ _ _ (Act.put _ (some 52) _) _
                    try simp only [Act.put, List.setIfInBounds_toArray, List.set_cons_zero, List.set_cons_succ]
                    refine wpAnyH_take (i := 13) (v := ?_) rfl (by kernel_rfl) (by kernel_rfl) (by kernel_rfl) (fun _ _ _ h => h) (Or.inl ⟨by rfl, ?_⟩) hHeld ?_
                    rotate_left
                    · (intro w hSw; go_simp <;> with_reducible rfl)
                    change wpAnyH _ _ _ _ _ _ _ (Act.put _ (some 53) _) _
                    try simp only [Act.put, List.setIfInBounds_toArray, List.set_cons_zero, List.set_cons_succ]
                    refine wpAnyH_take (i := 14) (v := ?_) rfl (by kernel_rfl) (by kernel_rfl) (by kernel_rfl) (fun _ _ _ h => h) (Or.inl ⟨by rfl, ?_⟩) hHeld ?_
                    rotate_left
                    · (intro w hSw; go_simp <;> with_reducible rfl)
                    change wpAnyH _ _ _ _ _ _ _ (Act.put _ (some 54) _) _
                    try simp only [Act.put, List.setIfInBounds_toArray, List.set_cons_zero, List.set_cons_succ]
                    refine wpAnyH_take (i := 15) (v := ?_) rfl (by kernel_rfl) (by kernel_rfl) (by kernel_rfl) (fun _ _ _ h => h) (Or.inl ⟨by rfl, ?_⟩) hHeld ?_
                    rotate_left
                    · (intro w hSw; go_simp <;> with_reducible rfl)
                    change wpAnyH _ _ _ _ _ _ _ (Act.put _ (some 55) _) _
                    try simp only [Act.put, List.setIfInBounds_toArray, List.set_cons_zero, List.set_cons_succ]
                    refine wpAnyH_take (i := 16) (v := ?_) rfl (by kernel_rfl) (by kernel_rfl) (by kernel_rfl) (fun _ _ _ h => h) (Or.inl ⟨by rfl, ?_⟩) hHeld ?_
                    rotate_left
                    · (intro w hSw; go_simp <;> with_reducible rfl)
                    change wpAnyH _ _ _ _ _ _ _ (Act.put _ (some 56) _) _
                    try simp only [Act.put, List.setIfInBounds_toArray, List.set_cons_zero, List.set_cons_succ]
                    refine wpAnyH_take (i := 17) (v := ?_) rfl (by kernel_rfl) (by kernel_rfl) (by kernel_rfl) (fun _ _ _ h => h) (Or.inl ⟨by rfl, ?_⟩) hHeld ?_
                    rotate_left
                    · (intro w hSw; go_simp <;> with_reducible rfl)
                    change wpAnyH _ _ _ _ _ _ _ (Act.put _ (some 57) _) _
                    try simp only [Act.put, List.setIfInBounds_toArray, List.set_cons_zero, List.set_cons_succ]
                    refine wpAnyH_take (i := 18) (v := ?_) rfl (by kernel_rfl) (by kernel_rfl) (by kernel_rfl) (fun _ _ _ h => h) (Or.inl ⟨by rfl, ?_⟩) hHeld ?_
                    rotate_left
                    · (intro w hSw; go_simp <;> with_reducible rfl)
                    change wpAnyH _ _ _ _ _ _ _ (Act.put _ (some 58) _) _
                    try simp only [Act.put, List.setIfInBounds_toArray, List.set_cons_zero, List.set_cons_succ]
                    refine wpAnyH_take (i := 19) (v := ?_) rfl (by kernel_rfl) (by kernel_rfl) (by kernel_rfl) (fun _ _ _ h => h) (Or.inl ⟨by rfl, ?_⟩) hHeld ?_
                    rotate_left
                    · (intro w hSw; go_simp <;> with_reducible rfl)
                    change wpAnyH _ _ _ _ _ _ _ (Act.put _ (some 59) _) _
                    try simp only [Act.put, List.setIfInBounds_toArray, List.set_cons_zero, List.set_cons_succ]
                    refine wpAnyH_take (i := 20) (v := ?_) rfl (by kernel_rfl) (by kernel_rfl) (by kernel_rfl) (fun _ _ _ h => h) (Or.inl ⟨by rfl, ?_⟩) hHeld ?_
                    rotate_left
                    · (intro w hSw; go_simp <;> with_reducible rfl)
                    change wpAnyH _ _ _ _ _ _ _ (Act.put _ (some 60) _) _
                    try simp only [Act.put, List.setIfInBounds_toArray, List.set_cons_zero, List.set_cons_succ]
                    refine wpAnyH_take (i := 21) (v := ?_) rfl (by kernel_rfl) (by kernel_rfl) (by kernel_rfl) (fun _ _ _ h => h) (Or.inl ⟨by rfl, ?_⟩) hHeld ?_
                    rotate_left
                    · (intro w hSw; go_simp <;> with_reducible rfl)
                    change wpAnyH _ _ _ _ _ _ _ (Act.put _ (some 61) _) _
                    try simp only [Act.put, List.setIfInBounds_toArray, List.set_cons_zero, List.set_cons_succ]
                    refine wpAnyH_take (i := 22) (v := ?_) rfl (by kernel_rfl) (by kernel_rfl) (by kernel_rfl) (fun _ _ _ h => h) (Or.inl ⟨by rfl, ?_⟩) hHeld ?_
                    rotate_left
                    · (intro w hSw; go_simp <;> with_reducible rfl)
                    change wpAnyH _ _ _ _ _ _ _ (Act.put _ (some 62) _) _
                    try simp only [Act.put, List.setIfInBounds_toArray, List.set_cons_zero, List.set_cons_succ]
                    refine wpAnyH_take (i := 23) (v := ?_) rfl (by kernel_rfl) (by kernel_rfl) (by kernel_rfl) (fun _ _ _ h => h) (Or.inl ⟨by rfl, ?_⟩) hHeld ?_
                    rotate_left
                    · (intro w hSw; go_simp <;> with_reducible rfl)
                    change wpAnyH _ _ _ _ _ _ _ (Act.put _ (some 63) _) _
                    try simp only [Act.put, List.setIfInBounds_toArray, List.set_cons_zero, List.set_cons_succ]
                    refine wpAnyH_take (i := 25) (v := ?_) rfl (by kernel_rfl) (by kernel_rfl) (by kernel_rfl) (fun _ _ _ h => h) (Or.inl ⟨by rfl, ?_⟩) hHeld ?_
                    rotate_left
                    · (intro w hSw; go_simp <;> with_reducible rfl)
                    change wpAnyH _ _ _ _ _ _ _ (Act.put _ (some 65) _) _
                    try simp only [Act.put, List.setIfInBounds_toArray, List.set_cons_zero, List.set_cons_succ]
                    refine wpAnyH_ready (rs := [24]) (by kernel_rfl) (by simp) ?_
                    refine AllReadyH.cons rfl (fun K hK => ?_) ?_
                    · go_simp
                      refine hK.out _ _ (below_al hHeld (Nat.le_refl _) _) (fun hHeld => ?_)
                      clear hK K
                      try simp only [Act.put, List.setIfInBounds_toArray, List.set_cons_zero, List.set_cons_succ]
                      have c27 : (wq.alloc (.cells #[.int .i64 0, .int .i64 24, .int .i64 60] 3)).cell? ⟨wq.heap.size, k, none⟩ = some (.int .i64 24) := by rw [HK.out]; simp
                      refine wpAnyH_take (i := 26) (v := ?_) rfl (by kernel_rfl) (by kernel_rfl) (by kernel_rfl) (fun _ _ _ h => h) (Or.inl ⟨by rfl, ?_⟩) hHeld ?_
                      rotate_left
                      · (intro w hSw; go_simp <;> with_reducible rfl)
                      change wpAnyH _ _ _ _ _ _ _ (Act.put _ (some 66) _) _
                      try simp only [Act.put, List.setIfInBounds_toArray, List.set_cons_zero, List.set_cons_succ]
                      refine wpAnyH_ready (rs := [27]) (by kernel_rfl) (by simp) ?_
                      refine AllReadyH.cons rfl (fun K hK => ?_) ?_
                      · go_simp
                        refine hK.out _ _ (hHeld) (fun hHeld => ?_)
                        clear hK K
                        try simp only [Act.put, List.setIfInBounds_toArray, List.set_cons_zero, List.set_cons_succ]
                        refine wpAnyH_take (i := 28) (v := ?_) rfl (by kernel_rfl) (by kernel_rfl) (by kernel_rfl) (fun _ _ _ h => h) (Or.inl ⟨by rfl, ?_⟩) hHeld ?_
                        rotate_left
                        · (intro w hSw; go_simp <;> with_reducible rfl)
                        change wpAnyH _ _ _ _ _ _ _ (Act.put _ (some 68) _) _
                        try simp only [Act.put, List.setIfInBounds_toArray, List.set_cons_zero, List.set_cons_succ]
                        refine wpAnyH_take (i := 29) (v := ?_) rfl (by kernel_rfl) (by kernel_rfl) (by kernel_rfl) (fun _ _ _ h => h) (Or.inl ⟨by rfl, ?_⟩) hHeld ?_
                        rotate_left
                        · (intro w hSw; go_simp <;> with_reducible rfl)
                        change wpAnyH _ _ _ _ _ _ _ (Act.put _ (some 69) _) _
                        try simp only [Act.put, List.setIfInBounds_toArray, List.set_cons_zero, List.set_cons_succ]
                        refine wpAnyH_take (i := 30) (v := ?_) rfl (by kernel_rfl) (by kernel_rfl) (by kernel_rfl) (fun _ _ _ h => h) (Or.inl ⟨by rfl, ?_⟩) hHeld ?_
                        rotate_left
                        · (intro w hSw; go_simp <;> with_reducible rfl)
                        change wpAnyH _ _ _ _ _ _ _ (Act.put _ (some 70) _) _
                        try simp only [Act.put, List.setIfInBounds_toArray, List.set_cons_zero, List.set_cons_succ]
                        refine wpAnyH_take (i := 31) (v := ?_) rfl (by kernel_rfl) (by kernel_rfl) (by kernel_rfl) (fun _ _ _ h => h) (Or.inl ⟨by rfl, ?_⟩) hHeld ?_
                        rotate_left
                        · (intro w hSw; go_simp <;> with_reducible rfl)
                        change wpAnyH _ _ _ _ _ _ _ (Act.put _ (some 71) _) _
                        try simp only [Act.put, List.setIfInBounds_toArray, List.set_cons_zero, List.set_cons_succ]
                        refine wpAnyH_take (i := 32) (v := ?_) rfl (by kernel_rfl) (by kernel_rfl) (by kernel_rfl) (fun _ _ _ h => h) (Or.inl ⟨by rfl, ?_⟩) hHeld ?_
                        rotate_left
                        · (intro w hSw; go_simp <;> with_reducible rfl)
                        change wpAnyH _ _ _ _ _ _ _ (Act.put _ (some 72) _) _
                        try simp only [Act.put, List.setIfInBounds_toArray, List.set_cons_zero, List.set_cons_succ]
                        refine wpAnyH_take (i := 33) (v := ?_) rfl (by kernel_rfl) (by kernel_rfl) (by kernel_rfl) (fun _ _ _ h => h) (Or.inl ⟨by rfl, ?_⟩) hHeld ?_
                        rotate_left
                        · (intro w hSw; go_simp <;> with_reducible rfl)
                        change wpAnyH _ _ _ _ _ _ _ (Act.put _ (some 73) _) _
                        try simp only [Act.put, List.setIfInBounds_toArray, List.set_cons_zero, List.set_cons_succ]
                        refine wpAnyH_take (i := 34) (v := ?_) rfl (by kernel_rfl) (by kernel_rfl) (by kernel_rfl) (fun _ _ _ h => h) (Or.inl ⟨by rfl, ?_⟩) hHeld ?_
                        rotate_left
                        · (intro w hSw; go_simp <;> with_reducible rfl)
                        change wpAnyH _ _ _ _ _ _ _ (Act.put _ (some 74) _) _
                        try simp only [Act.put, List.setIfInBounds_toArray, List.set_cons_zero, List.set_cons_succ]
                        refine wpAnyH_take (i := 35) (v := undef) rfl (by kernel_rfl) (by kernel_rfl) (by kernel_rfl) (fun _ _ _ h => h) (Or.inr ⟨by rfl, rfl⟩) hHeld ?_
                        change wpAnyH _ _ _ _ _ _ _ (Act.put _ (some 75) _) _
                        try simp only [Act.put, List.setIfInBounds_toArray, List.set_cons_zero, List.set_cons_succ]
                        refine wpAnyH_take (i := 36) (v := undef) rfl (by kernel_rfl) (by kernel_rfl) (by kernel_rfl) (fun _ _ _ h => h) (Or.inr ⟨by rfl, rfl⟩) hHeld ?_
                        change wpAnyH _ _ _ _ _ _ _ (Act.put _ (some 76) _) _
                        try simp only [Act.put, List.setIfInBounds_toArray, List.set_cons_zero, List.set_cons_succ]
                        refine wpAnyH_take (i := 37) (v := ?_) rfl (by kernel_rfl) (by kernel_rfl) (by kernel_rfl) (fun _ _ _ h => h) (Or.inl ⟨by rfl, ?_⟩) hHeld ?_
                        rotate_left
                        · (intro w hSw; go_simp <;> with_reducible rfl)
                        change wpAnyH _ _ _ _ _ _ _ (Act.put _ (some 77) _) _
                        try simp only [Act.put, List.setIfInBounds_toArray, List.set_cons_zero, List.set_cons_succ]
                        refine wpAnyH_take (i := 38) (v := ?_) rfl (by kernel_rfl) (by kernel_rfl) (by kernel_rfl) (fun _ _ _ h => h) (Or.inl ⟨by rfl, ?_⟩) hHeld ?_
                        rotate_left
                        · (intro w hSw; go_simp <;> with_reducible rfl)
                        change wpAnyH _ _ _ _ _ _ _ (Act.put _ (some 78) _) _
                        try simp only [Act.put, List.setIfInBounds_toArray, List.set_cons_zero, List.set_cons_succ]
                        refine wpAnyH_done (by kernel_rfl) ?_ _
                        (try dsimp only [Act.put])
                        try simp only [Act.put, List.setIfInBounds_toArray, List.set_cons_zero, List.set_cons_succ]
                        clear f1 f2 f2b f4 f7 f7b i3 i3b hneg hkn hi nb1 nb2 k0 f5
                        go_wp2
                        go_meet
                        exact ⟨by rw [EB.out], hHeld⟩
                      exact AllReadyH.nil
                    exact AllReadyH.nil
                  exact AllReadyH.nil
              · by_cases hl : 60 ≤ n
                · have HLM := Lib.hid (show limN k = 60 by rw [limN, if_neg (by omega)])
                  have f7 : decide ((0 : Int) < (k : Int)) = true := decide_eq_true (by omega)
                  have f7b : decide (0 < k) = true := decide_eq_true (by omega)
                  have i3 : (k : Int) < 3 := by omega
                  have i3b : k < 3 := by omega
                  have f5 : decide ((60 : Int) ≤ n) = true := decide_eq_true hl
                  have EB := Lib.hid (show bad = true by rw [BD.out]; exact decide_eq_true (.inr (.inr (.inr (.inl ⟨by omega, by rw [HLM.out]; exact hl⟩)))))
                  have HK := Lib.hid hk2; clear hk2
                  clear hn0 hl
                  refine wp_region_held_drew (S := (fun w' => Below w3.heap.size w3 w')) (by kernel_rfl) (Below.refl _ _).drew (fun hHeld => ?_)
                  refine wpAnyH_take (i := 0) (v := ?_) rfl (by kernel_rfl) (by kernel_rfl) (by kernel_rfl) (fun _ _ _ h => h) (Or.inl ⟨by rfl, ?_⟩) hHeld ?_
                  rotate_left
                  · (intro w hSw; go_simp <;> with_reducible rfl)
                  change wpAnyH _ _ _ _ _ _ _ (Act.put _ (some 40) _) _
                  try simp only [Act.put, List.setIfInBounds_toArray, List.set_cons_zero, List.set_cons_succ]
                  refine wpAnyH_take (i := 1) (v := ?_) rfl (by kernel_rfl) (by kernel_rfl) (by kernel_rfl) (fun _ _ _ h => h) (Or.inl ⟨by rfl, ?_⟩) hHeld ?_
                  rotate_left
                  · (intro w hSw; go_simp <;> with_reducible rfl)
                  change wpAnyH _ _ _ _ _ _ _ (Act.put _ (some 41) _) _
                  try simp only [Act.put, List.setIfInBounds_toArray, List.set_cons_zero, List.set_cons_succ]
                  refine wpAnyH_take (i := 2) (v := ?_) rfl (by kernel_rfl) (by kernel_rfl) (by kernel_rfl) (fun _ _ _ h => h) (Or.inl ⟨by rfl, ?_⟩) hHeld ?_
                  rotate_left
                  · (intro w hSw; go_simp <;> with_reducible rfl)
                  change wpAnyH _ _ _ _ _ _ _ (Act.put _ (some 42) _) _
                  try simp only [Act.put, List.setIfInBounds_toArray, List.set_cons_zero, List.set_cons_succ]
                  refine wpAnyH_take (i := 3) (v := ?_) rfl (by kernel_rfl) (by kernel_rfl) (by kernel_rfl) (fun _ _ _ h => h) (Or.inl ⟨by rfl, ?_⟩) hHeld ?_
                  rotate_left
                  · (intro w hSw; go_simp <;> with_reducible rfl)
                  change wpAnyH _ _ _ _ _ _ _ (Act.put _ (some 43) _) _
                  try simp only [Act.put, List.setIfInBounds_toArray, List.set_cons_zero, List.set_cons_succ]
                  refine wpAnyH_take (i := 5) (v := ?_) rfl (by kernel_rfl) (by kernel_rfl) (by kernel_rfl) (fun _ _ _ h => h) (Or.inl ⟨by rfl, ?_⟩) hHeld ?_
                  rotate_left
                  · (intro w hSw; go_simp <;> with_reducible rfl)
                  change wpAnyH _ _ _ _ _ _ _ (Act.put _ (some 45) _) _
                  try simp only [Act.put, List.setIfInBounds_toArray, List.set_cons_zero, List.set_cons_succ]
                  refine wpAnyH_take (i := 6) (v := ?_) rfl (by kernel_rfl) (by kernel_rfl) (by kernel_rfl) (fun _ _ _ h => h) (Or.inl ⟨by rfl, ?_⟩) hHeld ?_
                  rotate_left
                  · (intro w hSw; go_simp <;> with_reducible rfl)
                  change wpAnyH _ _ _ _ _ _ _ (Act.put _ (some 46) _) _
                  try simp only [Act.put, List.setIfInBounds_toArray, List.set_cons_zero, List.set_cons_succ]
                  refine wpAnyH_take (i := 7) (v := ?_) rfl (by kernel_rfl) (by kernel_rfl) (by kernel_rfl) (fun _ _ _ h => h) (Or.inl ⟨by rfl, ?_⟩) hHeld ?_
                  rotate_left
                  · (intro w hSw; go_simp <;> with_reducible rfl)
                  change wpAnyH _ _ _ _ _ _ _ (Act.put _ (some 47) _) _
                  try simp only [Act.put, List.setIfInBounds_toArray, List.set_cons_zero, List.set_cons_succ]
                  refine wpAnyH_ready (rs := [4]) (by kernel_rfl) (by simp) ?_
                  refine AllReadyH.cons rfl (fun K hK => ?_) ?_
                  · go_simp; go_at_call 37; (with_reducible refine (IT.out _ hHeld).mono ?_); rintro e wq ⟨rfl, hbq⟩; (try go_wp2_with fail)
                    refine hK.out _ _ (below_nx hHeld hbq) (fun hHeld => ?_)
                    clear hK K
                    try simp only [Act.put, List.setIfInBounds_toArray, List.set_cons_zero, List.set_cons_succ]
                    clear hbq
                    refine wpAnyH_take (i := 8) (v := ?_) rfl (by kernel_rfl) (by kernel_rfl) (by kernel_rfl) (fun _ _ _ h => h) (Or.inl ⟨by rfl, ?_⟩) hHeld ?_
                    rotate_left
                    · (intro w hSw; go_simp <;> with_reducible rfl)
                    change wpAnyH _ _ _ _ _ _ _ (Act.put _ (some 48) _) _
                    try simp only [Act.put, List.setIfInBounds_toArray, List.set_cons_zero, List.set_cons_succ]
                    refine wpAnyH_take (i := 9) (v := ?_) rfl (by kernel_rfl) (by kernel_rfl) (by kernel_rfl) (fun _ _ _ h => h) (Or.inl ⟨by rfl, ?_⟩) hHeld ?_
                    rotate_left
                    · (intro w hSw; go_simp <;> with_reducible rfl)
                    change wpAnyH _ _ _ _ _ _ _ (Act.put _ (some 49) _) _
                    try simp only [Act.put, List.setIfInBounds_toArray, List.set_cons_zero, List.set_cons_succ]
                    refine wpAnyH_take (i := 10) (v := ?_) rfl (by kernel_rfl) (by kernel_rfl) (by kernel_rfl) (fun _ _ _ h => h) (Or.inl ⟨by rfl, ?_⟩) hHeld ?_
                    rotate_left
                    · (intro w hSw; go_simp <;> with_reducible rfl)
                    change wpAnyH _ _ _ _ _ _ _ (Act.put _ (some 50) _) _
                    try simp only [Act.put, List.setIfInBounds_toArray, List.set_cons_zero, List.set_cons_succ]
                    refine wpAnyH_take (i := 11) (v := ?_) rfl (by kernel_rfl) (by kernel_rfl) (by kernel_rfl) (fun _ _ _ h => h) (Or.inl ⟨by rfl, ?_⟩) hHeld ?_
                    rotate_left
                    · (intro w hSw; go_simp <;> with_reducible rfl)
                    change wpAnyH _ _ _ _ _ _ _ (Act.put _ (some 51) _) _
                    try simp only [Act.put, List.setIfInBounds_toArray, List.set_cons_zero, List.set_cons_succ]
                    refine wpAnyH_take (i := 12) (v := ?_) rfl (by kernel_rfl) (by kernel_rfl) (by kernel_rfl) (fun _ _ _ h => h) (Or.inl ⟨by rfl, ?_⟩) hHeld ?_
                    rotate_left
                    · (intro w hSw; go_simp <;> with_reducible rfl)
                    change wpAnyH _ _ _ _ _ _ _ (Act.put _ (some 52) _) _
                    try simp only [Act.put, List.setIfInBounds_toArray, List.set_cons_zero, List.set_cons_succ]
                    refine wpAnyH_take (i := 13) (v := ?_) rfl (by kernel_rfl) (by kernel_rfl) (by kernel_rfl) (fun _ _ _ h => h) (Or.inl ⟨by rfl, ?_⟩) hHeld ?_
                    rotate_left
                    · (intro w hSw; go_simp <;> with_reducible rfl)
                    change wpAnyH _ _ _ _ _ _ _ (Act.put _ (some 53) _) _
                    try simp only [Act.put, List.setIfInBounds_toArray, List.set_cons_zero, List.set_cons_succ]
                    refine wpAnyH_take (i := 14) (v := ?_) rfl (by kernel_rfl) (by kernel_rfl) (by kernel_rfl) (fun _ _ _ h => h) (Or.inl ⟨by rfl, ?_⟩) hHeld ?_
                    rotate_left
                    · (intro w hSw; go_simp <;> with_reducible rfl)
                    change wpAnyH _ _ _ _ _ _ _ (Act.put _ (some 54) _) _
                    try simp only [Act.put, List.setIfInBounds_toArray, List.set_cons_zero, List.set_cons_succ]
                    refine wpAnyH_take (i := 15) (v := ?_) rfl (by kernel_rfl) (by kernel_rfl) (by kernel_rfl) (fun _ _ _ h => h) (Or.inl ⟨by rfl, ?_⟩) hHeld ?_
                    rotate_left
                    · (intro w hSw; go_simp <;> with_reducible rfl)
                    change wpAnyH _ _ _ _ _ _ _ (Act.put _ (some 55) _) _
                    try simp only [Act.put, List.setIfInBounds_toArray, List.set_cons_zero, List.set_cons_succ]
                    refine wpAnyH_take (i := 16) (v := ?_) rfl (by kernel_rfl) (by kernel_rfl) (by kernel_rfl) (fun _ _ _ h => h) (Or.inl ⟨by rfl, ?_⟩) hHeld ?_
                    rotate_left
                    · (intro w hSw; go_simp <;> with_reducible rfl)
                    change wpAnyH _ _ _ _ _ _ _ (Act.put _ (some 56) _) _
                    try simp only [Act.put, List.setIfInBounds_toArray, List.set_cons_zero, List.set_cons_succ]
                    refine wpAnyH_take (i := 17) (v := ?_) rfl (by kernel_rfl) (by kernel_rfl) (by kernel_rfl) (fun _ _ _ h => h) (Or.inl ⟨by rfl, ?_⟩) hHeld ?_
                    rotate_left
                    · (intro w hSw; go_simp <;> with_reducible rfl)
                    change wpAnyH _ _ _ _ _ _ _ (Act.put _ (some 57) _) _
                    try simp only [Act.put, List.setIfInBounds_toArray, List.set_cons_zero, List.set_cons_succ]
                    refine wpAnyH_take (i := 18) (v := ?_) rfl (by kernel_rfl) (by kernel_rfl) (by kernel_rfl) (fun _ _ _ h => h) (Or.inl ⟨by rfl, ?_⟩) hHeld ?_
                    rotate_left
                    · (intro w hSw; go_simp <;> with_reducible rfl)
                    change wpAnyH _ _ _ _ _ _ _ (Act.put _ (some 58) _) _
                    try simp only [Act.put, List.setIfInBounds_toArray, List.set_cons_zero, List.set_cons_succ]
                    refine wpAnyH_take (i := 19) (v := ?_) rfl (by kernel_rfl) (by kernel_rfl) (by kernel_rfl) (fun _ _ _ h => h) (Or.inl ⟨by rfl, ?_⟩) hHeld ?_
                    rotate_left
                    · (intro w hSw; go_simp <;> with_reducible rfl)
                    change wpAnyH _ _ _ _ _ _ _ (Act.put _ (some 59) _) _
                    try simp only [Act.put, List.setIfInBounds_toArray, List.set_cons_zero, List.set_cons_succ]
                    refine wpAnyH_take (i := 20) (v := ?_) rfl (by kernel_rfl) (by kernel_rfl) (by kernel_rfl) (fun _ _ _ h => h) (Or.inl ⟨by rfl, ?_⟩) hHeld ?_
                    rotate_left
                    · (intro w hSw; go_simp <;> with_reducible rfl)
                    change wpAnyH _ _ _ _ _ _ _ (Act.put _ (some 60) _) _
                    try simp only [Act.put, List.setIfInBounds_toArray, List.set_cons_zero, List.set_cons_succ]
                    refine wpAnyH_take (i := 21) (v := ?_) rfl (by kernel_rfl) (by kernel_rfl) (by kernel_rfl) (fun _ _ _ h => h) (Or.inl ⟨by rfl, ?_⟩) hHeld ?_
                    rotate_left
                    · (intro w hSw; go_simp <;> with_reducible rfl)
                    change wpAnyH _ _ _ _ _ _ _ (Act.put _ (some 61) _) _
                    try simp only [Act.put, List.setIfInBounds_toArray, List.set_cons_zero, List.set_cons_succ]
                    refine wpAnyH_take (i := 22) (v := ?_) rfl (by kernel_rfl) (by kernel_rfl) (by kernel_rfl) (fun _ _ _ h => h) (Or.inl ⟨by rfl, ?_⟩) hHeld ?_
                    rotate_left
                    · (intro w hSw; go_simp <;> with_reducible rfl)
                    change wpAnyH _ _ _ _ _ _ _ (Act.put _ (some 62) _) _
                    try simp only [Act.put, List.setIfInBounds_toArray, List.set_cons_zero, List.set_cons_succ]
                    refine wpAnyH_take (i := 23) (v := ?_) rfl (by kernel_rfl) (by kernel_rfl) (by kernel_rfl) (fun _ _ _ h => h) (Or.inl ⟨by rfl, ?_⟩) hHeld ?_
                    rotate_left
                    · (intro w hSw; go_simp <;> with_reducible rfl)
                    change wpAnyH _ _ _ _ _ _ _ (Act.put _ (some 63) _) _
                    try simp only [Act.put, List.setIfInBounds_toArray, List.set_cons_zero, List.set_cons_succ]
                    refine wpAnyH_take (i := 25) (v := ?_) rfl (by kernel_rfl) (by kernel_rfl) (by kernel_rfl) (fun _ _ _ h => h) (Or.inl ⟨by rfl, ?_⟩) hHeld ?_
                    rotate_left
                    · (intro w hSw; go_simp <;> with_reducible rfl)
                    change wpAnyH _ _ _ _ _ _ _ (Act.put _ (some 65) _) _
                    try simp only [Act.put, List.setIfInBounds_toArray, List.set_cons_zero, List.set_cons_succ]
                    refine wpAnyH_ready (rs := [24]) (by kernel_rfl) (by simp) ?_
                    refine AllReadyH.cons rfl (fun K hK => ?_) ?_
                    · go_simp
                      refine hK.out _ _ (below_al hHeld (Nat.le_refl _) _) (fun hHeld => ?_)
                      clear hK K
                      try simp only [Act.put, List.setIfInBounds_toArray, List.set_cons_zero, List.set_cons_succ]
                      have c27 : (wq.alloc (.cells #[.int .i64 0, .int .i64 24, .int .i64 60] 3)).cell? ⟨wq.heap.size, k, none⟩ = some (.int .i64 60) := by rw [HK.out]; simp
                      refine wpAnyH_take (i := 26) (v := ?_) rfl (by kernel_rfl) (by kernel_rfl) (by kernel_rfl) (fun _ _ _ h => h) (Or.inl ⟨by rfl, ?_⟩) hHeld ?_
                      rotate_left
                      · (intro w hSw; go_simp <;> with_reducible rfl)
                      change wpAnyH _ _ _ _ _ _ _ (Act.put _ (some 66) _) _
                      try simp only [Act.put, List.setIfInBounds_toArray, List.set_cons_zero, List.set_cons_succ]
                      refine wpAnyH_ready (rs := [27]) (by kernel_rfl) (by simp) ?_
                      refine AllReadyH.cons rfl (fun K hK => ?_) ?_
                      · go_simp
                        refine hK.out _ _ (hHeld) (fun hHeld => ?_)
                        clear hK K
                        try simp only [Act.put, List.setIfInBounds_toArray, List.set_cons_zero, List.set_cons_succ]
                        refine wpAnyH_take (i := 28) (v := ?_) rfl (by kernel_rfl) (by kernel_rfl) (by kernel_rfl) (fun _ _ _ h => h) (Or.inl ⟨by rfl, ?_⟩) hHeld ?_
                        rotate_left
                        · (intro w hSw; go_simp <;> with_reducible rfl)
                        change wpAnyH _ _ _ _ _ _ _ (Act.put _ (some 68) _) _
                        try simp only [Act.put, List.setIfInBounds_toArray, List.set_cons_zero, List.set_cons_succ]
                        refine wpAnyH_take (i := 29) (v := ?_) rfl (by kernel_rfl) (by kernel_rfl) (by kernel_rfl) (fun _ _ _ h => h) (Or.inl ⟨by rfl, ?_⟩) hHeld ?_
                        rotate_left
                        · (intro w hSw; go_simp <;> with_reducible rfl)
                        change wpAnyH _ _ _ _ _ _ _ (Act.put _ (some 69) _) _
                        try simp only [Act.put, List.setIfInBounds_toArray, List.set_cons_zero, List.set_cons_succ]
                        refine wpAnyH_take (i := 30) (v := ?_) rfl (by kernel_rfl) (by kernel_rfl) (by kernel_rfl) (fun _ _ _ h => h) (Or.inl ⟨by rfl, ?_⟩) hHeld ?_
                        rotate_left
                        · (intro w hSw; go_simp <;> with_reducible rfl)
                        change wpAnyH _ _ _ _ _ _ _ (Act.put _ (some 70) _) _
                        try simp only [Act.put, List.setIfInBounds_toArray, List.set_cons_zero, List.set_cons_succ]
                        refine wpAnyH_take (i := 31) (v := ?_) rfl (by kernel_rfl) (by kernel_rfl) (by kernel_rfl) (fun _ _ _ h => h) (Or.inl ⟨by rfl, ?_⟩) hHeld ?_
                        rotate_left
                        · (intro w hSw; go_simp <;> with_reducible rfl)
                        change wpAnyH _ _ _ _ _ _ _ (Act.put _ (some 71) _) _
                        try simp only [Act.put, List.setIfInBounds_toArray, List.set_cons_zero, List.set_cons_succ]
                        refine wpAnyH_take (i := 32) (v := undef) rfl (by kernel_rfl) (by kernel_rfl) (by kernel_rfl) (fun _ _ _ h => h) (Or.inr ⟨by rfl, rfl⟩) hHeld ?_
                        change wpAnyH _ _ _ _ _ _ _ (Act.put _ (some 72) _) _
                        try simp only [Act.put, List.setIfInBounds_toArray, List.set_cons_zero, List.set_cons_succ]
                        refine wpAnyH_take (i := 33) (v := undef) rfl (by kernel_rfl) (by kernel_rfl) (by kernel_rfl) (fun _ _ _ h => h) (Or.inr ⟨by rfl, rfl⟩) hHeld ?_
                        change wpAnyH _ _ _ _ _ _ _ (Act.put _ (some 73) _) _
                        try simp only [Act.put, List.setIfInBounds_toArray, List.set_cons_zero, List.set_cons_succ]
                        refine wpAnyH_take (i := 34) (v := undef) rfl (by kernel_rfl) (by kernel_rfl) (by kernel_rfl) (fun _ _ _ h => h) (Or.inr ⟨by rfl, rfl⟩) hHeld ?_
                        change wpAnyH _ _ _ _ _ _ _ (Act.put _ (some 74) _) _
                        try simp only [Act.put, List.setIfInBounds_toArray, List.set_cons_zero, List.set_cons_succ]
                        refine wpAnyH_take (i := 35) (v := undef) rfl (by kernel_rfl) (by kernel_rfl) (by kernel_rfl) (fun _ _ _ h => h) (Or.inr ⟨by rfl, rfl⟩) hHeld ?_
                        change wpAnyH _ _ _ _ _ _ _ (Act.put _ (some 75) _) _
                        try simp only [Act.put, List.setIfInBounds_toArray, List.set_cons_zero, List.set_cons_succ]
                        refine wpAnyH_take (i := 36) (v := undef) rfl (by kernel_rfl) (by kernel_rfl) (by kernel_rfl) (fun _ _ _ h => h) (Or.inr ⟨by rfl, rfl⟩) hHeld ?_
                        change wpAnyH _ _ _ _ _ _ _ (Act.put _ (some 76) _) _
                        try simp only [Act.put, List.setIfInBounds_toArray, List.set_cons_zero, List.set_cons_succ]
                        refine wpAnyH_take (i := 37) (v := undef) rfl (by kernel_rfl) (by kernel_rfl) (by kernel_rfl) (fun _ _ _ h => h) (Or.inr ⟨by rfl, rfl⟩) hHeld ?_
                        change wpAnyH _ _ _ _ _ _ _ (Act.put _ (some 77) _) _
                        try simp only [Act.put, List.setIfInBounds_toArray, List.set_cons_zero, List.set_cons_succ]
                        refine wpAnyH_take (i := 38) (v := ?_) rfl (by kernel_rfl) (by kernel_rfl) (by kernel_rfl) (fun _ _ _ h => h) (Or.inl ⟨by rfl, ?_⟩) hHeld ?_
                        rotate_left
                        · (intro w hSw; go_simp <;> with_reducible rfl)
                        change wpAnyH _ _ _ _ _ _ _ (Act.put _ (some 78) _) _
                        try simp only [Act.put, List.setIfInBounds_toArray, List.set_cons_zero, List.set_cons_succ]
                        refine wpAnyH_done (by kernel_rfl) ?_ _
                        (try dsimp only [Act.put])
                        try simp only [Act.put, List.setIfInBounds_toArray, List.set_cons_zero, List.set_cons_succ]
                        clear f1 f2 f2b f4 f7 f7b i3 i3b hneg hkn hi nb1 nb2 k0 f5
                        go_wp2
                        go_meet
                        exact ⟨by rw [EB.out], hHeld⟩
                      exact AllReadyH.nil
                    exact AllReadyH.nil
                  exact AllReadyH.nil
                · have HLM := Lib.hid (show limN k = 60 by rw [limN, if_neg (by omega)])
                  have f7 : decide ((0 : Int) < (k : Int)) = true := decide_eq_true (by omega)
                  have f7b : decide (0 < k) = true := decide_eq_true (by omega)
                  have i3 : (k : Int) < 3 := by omega
                  have i3b : k < 3 := by omega
                  have f5 : decide ((60 : Int) ≤ n) = false := decide_eq_false hl
                  have EB := Lib.hid (show bad = false by rw [BD.out]; exact decide_eq_false (fun hx => by rcases hx with h | h | h | ⟨h, h'⟩ | ⟨h, h'⟩; exact h hi; exact hneg h; exact hkn h; exact hl (by rw [HLM.out] at h'; exact h'); exact hn0 h))
                  have HK := Lib.hid hk2; clear hk2
                  clear hn0 hl
                  refine wp_region_held_drew (S := (fun w' => Below w3.heap.size w3 w')) (by kernel_rfl) (Below.refl _ _).drew (fun hHeld => ?_)
                  refine wpAnyH_take (i := 0) (v := ?_) rfl (by kernel_rfl) (by kernel_rfl) (by kernel_rfl) (fun _ _ _ h => h) (Or.inl ⟨by rfl, ?_⟩) hHeld ?_
                  rotate_left
                  · (intro w hSw; go_simp <;> with_reducible rfl)
                  change wpAnyH _ _ _ _ _ _ _ (Act.put _ (some 40) _) _
                  try simp only [Act.put, List.setIfInBounds_toArray, List.set_cons_zero, List.set_cons_succ]
                  refine wpAnyH_take (i := 1) (v := ?_) rfl (by kernel_rfl) (by kernel_rfl) (by kernel_rfl) (fun _ _ _ h => h) (Or.inl ⟨by rfl, ?_⟩) hHeld ?_
                  rotate_left
                  · (intro w hSw; go_simp <;> with_reducible rfl)
                  change wpAnyH _ _ _ _ _ _ _ (Act.put _ (some 41) _) _
                  try simp only [Act.put, List.setIfInBounds_toArray, List.set_cons_zero, List.set_cons_succ]
                  refine wpAnyH_take (i := 2) (v := ?_) rfl (by kernel_rfl) (by kernel_rfl) (by kernel_rfl) (fun _ _ _ h => h) (Or.inl ⟨by rfl, ?_⟩) hHeld ?_
                  rotate_left
                  · (intro w hSw; go_simp <;> with_reducible rfl)
                  change wpAnyH _ _ _ _ _ _ _ (Act.put _ (some 42) _) _
                  try simp only [Act.put, List.setIfInBounds_toArray, List.set_cons_zero, List.set_cons_succ]
                  refine wpAnyH_take (i := 3) (v := ?_) rfl (by kernel_rfl) (by kernel_rfl) (by kernel_rfl) (fun _ _ _ h => h) (Or.inl ⟨by rfl, ?_⟩) hHeld ?_
                  rotate_left
                  · (intro w hSw; go_simp <;> with_reducible rfl)
                  change wpAnyH _ _ _ _ _ _ _ (Act.put _ (some 43) _) _
                  try simp only [Act.put, List.setIfInBounds_toArray, List.set_cons_zero, List.set_cons_succ]
                  refine wpAnyH_take (i := 5) (v := ?_) rfl (by kernel_rfl) (by kernel_rfl) (by kernel_rfl) (fun _ _ _ h => h) (Or.inl ⟨by rfl, ?_⟩) hHeld ?_
                  rotate_left
                  · (intro w hSw; go_simp <;> with_reducible rfl)
                  change wpAnyH _ _ _ _ _ _ _ (Act.put _ (some 45) _) _
                  try simp only [Act.put, List.setIfInBounds_toArray, List.set_cons_zero, List.set_cons_succ]
                  refine wpAnyH_take (i := 6) (v := ?_) rfl (by kernel_rfl) (by kernel_rfl) (by kernel_rfl) (fun _ _ _ h => h) (Or.inl ⟨by rfl, ?_⟩) hHeld ?_
                  rotate_left
                  · (intro w hSw; go_simp <;> with_reducible rfl)
                  change wpAnyH _ _ _ _ _ _ _ (Act.put _ (some 46) _) _
                  try simp only [Act.put, List.setIfInBounds_toArray, List.set_cons_zero, List.set_cons_succ]
                  refine wpAnyH_take (i := 7) (v := ?_) rfl (by kernel_rfl) (by kernel_rfl) (by kernel_rfl) (fun _ _ _ h => h) (Or.inl ⟨by rfl, ?_⟩) hHeld ?_
                  rotate_left
                  · (intro w hSw; go_simp <;> with_reducible rfl)
                  change wpAnyH _ _ _ _ _ _ _ (Act.put _ (some 47) _) _
                  try simp only [Act.put, List.setIfInBounds_toArray, List.set_cons_zero, List.set_cons_succ]
                  refine wpAnyH_ready (rs := [4]) (by kernel_rfl) (by simp) ?_
                  refine AllReadyH.cons rfl (fun K hK => ?_) ?_
                  · go_simp; go_at_call 37; (with_reducible refine (IT.out _ hHeld).mono ?_); rintro e wq ⟨rfl, hbq⟩; (try go_wp2_with fail)
                    refine hK.out _ _ (below_nx hHeld hbq) (fun hHeld => ?_)
                    clear hK K
                    try simp only [Act.put, List.setIfInBounds_toArray, List.set_cons_zero, List.set_cons_succ]
                    clear hbq
                    refine wpAnyH_take (i := 8) (v := ?_) rfl (by kernel_rfl) (by kernel_rfl) (by kernel_rfl) (fun _ _ _ h => h) (Or.inl ⟨by rfl, ?_⟩) hHeld ?_
                    rotate_left
                    · (intro w hSw; go_simp <;> with_reducible rfl)
                    change wpAnyH _ _ _ _ _ _ _ (Act.put _ (some 48) _) _
                    try simp only [Act.put, List.setIfInBounds_toArray, List.set_cons_zero, List.set_cons_succ]
                    refine wpAnyH_take (i := 9) (v := ?_) rfl (by kernel_rfl) (by kernel_rfl) (by kernel_rfl) (fun _ _ _ h => h) (Or.inl ⟨by rfl, ?_⟩) hHeld ?_
                    rotate_left
                    · (intro w hSw; go_simp <;> with_reducible rfl)
                    change wpAnyH _ _ _ _ _ _ _ (Act.put _ (some 49) _) _
                    try simp only [Act.put, List.setIfInBounds_toArray, List.set_cons_zero, List.set_cons_succ]
                    refine wpAnyH_take (i := 10) (v := ?_) rfl (by kernel_rfl) (by kernel_rfl) (by kernel_rfl) (fun _ _ _ h => h) (Or.inl ⟨by rfl, ?_⟩) hHeld ?_
                    rotate_left
                    · (intro w hSw; go_simp <;> with_reducible rfl)
                    change wpAnyH _ _ _ _ _ _ _ (Act.put _ (some 50) _) _
                    try simp only [Act.put, List.setIfInBounds_toArray, List.set_cons_zero, List.set_cons_succ]
                    refine wpAnyH_take (i := 11) (v := ?_) rfl (by kernel_rfl) (by kernel_rfl) (by kernel_rfl) (fun _ _ _ h => h) (Or.inl ⟨by rfl, ?_⟩) hHeld ?_
                    rotate_left
                    · (intro w hSw; go_simp <;> with_reducible rfl)
                    change wpAnyH _ _ _ _ _ _ _ (Act.put _ (some 51) _) _
                    try simp only [Act.put, List.setIfInBounds_toArray, List.set_cons_zero, List.set_cons_succ]
                    refine wpAnyH_take (i := 12) (v := ?_) rfl (by kernel_rfl) (by kernel_rfl) (by kernel_rfl) (fun _ _ _ h => h) (Or.inl ⟨by rfl, ?_⟩) hHeld ?_
                    rotate_left
                    · (intro w hSw; go_simp <;> with_reducible rfl)
                    change wpAnyH _ _ _ _ _ _ _ (Act.put _ (some 52) _) _
                    try simp only [Act.put, List.setIfInBounds_toArray, List.set_cons_zero, List.set_cons_succ]
                    refine wpAnyH_take (i := 13) (v := ?_) rfl (by kernel_rfl) (by kernel_rfl) (by kernel_rfl) (fun _ _ _ h => h) (Or.inl ⟨by rfl, ?_⟩) hHeld ?_
                    rotate_left
                    · (intro w hSw; go_simp <;> with_reducible rfl)
                    change wpAnyH _ _ _ _ _ _ _ (Act.put _ (some 53) _) _
                    try simp only [Act.put, List.setIfInBounds_toArray, List.set_cons_zero, List.set_cons_succ]
                    refine wpAnyH_take (i := 14) (v := ?_) rfl (by kernel_rfl) (by kernel_rfl) (by kernel_rfl) (fun _ _ _ h => h) (Or.inl ⟨by rfl, ?_⟩) hHeld ?_
                    rotate_left
                    · (intro w hSw; go_simp <;> with_reducible rfl)
                    change wpAnyH _ _ _ _ _ _ _ (Act.put _ (some 54) _) _
                    try simp only [Act.put, List.setIfInBounds_toArray, List.set_cons_zero, List.set_cons_succ]
                    refine wpAnyH_take (i := 15) (v := ?_) rfl (by kernel_rfl) (by kernel_rfl) (by kernel_rfl) (fun _ _ _ h => h) (Or.inl ⟨by rfl, ?_⟩) hHeld ?_
                    rotate_left
                    · (intro w hSw; go_simp <;> with_reducible rfl)
                    change wpAnyH _ _ _ _ _ _ _ (Act.put _ (some 55) _) _
                    try simp only [Act.put, List.setIfInBounds_toArray, List.set_cons_zero, List.set_cons_succ]
                    refine wpAnyH_take (i := 16) (v := ?_) rfl (by kernel_rfl) (by kernel_rfl) (by kernel_rfl) (fun _ _ _ h => h) (Or.inl ⟨by rfl, ?_⟩) hHeld ?_
                    rotate_left
                    · (intro w hSw; go_simp <;> with_reducible rfl)
                    change wpAnyH _ _ _ _ _ _ _ (Act.put _ (some 56) _) _
                    try simp only [Act.put, List.setIfInBounds_toArray, List.set_cons_zero, List.set_cons_succ]
                    refine wpAnyH_take (i := 17) (v := ?_) rfl (by kernel_rfl) (by kernel_rfl) (by kernel_rfl) (fun _ _ _ h => h) (Or.inl ⟨by rfl, ?_⟩) hHeld ?_
                    rotate_left
                    · (intro w hSw; go_simp <;> with_reducible rfl)
                    change wpAnyH _ _ _ _ _ _ _ (Act.put _ (some 57) _) _
                    try simp only [Act.put, List.setIfInBounds_toArray, List.set_cons_zero, List.set_cons_succ]
                    refine wpAnyH_take (i := 18) (v := ?_) rfl (by kernel_rfl) (by kernel_rfl) (by kernel_rfl) (fun _ _ _ h => h) (Or.inl ⟨by rfl, ?_⟩) hHeld ?_
                    rotate_left
                    · (intro w hSw; go_simp <;> with_reducible rfl)
                    change wpAnyH _ _ _ _ _ _ _ (Act.put _ (some 58) _) _
                    try simp only [Act.put, List.setIfInBounds_toArray, List.set_cons_zero, List.set_cons_succ]
                    refine wpAnyH_take (i := 19) (v := ?_) rfl (by kernel_rfl) (by kernel_rfl) (by kernel_rfl) (fun _ _ _ h => h) (Or.inl ⟨by rfl, ?_⟩) hHeld ?_
                    rotate_left
                    · (intro w hSw; go_simp <;> with_reducible rfl)
                    change wpAnyH _ _ _ _ _ _ _ (Act.put _ (some 59) _) _
                    try simp only [Act.put, List.setIfInBounds_toArray, List.set_cons_zero, List.set_cons_succ]
                    refine wpAnyH_take (i := 20) (v := ?_) rfl (by kernel_rfl) (by kernel_rfl) (by kernel_rfl) (fun _ _ _ h => h) (Or.inl ⟨by rfl, ?_⟩) hHeld ?_
                    rotate_left
                    · (intro w hSw; go_simp <;> with_reducible rfl)
                    change wpAnyH _ _ _ _ _ _ _ (Act.put _ (some 60) _) _
                    try simp only [Act.put, List.setIfInBounds_toArray, List.set_cons_zero, List.set_cons_succ]
                    refine wpAnyH_take (i := 21) (v := ?_) rfl (by kernel_rfl) (by kernel_rfl) (by kernel_rfl) (fun _ _ _ h => h) (Or.inl ⟨by rfl, ?_⟩) hHeld ?_
                    rotate_left
                    · (intro w hSw; go_simp <;> with_reducible rfl)
                    change wpAnyH _ _ _ _ _ _ _ (Act.put _ (some 61) _) _
                    try simp only [Act.put, List.setIfInBounds_toArray, List.set_cons_zero, List.set_cons_succ]
                    refine wpAnyH_take (i := 22) (v := ?_) rfl (by kernel_rfl) (by kernel_rfl) (by kernel_rfl) (fun _ _ _ h => h) (Or.inl ⟨by rfl, ?_⟩) hHeld ?_
                    rotate_left
                    · (intro w hSw; go_simp <;> with_reducible rfl)
                    change wpAnyH _ _ _ _ _ _ _ (Act.put _ (some 62) _) _
                    try simp only [Act.put, List.setIfInBounds_toArray, List.set_cons_zero, List.set_cons_succ]
                    refine wpAnyH_take (i := 23) (v := ?_) rfl (by kernel_rfl) (by kernel_rfl) (by kernel_rfl) (fun _ _ _ h => h) (Or.inl ⟨by rfl, ?_⟩) hHeld ?_
                    rotate_left
                    · (intro w hSw; go_simp <;> with_reducible rfl)
                    change wpAnyH _ _ _ _ _ _ _ (Act.put _ (some 63) _) _
                    try simp only [Act.put, List.setIfInBounds_toArray, List.set_cons_zero, List.set_cons_succ]
                    refine wpAnyH_take (i := 25) (v := ?_) rfl (by kernel_rfl) (by kernel_rfl) (by kernel_rfl) (fun _ _ _ h => h) (Or.inl ⟨by rfl, ?_⟩) hHeld ?_
                    rotate_left
                    · (intro w hSw; go_simp <;> with_reducible rfl)
                    change wpAnyH _ _ _ _ _ _ _ (Act.put _ (some 65) _) _
                    try simp only [Act.put, List.setIfInBounds_toArray, List.set_cons_zero, List.set_cons_succ]
                    refine wpAnyH_ready (rs := [24]) (by kernel_rfl) (by simp) ?_
                    refine AllReadyH.cons rfl (fun K hK => ?_) ?_
                    · go_simp
                      refine hK.out _ _ (below_al hHeld (Nat.le_refl _) _) (fun hHeld => ?_)
                      clear hK K
                      try simp only [Act.put, List.setIfInBounds_toArray, List.set_cons_zero, List.set_cons_succ]
                      have c27 : (wq.alloc (.cells #[.int .i64 0, .int .i64 24, .int .i64 60] 3)).cell? ⟨wq.heap.size, k, none⟩ = some (.int .i64 60) := by rw [HK.out]; simp
                      refine wpAnyH_take (i := 26) (v := ?_) rfl (by kernel_rfl) (by kernel_rfl) (by kernel_rfl) (fun _ _ _ h => h) (Or.inl ⟨by rfl, ?_⟩) hHeld ?_
                      rotate_left
                      · (intro w hSw; go_simp <;> with_reducible rfl)
                      change wpAnyH _ _ _ _ _ _ _ (Act.put _ (some 66) _) _
                      try simp only [Act.put, List.setIfInBounds_toArray, List.set_cons_zero, List.set_cons_succ]
                      refine wpAnyH_ready (rs := [27]) (by kernel_rfl) (by simp) ?_
                      refine AllReadyH.cons rfl (fun K hK => ?_) ?_
                      · go_simp
                        refine hK.out _ _ (hHeld) (fun hHeld => ?_)
                        clear hK K
                        try simp only [Act.put, List.setIfInBounds_toArray, List.set_cons_zero, List.set_cons_succ]
                        refine wpAnyH_take (i := 28) (v := ?_) rfl (by kernel_rfl) (by kernel_rfl) (by kernel_rfl) (fun _ _ _ h => h) (Or.inl ⟨by rfl, ?_⟩) hHeld ?_
                        rotate_left
                        · (intro w hSw; go_simp <;> with_reducible rfl)
                        change wpAnyH _ _ _ _ _ _ _ (Act.put _ (some 68) _) _
                        try simp only [Act.put, List.setIfInBounds_toArray, List.set_cons_zero, List.set_cons_succ]
                        refine wpAnyH_take (i := 29) (v := ?_) rfl (by kernel_rfl) (by kernel_rfl) (by kernel_rfl) (fun _ _ _ h => h) (Or.inl ⟨by rfl, ?_⟩) hHeld ?_
                        rotate_left
                        · (intro w hSw; go_simp <;> with_reducible rfl)
                        change wpAnyH _ _ _ _ _ _ _ (Act.put _ (some 69) _) _
                        try simp only [Act.put, List.setIfInBounds_toArray, List.set_cons_zero, List.set_cons_succ]
                        refine wpAnyH_take (i := 30) (v := ?_) rfl (by kernel_rfl) (by kernel_rfl) (by kernel_rfl) (fun _ _ _ h => h) (Or.inl ⟨by rfl, ?_⟩) hHeld ?_
                        rotate_left
                        · (intro w hSw; go_simp <;> with_reducible rfl)
                        change wpAnyH _ _ _ _ _ _ _ (Act.put _ (some 70) _) _
                        try simp only [Act.put, List.setIfInBounds_toArray, List.set_cons_zero, List.set_cons_succ]
                        refine wpAnyH_take (i := 31) (v := ?_) rfl (by kernel_rfl) (by kernel_rfl) (by kernel_rfl) (fun _ _ _ h => h) (Or.inl ⟨by rfl, ?_⟩) hHeld ?_
                        rotate_left
                        · (intro w hSw; go_simp <;> with_reducible rfl)
                        change wpAnyH _ _ _ _ _ _ _ (Act.put _ (some 71) _) _
                        try simp only [Act.put, List.setIfInBounds_toArray, List.set_cons_zero, List.set_cons_succ]
                        refine wpAnyH_take (i := 32) (v := ?_) rfl (by kernel_rfl) (by kernel_rfl) (by kernel_rfl) (fun _ _ _ h => h) (Or.inl ⟨by rfl, ?_⟩) hHeld ?_
                        rotate_left
                        · (intro w hSw; go_simp <;> with_reducible rfl)
                        change wpAnyH _ _ _ _ _ _ _ (Act.put _ (some 72) _) _
                        try simp only [Act.put, List.setIfInBounds_toArray, List.set_cons_zero, List.set_cons_succ]
                        refine wpAnyH_take (i := 33) (v := ?_) rfl (by kernel_rfl) (by kernel_rfl) (by kernel_rfl) (fun _ _ _ h => h) (Or.inl ⟨by rfl, ?_⟩) hHeld ?_
                        rotate_left
                        · (intro w hSw; go_simp <;> with_reducible rfl)
                        change wpAnyH _ _ _ _ _ _ _ (Act.put _ (some 73) _) _
                        try simp only [Act.put, List.setIfInBounds_toArray, List.set_cons_zero, List.set_cons_succ]
                        refine wpAnyH_take (i := 34) (v := ?_) rfl (by kernel_rfl) (by kernel_rfl) (by kernel_rfl) (fun _ _ _ h => h) (Or.inl ⟨by rfl, ?_⟩) hHeld ?_
                        rotate_left
                        · (intro w hSw; go_simp <;> with_reducible rfl)
                        change wpAnyH _ _ _ _ _ _ _ (Act.put _ (some 74) _) _
                        try simp only [Act.put, List.setIfInBounds_toArray, List.set_cons_zero, List.set_cons_succ]
                        refine wpAnyH_take (i := 35) (v := undef) rfl (by kernel_rfl) (by kernel_rfl) (by kernel_rfl) (fun _ _ _ h => h) (Or.inr ⟨by rfl, rfl⟩) hHeld ?_
                        change wpAnyH _ _ _ _ _ _ _ (Act.put _ (some 75) _) _
                        try simp only [Act.put, List.setIfInBounds_toArray, List.set_cons_zero, List.set_cons_succ]
                        refine wpAnyH_take (i := 36) (v := undef) rfl (by kernel_rfl) (by kernel_rfl) (by kernel_rfl) (fun _ _ _ h => h) (Or.inr ⟨by rfl, rfl⟩) hHeld ?_
                        change wpAnyH _ _ _ _ _ _ _ (Act.put _ (some 76) _) _
                        try simp only [Act.put, List.setIfInBounds_toArray, List.set_cons_zero, List.set_cons_succ]
                        refine wpAnyH_take (i := 37) (v := ?_) rfl (by kernel_rfl) (by kernel_rfl) (by kernel_rfl) (fun _ _ _ h => h) (Or.inl ⟨by rfl, ?_⟩) hHeld ?_
                        rotate_left
                        · (intro w hSw; go_simp <;> with_reducible rfl)
                        change wpAnyH _ _ _ _ _ _ _ (Act.put _ (some 77) _) _
                        try simp only [Act.put, List.setIfInBounds_toArray, List.set_cons_zero, List.set_cons_succ]
                        refine wpAnyH_take (i := 38) (v := ?_) rfl (by kernel_rfl) (by kernel_rfl) (by kernel_rfl) (fun _ _ _ h => h) (Or.inl ⟨by rfl, ?_⟩) hHeld ?_
                        rotate_left
                        · (intro w hSw; go_simp <;> with_reducible rfl)
                        change wpAnyH _ _ _ _ _ _ _ (Act.put _ (some 78) _) _
                        try simp only [Act.put, List.setIfInBounds_toArray, List.set_cons_zero, List.set_cons_succ]
                        refine wpAnyH_done (by kernel_rfl) ?_ _
                        (try dsimp only [Act.put])
                        try simp only [Act.put, List.setIfInBounds_toArray, List.set_cons_zero, List.set_cons_succ]
                        clear f1 f2 f2b f4 f7 f7b i3 i3b hneg hkn hi nb1 nb2 k0 f5
                        go_wp2
                        go_meet
                        exact ⟨by rw [EB.out], hHeld⟩
                      exact AllReadyH.nil
                    exact AllReadyH.nil
                  exact AllReadyH.nil
          · have v1 : ¬ (bs (Lib.itoa n)).toList = (S.extract 0 P.length).toList := by rw [PX.out, bs_toList, bs_toList]; exact hi
            have v2 : ¬ bs (Lib.itoa n) = S.extract 0 P.length := fun h => v1 (by rw [h])
            obtain ⟨Y, hY⟩ : ∃ Y, Y = bs (Lib.itoa n) := ⟨_, rfl⟩
            rw [← hY] at v1 v2 IT
            have v3 : (Y.toList == (S.extract 0 P.length).toList) = false := by rw [beq_eq_false_iff_ne]; exact v1
            clear hY
            have EB := Lib.hid (show bad = true by rw [BD.out]; exact decide_eq_true (.inl hi))
            have cI := fun dd os => Calls.regrown_of (IT.out (Go.Sort.grow (redrawn w3 dd) os) (below_regrown w3 dd os))
            refine wp_region_quiet_below (by kernel_rfl) (by kernel_rfl) ?_
            repeat (go_big_quiet_step (with_reducible exact cI _ _))
            refine wpQuiet_nil ?_
            intro _ hw'
            obtain ⟨⟨dq, osq⟩, hw''⟩ := hw'
            have hb4 := below_regrown w3 dq osq
            simp only [] at hw''
            rw [← hw''] at hb4
            clear hw'' cI
            go_wp2
            go_meet
            exact ⟨by rw [EB.out], hb4⟩
        case rest =>
        obtain ⟨rfl, hb4⟩ := hcut
        obtain ⟨w4, rfl⟩ : ∃ x, x = wc := ⟨_, rfl⟩
        have B4 := Lib.hid (B3.out.trans (hb4.mono B3.out.size))
        have D4 := Lib.hid (dat3_below D3.out hb4)
        clear hb4 IT
        cases bad
        case true =>
          have SR := Lib.hid (BY.out rfl)
          go_wp2
          go_ret2
          exact ⟨_, SR.out, rfl, B4.out⟩
        case false =>
          obtain ⟨m, hnm, hm9, K0, K1, K2⟩ := invS_next IV.out hP hk l2 BD.out.symm HA.out ZP.out
          have KK0 := Lib.hid K0; have KK1 := Lib.hid K1; have KK2 := Lib.hid K2
          have m0 : (0 : Int) ≤ (m : Int) := Int.natCast_nonneg _
          have m9 : (m : Int) < 1000000000 := by omega
          subst hnm
          have RL : r.length ≤ 9223372036854775807 := by have := LEN.out; omega
          have GL : r.length < gk := by rw [G.out, LEN.out]; omega
          clear K0 K1 K2 nb1 nb2 hP
          have q1 : IntKind.i64.wrap ((P.length : Int) + 1) = (P.length : Int) + 1 := IntWalk.i64_in _ (by omega)
          have q2 : (0 : Int) ≤ (P.length : Int) + 1 := by omega
          have q3 : ((P.length : Int) + 1).toNat = P.length + 1 := by omega
          have q4 : (P.length : Int) + 1 ≤ (S.size : Int) := by omega
          have q5 : P.length + 1 ≤ S.size := by omega
          have hk3 : k = 0 ∨ k = 1 ∨ k = 2 := by omega
          obtain ⟨z0, z1, z2, z3, z4, z5⟩ := D4.out
          rcases hk3 with rfl | rfl | rfl
          · have s1 : IntKind.i64.wrap ((((0 : Nat) : Int)) + 1) = 1 := IntWalk.i64_in _ (by omega)
            have D5 := Lib.hid (dat3_put0 (v := (m : Int)) D4.out)
            go_upto_region 12 with fail
            go_region_held3 (fun _ => True)
              (trivial)
              (first | fail)
            go_wp2
            go_roundg r.length
            case measure => exact GL
            case rel => exact ⟨r, _, 1, m, p1, p2, rfl, rfl, RX, by omega, hm9, h1, h2, rfl, Lib.hid (dat3_drew D5.out), Lib.hid ((KK0.out (by first | rfl | trivial)).1), Lib.hid ⟨fun h => absurd h (by omega), fun _ => (KK0.out (by first | rfl | trivial)).2.1, fun _ => (KK0.out (by first | rfl | trivial)).2.2⟩, RL, below_st1 B4.out (by rw [PB.out]; exact Nat.le_refl _)⟩
          · have s1 : IntKind.i64.wrap ((((1 : Nat) : Int)) + 1) = 2 := IntWalk.i64_in _ (by omega)
            have D5 := Lib.hid (dat3_put1 (v := (m : Int)) D4.out)
            go_upto_region 12 with fail
            go_region_held3 (fun _ => True)
              (trivial)
              (first | fail)
            go_wp2
            go_roundg r.length
            case measure => exact GL
            case rel => exact ⟨r, _, 2, p0, m, p2, rfl, rfl, RX, by omega, h0, hm9, h2, rfl, Lib.hid (dat3_drew D5.out), Lib.hid ((KK1.out (by first | rfl | trivial)).1), Lib.hid ⟨fun h => absurd h (by omega), fun h => absurd h (by omega), fun _ => (KK1.out (by first | rfl | trivial)).2⟩, RL, below_st1 B4.out (by rw [PB.out]; exact Nat.le_refl _)⟩
          · have s1 : IntKind.i64.wrap ((((2 : Nat) : Int)) + 1) = 3 := IntWalk.i64_in _ (by omega)
            have D5 := Lib.hid (dat3_put2 (v := (m : Int)) D4.out)
            go_upto_region 12 with fail
            go_region_held3 (fun _ => True)
              (trivial)
              (first | fail)
            go_wp2
            go_roundg r.length
            case measure => exact GL
            case rel => exact ⟨r, _, 3, p0, p1, m, rfl, rfl, RX, by omega, h0, h1, hm9, rfl, Lib.hid (dat3_drew D5.out), Lib.hid (KK2.out (by first | rfl | trivial)), Lib.hid ⟨fun h => absurd h (by omega), fun h => absurd h (by omega), fun h => absurd h (by omega)⟩, RL, below_st1 B4.out (by rw [PB.out]; exact Nat.le_refl _)⟩

end Go.Proofs.YtiihkdefhhdfnaaGreatDoor
