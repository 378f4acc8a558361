/- The reference's Fold, Unfold, Pair: their contracts. Conditions: at most 1048576 bytes in all. -/
import Derived.Test.YtdpngbjlljgoaaaDoorRefL
import Derived.Deep.QuietTactic
import Derived.BigQuiet
namespace Go.Proofs.YtdpngbjlljgoaaaDoor
open Go.RowKit Go.Shelf
set_option linter.unusedSimpArgs false
set_option linter.unusedVariables false

set_option maxRecDepth 100000 in
set_option maxHeartbeats 2000000 in
theorem foldRef_any (l : List UInt8) (w : World) (hs : l.length ≤ 1048576) :
    Calls Tryd.prog 27 #[.string (bs l)] w fun e w' => ∃ v, e = .returned v ∧ StrsR w' v (foldL l) ∧ Below w.heap.size w w' := by
  obtain ⟨i0, hi, hz0, hz1, hz2⟩ := info_parts stringInfo
  obtain ⟨s, hs0⟩ : ∃ s, s = bs l := ⟨_, rfl⟩
  have hsz : s.size = l.length := by rw [hs0, bs_size]
  have SZ := Lib.hid hsz
  by_cases h40 : l.length ≤ 40
  · have h1 : s.size ≤ 40 := by omega
    have E := Lib.hid (show foldL l = [l] by rw [foldL, List.take_of_length_le h40, List.drop_of_length_le h40, foldRest_nil])
    rw [← hs0]
    have S0 := Lib.hid hs0
    clear hs0 hsz h40
    go_enter Tryd.func27, Tryd.ntmps27
    go_wp2
    go_ret
    exact ⟨_, rfl, by rw [E.out]; exact strsR_of_owns (L := [l]) (by rw [S0.out]; exact owns_one w _ _), (Below.refl _ _).alloc (Nat.le_refl _) _⟩
  · have h1 : 40 < s.size := by omega
    have hsl : s.size ≤ 1048576 := by omega
    have E0 := Lib.hid (show s.extract 0 40 = bs (l.take 40) by rw [hs0, bs_extract]; simp)
    rw [← hs0]
    have S0 := Lib.hid hs0
    clear hs0 hsz h40
    go_enter Tryd.func27, Tryd.ntmps27
    go_wp2
    go_loopg [3, 4] (s.size - 40) (fun g ov fv wr => ∃ (f : Nat) (done : List (List UInt8)), fv = .int .i64 f ∧ f ≤ s.size ∧ g = s.size - f ∧ wr.ownsRow w.heap.size 9 1 ov done.length (strs done) ∧ Hid (FoldAt l (l.drop f) done) ∧ Below w.heap.size w wr)
    case atStart => exact ⟨40, [l.take 40], rfl, by omega, rfl, by rw [E0.out]; exact owns_one w _ _, Lib.hid (foldAt_start l), (Below.refl _ _).alloc (Nat.le_refl _) _⟩
    case round =>
      obtain ⟨f, done, rfl, hf, hg, hown, F, hb⟩ := hrel
      have G := Lib.hid hg; clear hg
      have hbs := hb.size
      by_cases hlt : f < s.size
      · have hr : l.drop f ≠ [] := by
          rw [Ne, List.drop_eq_nil_iff]
          have := SZ.out
          omega
        have F2 := Lib.hid (foldAt_step F.out hr)
        have hd3 : done.length ≤ s.size + 39 := by
          have h2 := F.out.2.2 hr
          have := SZ.out
          omega
        clear hr
        have i1 : (0 : Int) ≤ (f : Int) := Int.natCast_nonneg _
        have i2 : (f : Int) < (s.size : Int) := by omega
        by_cases h39 : s.size < f + 39
        · have j1 : decide ((s.size : Int) < (f : Int) + 39) = true := decide_eq_true (by omega)
          have Y := Lib.hid (show ({ data := #[32] } : ByteArray) ++ s.extract f s.size = bs (32 :: (l.drop f).take 39) by
            rw [S0.out, bs_extract, show ({ data := #[32] } : ByteArray) = bs [32] from rfl, bs_append]
            have := SZ.out
            rw [List.take_of_length_le (by simp [bs_size]), List.take_of_length_le (by simp; omega)]; rfl)
          have Z := Lib.hid (show (l.drop f).drop 39 = l.drop s.size by
            have := SZ.out
            rw [List.drop_drop, List.drop_of_length_le (by omega), List.drop_of_length_le (by omega)])
          go_wp2_with (at_builtin; refine wpList_append_lies _ rfl _ _ 49 rfl w.heap.size 9 i0 _ 1 16 Tryd.underlying49 hi hz0 hz1 hz2 rfl (by decide) _ _ _ rfl (hown.alloc _) ⟨wr.heap.size, 0, none⟩ 1 1 [.string ({ data := #[32] } ++ s.extract f s.size)] rfl rfl ?c1 ?c2 (by decide) (by unfold maxLen; omega) (by omega) (by simp; omega) _ rfl ?_)
          case c1 => exact cell_one_new _ _ _
          case c2 => intro u hu; simp at hu; subst hu; rfl
          intro g cap w1 hown1 hgrow1 hat1 hlt1
          have hown2 : w1.ownsRow w.heap.size 9 1 (.slice (some ⟨g, 0, none⟩) (done.length + 1) cap) (done ++ [32 :: (l.drop f).take 39]).length (strs (done ++ [32 :: (l.drop f).take 39])) := by
            rw [strs_snoc, List.length_append, ← Y.out]; exact hown1
          have hb1 : Below w.heap.size w w1 := (hb.alloc hbs _).grown hgrow1 (by simp; omega) (ownBlock_ge hown)
          have O := Lib.hid hown2; have B := Lib.hid hb1
          clear hown1 hown2 hb1 hgrow1 hat1
          go_wp2
          go_roundg 0
          case measure => rw [G.out]; omega
          case rel => exact ⟨s.size, done ++ [32 :: (l.drop f).take 39], rfl, Nat.le_refl _, by omega, by have := O.out; rw [List.length_append] at this ⊢; exact this, Lib.hid (by rw [← Z.out]; exact F2.out), B.out⟩
        · have j1 : decide ((s.size : Int) < (f : Int) + 39) = false := decide_eq_false (by omega)
          have Y := Lib.hid (show ({ data := #[32] } : ByteArray) ++ s.extract f (f + 39) = bs (32 :: (l.drop f).take 39) by
            rw [S0.out, bs_extract, show ({ data := #[32] } : ByteArray) = bs [32] from rfl, bs_append, show f + 39 - f = 39 by omega]; rfl)
          have Z := Lib.hid (show (l.drop f).drop 39 = l.drop (f + 39) by rw [List.drop_drop])
          have j2 : f + 39 ≤ s.size := by omega
          go_wp2_with (at_builtin; refine wpList_append_lies _ rfl _ _ 49 rfl w.heap.size 9 i0 _ 1 16 Tryd.underlying49 hi hz0 hz1 hz2 rfl (by decide) _ _ _ rfl (hown.alloc _) ⟨wr.heap.size, 0, none⟩ 1 1 [.string ({ data := #[32] } ++ s.extract f (f + 39))] rfl rfl ?c1 ?c2 (by decide) (by unfold maxLen; omega) (by omega) (by simp; omega) _ rfl ?_)
          case c1 => exact cell_one_new _ _ _
          case c2 => intro u hu; simp at hu; subst hu; rfl
          intro g cap w1 hown1 hgrow1 hat1 hlt1
          have hown2 : w1.ownsRow w.heap.size 9 1 (.slice (some ⟨g, 0, none⟩) (done.length + 1) cap) (done ++ [32 :: (l.drop f).take 39]).length (strs (done ++ [32 :: (l.drop f).take 39])) := by
            rw [strs_snoc, List.length_append, ← Y.out]; exact hown1
          have hb1 : Below w.heap.size w w1 := (hb.alloc hbs _).grown hgrow1 (by simp; omega) (ownBlock_ge hown)
          have O := Lib.hid hown2; have B := Lib.hid hb1
          clear hown1 hown2 hb1 hgrow1 hat1
          go_wp2
          go_roundg (s.size - (f + 39))
          case measure => rw [G.out]; omega
          case rel => exact ⟨f + 39, done ++ [32 :: (l.drop f).take 39], by go_num, by omega, rfl, by have := O.out; rw [List.length_append] at this ⊢; exact this, Lib.hid (by rw [← Z.out]; exact F2.out), B.out⟩
      · have E := Lib.hid (show done = foldL l by
          have := F.out.1
          rw [List.drop_of_length_le (by have := SZ.out; omega), foldRest_nil, List.append_nil] at this
          exact this)
        have O := Lib.hid (show StrsR wr _ (foldL l) by rw [← E.out]; exact strsR_of_owns hown)
        have B := Lib.hid hb
        clear hown hb
        go_wp2
        go_ret
        exact ⟨_, rfl, O.out, B.out⟩

/-- are pieces some that were folded? -/
def ufB (L : List (List UInt8)) : Bool := decide (foldL (unfoldL L) = L)
def ufC (L : List (List UInt8)) : ByteArray := bs (if ufB L = true then unfoldL L else [])
def ufE (L : List (List UInt8)) : Int := if ufB L = true then 0 else 2

theorem unfoldT_any (v : Value) (L : List (List UInt8)) (w : World) (hL : StrsR w v L) (hs : L.flatten.length ≤ 4194304) :
    Calls Tryd.prog 29 #[v] w fun e w' => e = .returned (.tuple #[.string (ufC L), errV (ufE L)]) ∧ Below w.heap.size w w' := by
  refine (unfold_loop v L w hL hs (ufB L) rfl).mono fun e w' ⟨h1, h2⟩ => ⟨?_, h2⟩
  rw [h1, ufC, ufE]
  cases ufB L <;> rfl

set_option maxRecDepth 100000 in
set_option maxHeartbeats 4000000 in
theorem unfoldRef_any (v : Value) (L : List (List UInt8)) (w : World) (hL : StrsR w v L) (hs : L.flatten.length ≤ 1048576) :
    Calls Tryd.prog 28 #[v] w fun e w' => e = .returned (.tuple #[.string (ufC L), .bool (ufB L)]) ∧ Below w.heap.size w w' := by
  obtain ⟨a, cap, rfl, hc1, hc2, hcell⟩ := strsR_open hL
  unfold maxLen at hc2
  have HC := Lib.hid hcell
  have UO := Lib.hid (unfold_ok L)
  have UB := Lib.hid (fun i (hi : i < L.length) (h : ¬ pieceOk L i) => (show ufB L = false from decide_eq_false (unfold_bad hi h)))
  have NO := Lib.hid (show ufB L = false → ufC L = { data := #[] } by intro h; rw [ufC, h]; rfl)
  clear hcell hL
  obtain ⟨B, hB⟩ : ∃ B, B = ufB L := ⟨_, rfl⟩
  obtain ⟨C, hC⟩ : ∃ C, C = ufC L := ⟨_, rfl⟩
  rw [← hB, ← hC]
  have BE := Lib.hid hB; have CE := Lib.hid hC
  clear hB hC
  go_enter Tryd.func28, Tryd.ntmps28
  go_wp2
  go_loopg [4, 5] L.length (fun g ov iv wr => ∃ (k : Nat) (o : ByteArray) (n : Nat), k ≤ L.length ∧ iv = .int .i64 k ∧ ov = .string o ∧ g = L.length - k ∧ Hid (o = bs (unfoldL (L.take k)) ∧ ∀ j, j < k → pieceOk L j) ∧ wr = w.drewN n)
  case atStart => exact ⟨0, bs [], 0, Nat.zero_le _, rfl, rfl, rfl, Lib.hid ⟨rfl, fun j hj => absurd hj (Nat.not_lt_zero _)⟩, rfl⟩
  case round =>
    obtain ⟨k, o, m, hk, rfl, rfl, hg, OE, rfl⟩ := hrel
    have G := Lib.hid hg; clear hg
    have ho : o.size ≤ 1048576 := by rw [OE.out.1, bs_size]; have h1 := unfold_len (L.take k); have h2 := flat_take L k; omega
    by_cases hlt : k < L.length
    · obtain ⟨b1, off1, rfl, hcs⟩ := HC.out (by omega)
      have c0 := hcs k hlt
      have SN := Lib.hid (unfold_snoc L k hlt)
      have hfl := flat_at L k hlt
      obtain ⟨p, hp⟩ : ∃ p, p = L[k] := ⟨_, rfl⟩
      have P := Lib.hid hp
      have PK := Lib.hid (show L[k]? = some p by rw [hp]; simp [hlt])
      rw [← hp] at c0 hfl
      obtain ⟨x, hx⟩ : ∃ x, x = bs p := ⟨_, rfl⟩
      rw [← hx] at c0
      have X := Lib.hid hx
      have xz : x.size = p.length := by rw [hx, bs_size]
      have XZ := Lib.hid xz
      have xl : x.size ≤ 1048576 := by omega
      have XT := Lib.hid (show x.toList = p by rw [hx, bs_toList])
      clear hp hx hcs hfl
      have i1 : (0 : Int) ≤ (k : Int) := Int.natCast_nonneg _
      have i2 : (k : Int) < (L.length : Int) := by omega
      obtain ⟨lb, hlb⟩ : ∃ lb : Bool, lb = decide (k + 1 = L.length) := ⟨_, rfl⟩
      have tl : ((k : Int) == (L.length : Int) - 1) = lb := by
        rw [hlb, Bool.eq_iff_iff, beq_iff_eq, decide_eq_true_eq]; omega
      have LB := Lib.hid hlb
      clear hlb
      by_cases h40 : 40 < p.length
      · obtain rfl : B = false := by
          rw [BE.out]
          exact UB.out k hlt (by rintro ⟨q, h1, h2, _⟩; rw [PK.out] at h1; cases h1; omega)
        have CN := Lib.hid (show C = { data := #[] } by rw [CE.out]; exact NO.out BE.out.symm)
        have t1 : decide ((40 : Int) < (x.size : Int)) = true := decide_eq_true (by omega)
        have t2 : decide (40 < x.size) = true := decide_eq_true (by omega)
        clear h40 xz
        go_wp2
        go_ret2
        exact ⟨by rw [CN.out]; rfl, below_drewN (Below.refl _ _) _⟩
      have t1 : decide ((40 : Int) < (x.size : Int)) = false := decide_eq_false (by omega)
      have t2 : decide (40 < x.size) = false := decide_eq_false (by omega)
      by_cases hlast : lb = false ∧ p.length ≠ 40
      · obtain ⟨rfl, hne⟩ := hlast
        obtain rfl : B = false := by
          rw [BE.out]
          refine UB.out k hlt ?_
          rintro ⟨q, h1, h2, h3, _⟩
          rw [PK.out] at h1; cases h1
          exact hne (h3 (of_decide_eq_false LB.out.symm))
        have CN := Lib.hid (show C = { data := #[] } by rw [CE.out]; exact NO.out BE.out.symm)
        have t3 : ((x.size : Int) == 40) = false := by rw [beq_eq_false_iff_ne]; omega
        have t4 : ((x.size : Int) != 40) = true := by simp [bne, t3]
        clear h40 hne xz
        go_wp2
        go_ret2
        exact ⟨by rw [CN.out]; rfl, below_drewN (Below.refl _ _) _⟩
      have hl2 : (lb = true) ∨ (lb = false ∧ (((x.size : Int) == 40) = true ∧ ((x.size : Int) != 40) = false)) := by
        cases lb
        · have : p.length = 40 := by
            by_cases h : p.length = 40
            · exact h
            · exact absurd ⟨rfl, h⟩ hlast
          have t3 : ((x.size : Int) == 40) = true := by rw [beq_iff_eq]; omega
          exact .inr ⟨rfl, t3, by simp [bne, t3]⟩
        · exact .inl rfl
      have HL := Lib.hid (show k + 1 ≠ L.length → p.length = 40 by
        intro h
        by_cases h2 : p.length = 40
        · exact h2
        · exact absurd ⟨by rw [LB.out]; exact decide_eq_false h, h2⟩ hlast)
      have H40 := Lib.hid (show p.length ≤ 40 by omega)
      clear hlast h40
      by_cases hk0 : k = 0
      · have t5 : decide ((0 : Int) < (k : Int)) = false := decide_eq_false (by omega)
        have t6 : decide (0 < k) = false := decide_eq_false (by omega)
        have K0 := Lib.hid hk0
        have E := Lib.hid (show o ++ x = bs (unfoldL (L.take (k + 1))) by
          rw [SN.out, if_pos K0.out, OE.out.1, X.out, bs_append, P.out])
        have PO := Lib.hid (show pieceOk L k from ⟨p, PK.out, H40.out, HL.out, fun h => absurd K0.out h⟩)
        clear hk0 xz
        rcases hl2 with rfl | ⟨rfl, t3, t4⟩
        all_goals
          go_wp2
          go_roundg (L.length - (k + 1))
          case measure => rw [G.out]; omega
          case rel => exact ⟨k + 1, _, m, by omega, by go_num, rfl, rfl, Lib.hid ⟨E.out, fun j hj => by rcases Nat.lt_or_ge j k with h | h; exact OE.out.2 j h; obtain rfl : j = k := (by omega); exact PO.out⟩, rfl⟩
      · have t5 : decide ((0 : Int) < (k : Int)) = true := decide_eq_true (by omega)
        have t6 : decide (0 < k) = true := decide_eq_true (by omega)
        have bad : ¬ (p.head? = some 32 ∧ 2 ≤ p.length) → B = false := by
          intro h
          rw [BE.out]
          refine UB.out k hlt ?_
          rintro ⟨q, h1, _, _, h3⟩
          rw [PK.out] at h1; cases h1
          exact h (h3 hk0)
        have BAD := Lib.hid bad
        have K0 := Lib.hid hk0
        clear bad hk0
        by_cases he : p = []
        · obtain rfl : B = false := BAD.out (by rw [he]; simp)
          have CN := Lib.hid (show C = { data := #[] } by rw [CE.out]; exact NO.out BE.out.symm)
          have q1 : x.toList.isEmpty = true := by rw [XT.out, he]; rfl
          have q2 : x.toList = [] := by rw [XT.out, he]
          clear he xz
          rcases hl2 with rfl | ⟨rfl, t3, t4⟩
          all_goals
            go_wp2
            go_ret2
            exact ⟨by rw [CN.out]; rfl, below_drewN (Below.refl _ _) _⟩
        · have q1 : x.toList.isEmpty = false := by rw [XT.out]; simpa using he
          have q2 : ¬ x.toList = [] := by rw [XT.out]; exact he
          have hp0 : 0 < p.length := List.length_pos_iff.2 he
          have hx0 : 0 < x.size := by omega
          obtain ⟨c, hc⟩ : ∃ c, c = x[0] := ⟨_, rfl⟩
          have C0 := Lib.hid (show p.head? = some c by
            have h2 : p[0] = c := by rw [hc]; have := X.out; subst this; exact (bs_get p 0 hp0 hx0).symm
            rw [List.head?_eq_getElem?, List.getElem?_eq_getElem hp0, h2])
          obtain ⟨n, hn⟩ : ∃ n : Int, n = (c.toNat : Int) := ⟨_, rfl⟩
          have N := Lib.hid hn
          have hcn : ((x[0]).toNat : Int) = n := by rw [hn, hc]
          clear hn hc he
          have b32 := byte_eq (m := 32) N.out (by omega)
          by_cases h32 : c = 32
          · have e32 : (n == 32) = true := by rw [show (32 : Int) = ((32 : Nat) : Int) from rfl, b32]; exact decide_eq_true h32
            have n32 : (n != 32) = false := by simp [bne, e32]
            have HD := Lib.hid (show p.head? = some 32 by rw [C0.out, h32])
            clear b32 h32
            by_cases h2 : 2 ≤ p.length
            · have t7 : decide ((x.size : Int) < 2) = false := decide_eq_false (by omega)
              have t8 : decide (x.size < 2) = false := decide_eq_false (by omega)
              have j1 : 1 ≤ x.size := by omega
              have E := Lib.hid (show o ++ x.extract 1 x.size = bs (unfoldL (L.take (k + 1))) by
                rw [SN.out, if_neg K0.out, OE.out.1, X.out, bs_extract, bs_append, ← P.out, trimSp_32 HD.out, bs_size, ← List.length_drop, List.take_length])
              have PO := Lib.hid (show pieceOk L k from ⟨p, PK.out, H40.out, HL.out, fun _ => ⟨HD.out, h2⟩⟩)
              clear h2 xz
              rcases hl2 with rfl | ⟨rfl, t3, t4⟩
              all_goals
                go_wp2
                go_roundg (L.length - (k + 1))
                case measure => rw [G.out]; omega
                case rel => exact ⟨k + 1, _, m, by omega, by go_num, rfl, rfl, Lib.hid ⟨E.out, fun j hj => by rcases Nat.lt_or_ge j k with h | h; exact OE.out.2 j h; obtain rfl : j = k := (by omega); exact PO.out⟩, rfl⟩
            · obtain rfl : B = false := BAD.out (fun h => h2 h.2)
              have CN := Lib.hid (show C = { data := #[] } by rw [CE.out]; exact NO.out BE.out.symm)
              have t7 : decide ((x.size : Int) < 2) = true := decide_eq_true (by omega)
              have t8 : decide (x.size < 2) = true := decide_eq_true (by omega)
              clear h2 xz
              rcases hl2 with rfl | ⟨rfl, t3, t4⟩
              all_goals
                go_wp2
                go_ret2
                exact ⟨by rw [CN.out]; rfl, below_drewN (Below.refl _ _) _⟩
          · have e32 : (n == 32) = false := by rw [show (32 : Int) = ((32 : Nat) : Int) from rfl, b32]; exact decide_eq_false h32
            have n32 : (n != 32) = true := by simp [bne, e32]
            obtain rfl : B = false := BAD.out (by rw [C0.out]; rintro ⟨h, _⟩; injection h with h; exact h32 h)
            have CN := Lib.hid (show C = { data := #[] } by rw [CE.out]; exact NO.out BE.out.symm)
            clear b32 h32 xz
            rcases hl2 with rfl | ⟨rfl, t3, t4⟩
            all_goals
              go_wp2
              go_ret2
              exact ⟨by rw [CN.out]; rfl, below_drewN (Below.refl _ _) _⟩
    · obtain rfl : k = L.length := by omega
      by_cases h0 : L = []
      · obtain rfl : B = false := by
          rw [BE.out, ufB]
          exact decide_eq_false (fun e => (UO.out.1 e).1 h0)
        have CN := Lib.hid (show o = C by
          rw [CE.out, NO.out BE.out.symm]
          have := OE.out.1
          rw [h0] at this
          exact this)
        have t1 : decide (0 < L.length) = false := by rw [h0]; rfl
        have t2 : decide ((0 : Int) < (L.length : Int)) = false := by rw [h0]; rfl
        clear h0
        go_wp2
        go_ret2
        exact ⟨by rw [← CN.out]; rfl, below_drewN (Below.refl _ _) _⟩
      · have hb : ufB L = true := decide_eq_true (UO.out.2 ⟨h0, fun i hi => OE.out.2 i hi⟩)
        obtain rfl : B = true := by rw [BE.out]; exact hb
        have CN := Lib.hid (show o = C by
          rw [CE.out, ufC, if_pos hb]
          have := OE.out.1
          rwa [List.take_length] at this)
        have hp := List.length_pos_iff.2 h0
        have t1 : decide (0 < L.length) = true := decide_eq_true hp
        have t2 : decide ((0 : Int) < (L.length : Int)) = true := decide_eq_true (by omega)
        clear h0 hb hp
        go_wp2
        go_ret2
        exact ⟨by rw [← CN.out]; rfl, below_drewN (Below.refl _ _) _⟩

/-- what the reference's Pair answers. -/
def PairQ (l : List UInt8) (w : World) (e : Ending) (w' : World) : Prop :=
  ∃ k v b, e = .returned (.tuple #[.string k, .string v, .bool b]) ∧ (b = true → k = bs (pairF l).1 ∧ v = bs (pairF l).2.1 ∧ (pairF l).2.2 = 0) ∧ (b = false → pairF l = ([], [], 2)) ∧ Below w.heap.size w w'

set_option maxRecDepth 100000 in
set_option maxHeartbeats 4000000 in
theorem pairRef_any (l : List UInt8) (w : World) (hs : l.length ≤ 1048576) :
    Calls Tryd.prog 30 #[.string (bs l)] w (PairQ l w) := by
  obtain ⟨s, hs0⟩ : ∃ s, s = bs l := ⟨_, rfl⟩
  have hsz : s.size = l.length := by rw [hs0, bs_size]
  have hget : ∀ k (h : k < l.length) (h2 : k < s.size), s[k] = l[k] := by subst hs0; exact fun k h h2 => bs_get l k h h2
  rw [← hs0]
  have S0 := Lib.hid hs0; have SZ := Lib.hid hsz; have GT := Lib.hid hget
  have hsl : s.size ≤ 1048576 := by omega
  clear hs0 hget hsz
  go_enter Tryd.func30, Tryd.ntmps30
  go_wp2
  go_loopg [5] l.length (fun g iv wr => ∃ (k : Nat), k ≤ l.length ∧ iv = .int .i64 k ∧ g = l.length - k ∧ Hid (∀ j (hj : j < l.length), j < k → l[j] ≠ 58 ∧ capOff l[j].toNat = false) ∧ wr = w)
  case atStart => exact ⟨0, Nat.zero_le _, rfl, rfl, Lib.hid (fun j _ hj => absurd hj (Nat.not_lt_zero _)), rfl⟩
  case round =>
    obtain ⟨k, hk, rfl, hg, NO, rfl⟩ := hrel
    have G := Lib.hid hg; clear hg
    by_cases hlt : k < s.size
    · have hlt2 : k < l.length := by rw [← SZ.out]; exact hlt
      obtain ⟨c, hc⟩ : ∃ c, c = s[k] := ⟨_, rfl⟩
      have CC := Lib.hid (show l[k] = c by rw [hc]; exact (GT.out k hlt2 hlt).symm)
      obtain ⟨n, hn⟩ : ∃ n : Int, n = (c.toNat : Int) := ⟨_, rfl⟩
      have N := Lib.hid hn
      have hcn : ((s[k]).toNat : Int) = n := by rw [hn, hc]
      clear hn hc
      have i1 : (0 : Int) ≤ (k : Int) := Int.natCast_nonneg _
      have i2 : (k : Int) < (s.size : Int) := by omega
      have b58 := byte_eq (m := 58) N.out (by omega)
      by_cases h58 : c = 58
      · have e58 : (n == 58) = true := by rw [show (58 : Int) = ((58 : Nat) : Int) from rfl, b58]; exact decide_eq_true h58
        have HIT := Lib.hid (pair_hit hlt2 (by rw [CC.out]; exact h58) NO.out)
        have X1 := Lib.hid (show s.extract 0 k = bs (l.take k) by rw [S0.out, bs_extract]; simp)
        have X2 := Lib.hid (show s.extract (k + 1) s.size = bs (l.drop (k + 1)) by
          rw [S0.out, bs_extract, bs_size, ← List.length_drop, List.take_length])
        clear b58 h58
        have j1 : (0 : Int) ≤ (k : Int) + 1 := by omega
        have j2 : k + 1 ≤ s.size := hlt
        have j3 : IntKind.i64.wrap ((k : Int) + 1) = (k : Int) + 1 := IntWalk.i64_in _ (by omega)
        have j4 : ((k : Int) + 1).toNat = k + 1 := by omega
        by_cases h1 : 1 ≤ k
        · have t1 : decide ((1 : Int) ≤ (k : Int)) = true := decide_eq_true (by omega)
          have t1b : decide (1 ≤ k) = true := decide_eq_true h1
          by_cases h12 : k ≤ 12
          · have t2 : decide ((k : Int) ≤ 12) = true := decide_eq_true (by omega)
            have t2b : decide (k ≤ 12) = true := decide_eq_true h12
            have E := Lib.hid (show pairF l = (l.take k, l.drop (k + 1), 0) by rw [HIT.out, if_pos ⟨h1, h12⟩])
            clear h1 h12
            go_wp2
            go_quiet (fail)
            go_wp2
            refine bodyPost_ret (v := .tuple #[.string (s.extract 0 k), .string (s.extract (k + 1) s.size), .bool true]) (by simp [results, Tryd.results30, go_sem]) rfl ?_
            exact ⟨_, _, true, rfl, fun _ => by rw [E.out]; exact ⟨X1.out, X2.out, rfl⟩, (fun h => by cases h), below_drewN (Below.refl _ _) _⟩
          · have t2 : decide ((k : Int) ≤ 12) = false := decide_eq_false (by omega)
            have t2b : decide (k ≤ 12) = false := decide_eq_false h12
            have E := Lib.hid (show pairF l = ([], [], 2) by rw [HIT.out, if_neg (fun h => h12 h.2)])
            clear h1 h12
            go_wp2
            go_quiet (fail)
            go_wp2
            refine bodyPost_ret (v := .tuple #[.string (s.extract 0 k), .string (s.extract (k + 1) s.size), .bool false]) (by simp [results, Tryd.results30, go_sem]) rfl ?_
            exact ⟨_, _, false, rfl, (fun h => by cases h), fun _ => E.out, below_drewN (Below.refl _ _) _⟩
        · have t1 : decide ((1 : Int) ≤ (k : Int)) = false := decide_eq_false (by omega)
          have t1b : decide (1 ≤ k) = false := decide_eq_false h1
          have E := Lib.hid (show pairF l = ([], [], 2) by rw [HIT.out, if_neg (fun h => h1 h.1)])
          clear h1
          go_wp2
          go_quiet (fail)
          go_wp2
          refine bodyPost_ret (v := .tuple #[.string (s.extract 0 k), .string (s.extract (k + 1) s.size), .bool false]) (by simp [results, Tryd.results30, go_sem]) rfl ?_
          exact ⟨_, _, false, rfl, (fun h => by cases h), fun _ => E.out, below_drewN (Below.refl _ _) _⟩
      · have e58 : (n == 58) = false := by rw [show (58 : Int) = ((58 : Nat) : Int) from rfl, b58]; exact decide_eq_false h58
        have H58 := Lib.hid (show l[k] ≠ 58 by rw [CC.out]; exact h58)
        clear b58 h58
        by_cases hoff : n < 65 ∨ 90 < n
        · have E := Lib.hid (pair_off hlt2 H58.out (show capOff l[k].toNat = true by
            rw [CC.out, capOff]; have := N.out; rcases hoff with h | h
            · simp; left; omega
            · simp; right; omega) (fun j hj hjk => (NO.out j hj hjk).1))
          rcases hoff with h | h
          · have t1 : decide (n < 65) = true := decide_eq_true h
            go_wp2
            refine bodyPost_ret (v := .tuple #[.string (bs []), .string (bs []), .bool false]) (by simp [results, Tryd.results30, go_sem, bs]) rfl ?_
            exact ⟨_, _, false, rfl, (fun h => by cases h), fun _ => E.out, Below.refl _ _⟩
          · have t1 : decide (n < 65) = false := decide_eq_false (by omega)
            have t2 : decide (90 < n) = true := decide_eq_true h
            go_wp2
            refine bodyPost_ret (v := .tuple #[.string (bs []), .string (bs []), .bool false]) (by simp [results, Tryd.results30, go_sem, bs]) rfl ?_
            exact ⟨_, _, false, rfl, (fun h => by cases h), fun _ => E.out, Below.refl _ _⟩
        · have t1 : decide (n < 65) = false := decide_eq_false (by omega)
          have t2 : decide (90 < n) = false := decide_eq_false (by omega)
          have NX := Lib.hid (show ∀ j (hj : j < l.length), j < k + 1 → l[j] ≠ 58 ∧ capOff l[j].toNat = false by
            intro j hj hjk
            rcases Nat.lt_or_ge j k with h | h
            · exact NO.out j hj h
            · obtain rfl : j = k := by omega
              exact ⟨H58.out, by rw [CC.out, capOff]; have := N.out; simp; omega⟩)
          clear hoff
          go_wp2
          go_roundg (l.length - (k + 1))
          case measure => rw [G.out]; omega
          case rel => exact ⟨k + 1, by omega, by go_num, rfl, NX, rfl⟩
    · obtain rfl : k = l.length := by have := SZ.out; omega
      have E := Lib.hid (pair_end (fun j hj => (NO.out j hj hj).1))
      go_wp2
      refine bodyPost_ret (v := .tuple #[.string (bs []), .string (bs []), .bool false]) (by simp [results, Tryd.results30, go_sem, bs]) rfl ?_
      exact ⟨_, _, false, rfl, (fun h => by cases h), fun _ => E.out, Below.refl _ _⟩

end Go.Proofs.YtdpngbjlljgoaaaDoor
