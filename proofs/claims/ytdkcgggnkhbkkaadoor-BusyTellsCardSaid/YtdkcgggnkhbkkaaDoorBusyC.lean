/- Contracts of busy.first, busy.Slot, chimelaw2.within. -/
import Derived.Test.YtdkcgggnkhbkkaaDoorBusyN
namespace Go.Proofs.YtdkcgggnkhbkkaaDoor
open Go.RowKit
set_option linter.unusedSimpArgs false
set_option linter.unusedVariables false

theorem covB_snoc (L : List (Int × Int)) (k : Nat) (h : k < L.length) (t : Int) : covB (L.take (k + 1)) t = (covB (L.take k) t || (decide (L[k].1 ≤ t) && decide (t < L[k].2))) := by
  rw [List.take_succ_eq_append_getElem h, covB_append]; simp [covB]

theorem covB_at {L : List (Int × Int)} {k : Nat} (h : k < L.length) {t : Int} (h1 : L[k].1 ≤ t) (h2 : t < L[k].2) : covB L t = true := covB_iff.2 ⟨L[k], List.getElem_mem h, h1, h2⟩

/-- is a stretch long enough? -/
def fitB (n : Int) (s : Int × Int) : Bool := decide (n ≤ s.2 - s.1)

theorem fit_any (x y n : Int) (p : Nat) (w : World) (c : w.cell? ⟨p, 0, none⟩ = some (.int .i64 n)) (hx : 1 ≤ x) (hxy : x ≤ y) (hy : y < 157785120) :
    Calls Tryd.prog 115 #[.agg #[.int .i64 x, .int .i64 y], .pointer (some ⟨p, 0, none⟩)] w fun e w' => e = .returned (.bool (fitB n (x, y))) ∧ Below w.heap.size w w' := by
  have c' := cell_below ((Below.refl w.heap.size w).alloc (Nat.le_refl _) (.cells #[.int .i64 x, .int .i64 y] 41)) c
  by_cases h1 : n ≤ y - x
  · have E := Lib.hid (show fitB n (x, y) = true by simp [fitB, h1])
    have h2 : y - x ≥ n := h1
    go_enter Tryd.func115, Tryd.ntmps115
    go_wp2
    go_ret
    exact ⟨by rw [E.out]; rfl, (Below.refl _ _).alloc (Nat.le_refl _) _⟩
  · have E := Lib.hid (show fitB n (x, y) = false by simp [fitB]; omega)
    go_enter Tryd.func115, Tryd.ntmps115
    go_wp2
    go_ret
    exact ⟨by rw [E.out]; rfl, (Below.refl _ _).alloc (Nat.le_refl _) _⟩

theorem take_no {α : Type} {p : α → Bool} {L : List α} {k : Nat} (hk : k < L.length) (h : (L.take k).any p = false) (h2 : p L[k] = false) : (L.take (k + 1)).any p = false := by
  rw [List.take_succ_eq_append_getElem hk, List.any_append, h]; simp [h2]

theorem find_yes {α : Type} {p : α → Bool} {L : List α} {k : Nat} (hk : k < L.length) (h : (L.take k).any p = false) (h2 : p L[k] = true) : L.find? p = some L[k] := by
  have h4 : (L.take k).find? p = none := List.find?_eq_none.2 fun x hx => by
    have := List.any_eq_false.1 h x hx; simpa using this
  have h3 : L.find? p = (L.take k ++ L.drop k).find? p := by rw [List.take_append_drop]
  rw [h3, List.find?_append, h4, List.drop_eq_getElem_cons hk, List.find?_cons_of_pos h2]; rfl

/-- where the first one is that is long enough. -/
def FitP (n : Int) (L : List (Int × Int)) (w : World) (e : Ending) (w' : World) : Prop :=
  ((∃ (k : Nat) (hk : k < L.length), e = .returned (.int .i64 k) ∧ L.find? (fitB n) = some L[k]) ∨ (e = .returned (.int .i64 (-1)) ∧ L.find? (fitB n) = none)) ∧ Below w.heap.size w w'

set_option maxHeartbeats 4000000 in
theorem idxB_any (v : Value) (L : List (Int × Int)) (n : Int) (p : Nat) (w : World) (hL : PairsR w v L) (c : w.cell? ⟨p, 0, none⟩ = some (.int .i64 n)) (hg : Good L) :
    Calls Tryd.prog 114 #[v, .func (.func 115) #[] #[.pointer (some ⟨p, 0, none⟩)]] w (FitP n L w) := by
  obtain ⟨a, cap, rfl, hc1, hc2, hcell⟩ := pairsR_open hL
  unfold maxLen at hc2
  have HC := Lib.hid hcell; clear hcell hL
  have C := Lib.hid c; clear c
  have GD := Lib.hid hg; clear hg
  go_enter Tryd.func114, Tryd.ntmps114
  go_wp2
  go_loopg [8] L.length (fun g i wr => ∃ k : Nat, k ≤ L.length ∧ i = .int .i64 k ∧ Hid ((L.take k).any (fitB n) = false) ∧ g = L.length - k ∧ Below w.heap.size w wr)
  case atStart => exact ⟨0, Nat.zero_le _, rfl, Lib.hid (by simp), rfl, Below.refl _ _⟩
  case round =>
    obtain ⟨k, hk, rfl, hS, hg, hb⟩ := hrel
    have G := Lib.hid hg; clear hg
    have B := Lib.hid hb
    by_cases hlt : k < L.length
    · obtain ⟨b, off, rfl, hcs⟩ := HC.out (by omega)
      have c0 := cell_below hb (hcs k hlt).1
      have c1 := cell_below hb (hcs k hlt).2
      have CN := Lib.hid (cell_below hb C.out)
      have hg := GD.out L[k] (List.getElem_mem hlt)
      obtain ⟨x, hx⟩ : ∃ x, x = L[k].1 := ⟨_, rfl⟩
      obtain ⟨y, hy⟩ : ∃ y, y = L[k].2 := ⟨_, rfl⟩
      rw [← hx, ← hy] at hg
      have HG := Lib.hid hg
      rw [← hx] at c0; rw [← hy] at c1
      have XY := Lib.hid (show L[k] = (x, y) by rw [hx, hy])
      clear hx hy hcs hb hg
      by_cases he : fitB n (x, y) = true
      · have E := Lib.hid (find_yes (p := fitB n) hlt hS.out (by rw [XY.out]; exact he))
        have V := Lib.hid he
        clear he
        go_wp2_with fail
        refine (fit_any x y n p _ CN.out HG.out.1 HG.out.2.1 HG.out.2.2).mono ?_; rintro e w2 ⟨rfl, hb2⟩
        rw [V.out]
        have B2 := Lib.hid (B.out.trans (hb2.mono B.out.size)); clear hb2
        go_wp2
        go_ret
        exact ⟨.inl ⟨k, hlt, rfl, E.out⟩, B2.out⟩
      · have he' : fitB n (x, y) = false := by simpa using he
        have E := Lib.hid (take_no (p := fitB n) hlt hS.out (by rw [XY.out]; exact he'))
        have V := Lib.hid he'
        clear he he'
        go_wp2_with fail
        refine (fit_any x y n p _ CN.out HG.out.1 HG.out.2.1 HG.out.2.2).mono ?_; rintro e w2 ⟨rfl, hb2⟩
        rw [V.out]
        have B2 := Lib.hid (B.out.trans (hb2.mono B.out.size)); clear hb2
        go_wp2
        go_roundg (L.length - (k + 1))
        case measure => rw [G.out]; omega
        case rel => exact ⟨k + 1, by omega, by go_num, E, rfl, B2.out⟩
    · obtain rfl : k = L.length := by omega
      have E := Lib.hid (show L.find? (fitB n) = none by
        have := hS.out; rw [List.take_length] at this
        exact List.find?_eq_none.2 fun x hx => by have := List.any_eq_false.1 this x hx; simpa using this)
      clear hS hb
      go_wp2
      go_ret
      exact ⟨.inr ⟨rfl, E.out⟩, B.out⟩

/-- the fault of a slot, and where it is. -/
def firstE (n : Int) (F : List (Int × Int)) : Int := if n < 1 ∨ 1000000 < n then 1 else if (F.find? (fitB n)).isSome then 0 else 5
def firstV (n : Int) (F : List (Int × Int)) : Int := if n < 1 ∨ 1000000 < n then 0 else ((F.find? (fitB n)).map (·.1)).getD 0

set_option maxHeartbeats 4000000 in
theorem first_any (v : Value) (L : List (Int × Int)) (n : Int) (w : World) (hL : PairsR w v L) (hg : Good L) :
    Calls Tryd.prog 72 #[v, .int .i64 n] w fun e w' => e = .returned (.tuple #[.int .i64 (firstV n L), errV (firstE n L)]) ∧ Below w.heap.size w w' := by
  have B0 := (Below.refl w.heap.size w).alloc (Nat.le_refl _) (.cells #[.int .i64 n] 3)
  by_cases h1 : n < 1
  · have E := Lib.hid (show firstE n L = 1 by rw [firstE, if_pos (.inl h1)])
    have V := Lib.hid (show firstV n L = 0 by rw [firstV, if_pos (.inl h1)])
    go_enter Tryd.func72, Tryd.ntmps72
    go_wp2
    go_ret2
    exact ⟨by rw [E.out, V.out]; rfl, B0⟩
  by_cases h2 : 1000000 < n
  · have E := Lib.hid (show firstE n L = 1 by rw [firstE, if_pos (.inr h2)])
    have V := Lib.hid (show firstV n L = 0 by rw [firstV, if_pos (.inr h2)])
    go_enter Tryd.func72, Tryd.ntmps72
    go_wp2
    go_ret2
    exact ⟨by rw [E.out, V.out]; rfl, B0⟩
  have hn : ¬ (n < 1 ∨ 1000000 < n) := by omega
  have HL := Lib.hid (hL.below B0)
  have HG := Lib.hid hg
  have HN := Lib.hid hn
  have BB := Lib.hid B0
  clear hL hg hn B0
  obtain ⟨va, vc, rfl, _, kc, hcell⟩ := pairsR_open HL.out
  unfold maxLen at kc
  have CS := Lib.hid hcell; clear hcell
  have CN := Lib.hid (show (w.alloc (.cells #[.int .i64 n] 3)).cell? ⟨w.heap.size, 0, none⟩ = some (.int .i64 n) by simp)
  go_enter Tryd.func72, Tryd.ntmps72
  go_wp2_with fail
  refine (idxB_any _ L n w.heap.size _ HL.out CN.out HG.out).mono ?_
  rintro e w1 ⟨⟨k, hk, rfl, hf⟩ | ⟨rfl, hf⟩, hb⟩
  · have E := Lib.hid (show firstE n L = 0 by rw [firstE, if_neg HN.out, hf]; rfl)
    have V := Lib.hid (show firstV n L = L[k].1 by rw [firstV, if_neg HN.out, hf]; rfl)
    obtain ⟨b, off, rfl, hcs⟩ := CS.out (by omega)
    have c0 := cell_below hb (hcs k hk).1
    obtain ⟨x, hx⟩ : ∃ x, x = L[k].1 := ⟨_, rfl⟩
    rw [← hx] at c0
    have X := Lib.hid hx
    have B2 := Lib.hid (BB.out.trans (hb.mono BB.out.size))
    clear hf hx hcs hb
    have i1 : (0 : Int) ≤ (k : Int) := Int.natCast_nonneg _
    have i2 : (k : Int) < (L.length : Int) := by omega
    go_wp2
    go_ret2
    exact ⟨by rw [E.out, V.out, ← X.out]; rfl, B2.out⟩
  · have E := Lib.hid (show firstE n L = 5 by rw [firstE, if_neg HN.out, hf]; rfl)
    have V := Lib.hid (show firstV n L = 0 by rw [firstV, if_neg HN.out, hf]; rfl)
    have B2 := Lib.hid (BB.out.trans (hb.mono BB.out.size))
    clear hf hb
    go_wp2
    go_ret2
    exact ⟨by rw [E.out, V.out]; rfl, B2.out⟩

theorem slot_yes (v : Value) (L : List (Int × Int)) (a b n : Int) (w : World) (hL : PairsR w v L) (h : busyE L = 0) (h2 : strE a b = 0) :
    Calls Tryd.prog 28 #[v, .int .i64 a, .int .i64 b, .int .i64 n] w fun e w' => e = .returned (.tuple #[.int .i64 (firstV n (freeL b (normL L) a)), errV (firstE n (freeL b (normL L) a))]) ∧ Below w.heap.size w w' := by
  have HL := Lib.hid hL
  have HG := Lib.hid (free_good h h2)
  have E1 := Lib.hid h; have E2 := Lib.hid h2
  clear hL h h2
  go_enter Tryd.func28, Tryd.ntmps28
  go_wp2_with fail
  refine (free_yes _ L a b _ HL.out E1.out E2.out).mono ?_; rintro e w1 ⟨u, rfl, hown, hb1⟩
  have PF := Lib.hid (show PairsR w1 u (freeL b (normL L) a) from ownsRow_reads hown)
  have B := Lib.hid hb1
  clear hown hb1
  go_wp2_with fail
  refine (first_any _ _ n _ PF.out HG.out).mono ?_; rintro e w2 ⟨rfl, hb2⟩
  have B2 := Lib.hid (B.out.trans (hb2.mono B.out.size))
  clear hb2
  go_wp2
  go_ret2
  exact ⟨rfl, B2.out⟩

theorem slot_no (v : Value) (L : List (Int × Int)) (a b n : Int) (w : World) (hL : PairsR w v L) (h : freeE L a b ≠ 0) :
    Calls Tryd.prog 28 #[v, .int .i64 a, .int .i64 b, .int .i64 n] w fun e w' => e = .returned (.tuple #[.int .i64 0, errV (freeE L a b)]) ∧ Below w.heap.size w w' := by
  have HL := Lib.hid hL
  have HE := Lib.hid h
  have E := Lib.hid (show errV (freeE L a b) = .iface 108 (.int .i64 (freeE L a b)) by rw [errV, if_neg h])
  clear hL h
  go_enter Tryd.func28, Tryd.ntmps28
  go_wp2_with fail
  refine (free_no _ L a b _ HL.out HE.out).mono ?_; rintro e w1 ⟨rfl, hb1⟩
  rw [E.out]
  have B := Lib.hid hb1
  clear hb1
  go_wp2
  go_ret2
  exact ⟨by rw [E.out]; rfl, B.out⟩

end Go.Proofs.YtdkcgggnkhbkkaaDoor
