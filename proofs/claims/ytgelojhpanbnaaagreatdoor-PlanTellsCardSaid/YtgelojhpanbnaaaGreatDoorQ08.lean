/- Texts joined into one (a claim has at most 60 files): Lists that rise, plainly: sorted and compacted lists; Contracts of zone.may, zone.Check, zone.Of, zone.Ahead, zone.Local; Contracts of zone.Ahead, zone.Local; Zones, plain laws: all times at which it is so there, as the program and as the reference find them: one list; Contracts of cmp.Compare and cmp.Or at integers; Rows of structs: a list that lies, a list of one's own; append of one to another; A slice of the call's own whose elements have several cells, sorted by the library: what it owns then. -/
import Derived.Lib.SlicesCompact
import Derived.Lib.RowBridge
import Derived.Test.YtgelojhpanbnaaaGreatDoorQ06
import Derived.Test.YtgelojhpanbnaaaGreatDoorQ01
import Derived.Deep.LoopGhost
import Derived.IntWalk
import Derived.Test.YtgelojhpanbnaaaGreatDoorQ05
import Derived.Shelf.SlSortCmp.NoneTotal
namespace Go.Proofs.YtgelojhpanbnaaaGreatDoor
open Go.Lib

theorem rise_ext : ∀ (a b : List Int), a.Pairwise (· < ·) → b.Pairwise (· < ·) → (∀ x, x ∈ a ↔ x ∈ b) → a = b
  | [], [], _, _, _ => rfl
  | [], y :: b, _, _, h => absurd ((h y).2 List.mem_cons_self) (by simp)
  | x :: a, [], _, _, h => absurd ((h x).1 List.mem_cons_self) (by simp)
  | x :: a, y :: b, ha, hb, h => by
    rw [List.pairwise_cons] at ha hb
    have hxy : x = y := by
      have h1 := (h x).1 List.mem_cons_self
      have h2 := (h y).2 List.mem_cons_self
      rcases List.mem_cons.1 h1 with h1 | h1
      · exact h1
      · rcases List.mem_cons.1 h2 with h2 | h2
        · exact h2.symm
        · have := hb.1 x h1; have := ha.1 y h2; omega
    subst hxy
    refine congrArg _ (rise_ext a b ha.2 hb.2 fun z => ⟨fun hz => ?_, fun hz => ?_⟩)
    · rcases List.mem_cons.1 ((h z).1 (List.mem_cons_of_mem _ hz)) with rfl | h1
      · have := ha.1 z hz; omega
      · exact h1
    · rcases List.mem_cons.1 ((h z).2 (List.mem_cons_of_mem _ hz)) with rfl | h1
      · have := hb.1 z hz; omega
      · exact h1

theorem compact_up (zs : List Int) (hs : zs.Pairwise (· ≤ ·)) : ∀ m, m ≤ zs.length → (compactUpTo zs.toArray m).Pairwise (· < ·) ∧ ∀ x, x ∈ compactUpTo zs.toArray m ↔ x ∈ zs.take m
  | 0, _ => by simp [compactUpTo]
  | m + 1, hm => by
    obtain ⟨ih1, ih2⟩ := compact_up zs hs m (by omega)
    have hs' := List.pairwise_iff_getElem.1 hs
    have hg : ∀ j (hj : j < zs.length), zs.toArray[j]! = zs[j] := fun j hj => by rw [getElem!_pos _ j (by simpa using hj)]; simp
    rw [compactUpTo_succ, List.take_succ_eq_append_getElem (by omega), hg m (by omega)]
    by_cases hk : keeps zs.toArray m = true
    · rw [if_pos hk]
      refine ⟨List.pairwise_append.2 ⟨ih1, by simp, fun x hx y hy => ?_⟩, fun x => by rw [List.mem_append, List.mem_append, ih2]⟩
      obtain rfl : y = zs[m] := by simpa using hy
      obtain ⟨i, hi, rfl⟩ := List.mem_take_iff_getElem.1 ((ih2 x).1 hx)
      have him : i < m := by omega
      have h1 : zs[m] ≠ zs[m - 1]'(by omega) := by
        have h2 := of_decide_eq_true hk
        rcases h2 with h2 | h2
        · omega
        · rw [hg m (by omega), hg (m - 1) (by omega)] at h2; exact h2
      have h3 : zs[m - 1]'(by omega) ≤ zs[m] := hs' (m - 1) m (by omega) (by omega) (by omega)
      have h4 : zs[i]'(by omega) ≤ zs[m - 1]'(by omega) := by
        by_cases e : i = m - 1
        · subst e; exact Int.le_refl _
        · exact hs' i (m - 1) (by omega) (by omega) (by omega)
      omega
    · rw [if_neg hk, List.append_nil]
      refine ⟨ih1, fun x => ?_⟩
      have hk' : ¬ (m = 0 ∨ zs.toArray[m]! ≠ zs.toArray[m - 1]!) := fun h => hk (decide_eq_true h)
      have h0 : m ≠ 0 := fun h => hk' (.inl h)
      have h1 : zs[m] = zs[m - 1]'(by omega) := by
        have h2 : zs.toArray[m]! = zs.toArray[m - 1]! := Classical.byContradiction fun h => hk' (.inr h)
        rwa [hg m (by omega), hg (m - 1) (by omega)] at h2
      have h5 : zs[m] ∈ zs.take m := by rw [h1]; exact List.mem_take_iff_getElem.2 ⟨m - 1, by omega, rfl⟩
      rw [ih2, List.mem_append]
      constructor
      · exact .inl
      · rintro (h | h)
        · exact h
        · obtain rfl : x = zs[m] := by simpa using h
          exact h5

theorem sorted_le (l : List Int) : (l.mergeSort fun x y => decide (x ≤ y)).Pairwise (· ≤ ·) := by
  have h := List.pairwise_mergeSort (le := fun x y : Int => decide (x ≤ y)) (fun a b c h1 h2 => by simp at *; omega) (fun a b => by simp; omega) l
  simpa using h

theorem sortC_rises (l : List Int) : (compact (l.mergeSort fun x y => decide (x ≤ y))).Pairwise (· < ·) := (compact_up _ (sorted_le l) _ (Nat.le_refl _)).1

theorem sortC_mem (l : List Int) (x : Int) : x ∈ compact (l.mergeSort fun x y => decide (x ≤ y)) ↔ x ∈ l := by
  have h := (compact_up _ (sorted_le l) _ (Nat.le_refl _)).2 x
  rw [List.take_length] at h
  exact h.trans List.mem_mergeSort

end Go.Proofs.YtgelojhpanbnaaaGreatDoor

namespace Go.Proofs.YtgelojhpanbnaaaGreatDoor
open Go.RowKit

def zoneOf (ah : Int) (L : List (Int × Int)) (t : Int) : Int := L.foldl (fun n s => if s.1 ≤ t then s.2 else n) ah

theorem zoneOf_snoc (ah : Int) (L : List (Int × Int)) (t : Int) (k : Nat) (h : k < L.length) : zoneOf ah (L.take (k + 1)) t = if L[k].1 ≤ t then L[k].2 else zoneOf ah (L.take k) t := by
  rw [List.take_succ_eq_append_getElem h, zoneOf, List.foldl_append]; rfl

set_option maxHeartbeats 1000000 in
theorem zof_any (v : Value) (L : List (Int × Int)) (ah t : Int) (w : World) (hL : PairsR w v L) :
    Calls Tryz.prog 159 #[.agg #[.int .i64 ah, v], .int .i64 t] w fun e w' => e = .returned (.int .i64 (zoneOf ah L t)) ∧ Below w.heap.size w w' := by
  obtain ⟨a, cap, rfl, hc1, hc2, hcell⟩ := pairsR_open hL
  unfold maxLen at hc2
  go_enter Tryz.func159, Tryz.ntmps159
  go_wp2
  go_loopg [5, 13] L.length (fun g nv i wr => ∃ k : Nat, k ≤ L.length ∧ i = .int .i64 k ∧ nv = .int .i64 (zoneOf ah (L.take k) t) ∧ g = L.length - k ∧ Below w.heap.size w wr)
  case atStart => exact ⟨0, Nat.zero_le _, rfl, rfl, rfl, (Below.refl _ _).alloc (Nat.le_refl _) _⟩
  case round =>
    obtain ⟨k, hk, rfl, rfl, hg, hb⟩ := hrel
    have G := Lib.hid hg; clear hg
    by_cases hlt : k < L.length
    · obtain ⟨b, off, rfl, hcs⟩ := hcell (by omega)
      have c0 := cell_below hb (hcs k hlt).1
      have c1 := cell_below hb (hcs k hlt).2
      have Z := Lib.hid (zoneOf_snoc ah L t k hlt)
      have hbs := hb.size
      clear hcs hcell hL
      obtain ⟨x, hx⟩ : ∃ x, x = L[k].1 := ⟨_, rfl⟩
      obtain ⟨y, hy⟩ : ∃ y, y = L[k].2 := ⟨_, rfl⟩
      rw [← hx] at c0; rw [← hy] at c1
      have X := Lib.hid hx; have Y := Lib.hid hy; clear hx hy
      by_cases ht : x ≤ t
      · go_wp2
        go_roundg (L.length - (k + 1))
        case measure => rw [G.out]; omega
        case rel => exact ⟨k + 1, by omega, by go_num, by rw [Z.out, if_pos (by rw [← X.out]; exact ht), ← Y.out], rfl, hb.alloc hbs _⟩
      · go_wp2
        go_roundg (L.length - (k + 1))
        case measure => rw [G.out]; omega
        case rel => exact ⟨k + 1, by omega, by go_num, by rw [Z.out, if_neg (by rw [← X.out]; omega)], rfl, hb.alloc hbs _⟩
    · obtain rfl : k = L.length := by omega
      have e := Lib.hid (show zoneOf ah (L.take L.length) t = zoneOf ah L t by rw [List.take_length])
      go_wp2
      go_ret
      exact ⟨by rw [← e.out]; rfl, hb⟩

def mayB (n : Int) : Bool := decide (-900 ≤ n) && decide (n ≤ 900)

def shF : Option Int → List (Int × Int) → Int
  | _, [] => 0
  | p, s :: r => if timeB s.1 = true ∧ mayB s.2 = true then (if (p.map fun q => decide (s.1 - q < 1440)) = some true then 7 else shF (some s.1) r) else 1

def zfault (ah : Int) (L : List (Int × Int)) : Int := if 20 < L.length then 4 else if mayB ah = true then shF none L else 1

def prevAt (L : List (Int × Int)) (k : Nat) : Option Int := if k = 0 then none else (L[k - 1]?).map (·.1)

theorem prevAt_succ (L : List (Int × Int)) (k : Nat) (h : k < L.length) : prevAt L (k + 1) = some L[k].1 := by simp [prevAt, h]

theorem shF_bad {p : Option Int} {L : List (Int × Int)} {k : Nat} (h : k < L.length) (hb : timeB L[k].1 = false ∨ mayB L[k].2 = false) : shF p (L.drop k) = 1 := by
  rw [List.drop_eq_getElem_cons h, shF, if_neg (by rcases hb with hb | hb <;> simp [hb])]

theorem shF_clash {q : Int} {L : List (Int × Int)} {k : Nat} (h : k < L.length) (h1 : timeB L[k].1 = true) (h2 : mayB L[k].2 = true) (h3 : L[k].1 - q < 1440) : shF (some q) (L.drop k) = 7 := by
  rw [List.drop_eq_getElem_cons h, shF, if_pos ⟨h1, h2⟩, if_pos (by simp [h3])]

theorem shF_next {q : Int} {L : List (Int × Int)} {k : Nat} (h : k < L.length) (h1 : timeB L[k].1 = true) (h2 : mayB L[k].2 = true) (h3 : 1440 ≤ L[k].1 - q) : shF (some q) (L.drop k) = shF (prevAt L (k + 1)) (L.drop (k + 1)) := by
  rw [List.drop_eq_getElem_cons h, shF, if_pos ⟨h1, h2⟩, if_neg (by simp; omega), prevAt_succ L k h]

theorem shF_first {L : List (Int × Int)} {k : Nat} (h : k < L.length) (h1 : timeB L[k].1 = true) (h2 : mayB L[k].2 = true) : shF none (L.drop k) = shF (prevAt L (k + 1)) (L.drop (k + 1)) := by
  rw [List.drop_eq_getElem_cons h, shF, if_pos ⟨h1, h2⟩, if_neg (by simp), prevAt_succ L k h]

theorem may_any (n : Int) (w : World) :
    Calls Tryz.prog 57 #[.int .i64 n] w fun e w' => e = .returned (.bool (mayB n)) ∧ w = w' := by
  by_cases h1 : -900 ≤ n
  · by_cases h2 : n ≤ 900
    · go_enter Tryz.func57, Tryz.ntmps57
      go_wp2
      go_ret
      exact ⟨ret_bool (by simp [mayB, h1, h2]), rfl⟩
    · go_enter Tryz.func57, Tryz.ntmps57
      go_wp2
      go_ret
      exact ⟨ret_bool (by simp [mayB]; omega), rfl⟩
  · go_enter Tryz.func57, Tryz.ntmps57
    go_wp2
    go_ret
    exact ⟨ret_bool (by simp [mayB]; omega), rfl⟩

set_option maxHeartbeats 4000000 in
theorem zcheck_any (v : Value) (L : List (Int × Int)) (ah : Int) (w : World) (hL : PairsR w v L) :
    Calls Tryz.prog 11 #[.agg #[.int .i64 ah, v]] w fun e w' => e = .returned (errV (zfault ah L)) ∧ Below w.heap.size w w' := by
  obtain ⟨a, cap, rfl, hc1, hc2, hcell⟩ := pairsR_open hL
  unfold maxLen at hc2
  by_cases hl : 20 < L.length
  · have e := Lib.hid (show zfault ah L = 4 by rw [zfault, if_pos hl])
    go_enter Tryz.func11, Tryz.ntmps11
    go_wp2
    go_ret
    exact ⟨by rw [e.out]; rfl, (Below.refl _ _).alloc (Nat.le_refl _) _⟩
  by_cases hm : mayB ah = true
  · have e := Lib.hid (show zfault ah L = shF none L by rw [zfault, if_neg hl, if_pos hm])
    have hcap : L.length ≤ 20 := by omega
    go_enter Tryz.func11, Tryz.ntmps11
    go_wp2_with (go_at_call 57; refine (may_any _ _).mono ?_; rintro e w' ⟨rfl, rfl⟩)
    obtain ⟨w0, hw0⟩ : ∃ w0, w0 = w.alloc (.cells #[.int .i64 ah, .slice a L.length cap] 33) := ⟨_, rfl⟩
    rw [← hw0]
    have hb0 : Below w.heap.size w w0 := by rw [hw0]; exact (Below.refl _ _).alloc (Nat.le_refl _) _
    have z1 : w0.cell? ⟨w.heap.size, 1, none⟩ = some (.slice a L.length cap) := by rw [hw0]; simp
    have hl0 : w.heap.size < w0.heap.size := by rw [hw0]; simp
    have hcell0 : 0 < L.length → ∃ b off, a = some ⟨b, off, none⟩ ∧ ∀ i (hi : i < L.length), w0.cell? ⟨b, off + i * 2, none⟩ = some (.int .i64 L[i].1) ∧ w0.cell? ⟨b, off + i * 2 + 1, none⟩ = some (.int .i64 L[i].2) := by
      intro h
      obtain ⟨b, off, h1, h2⟩ := hcell h
      exact ⟨b, off, h1, fun i hi => ⟨cell_below hb0 (h2 i hi).1, cell_below hb0 (h2 i hi).2⟩⟩
    clear hw0 hcell hL
    go_loopg [18] L.length (fun g i wr => ∃ k : Nat, k ≤ L.length ∧ i = .int .i64 k ∧ Hid (shF (prevAt L k) (L.drop k) = shF none L) ∧ (∀ h : 0 < k, ∀ h2 : k - 1 < L.length, timeB L[k - 1].1 = true) ∧ g = L.length - k ∧ Below w0.heap.size w0 wr)
    case atStart => exact ⟨0, Nat.zero_le _, rfl, Lib.hid (by simp [prevAt]), fun h => absurd h (by omega), rfl, Below.refl _ _⟩
    case round =>
      obtain ⟨k, hk, rfl, hS, hpv, hg, hb⟩ := hrel
      have G := Lib.hid hg; clear hg
      by_cases hlt : k < L.length
      · obtain ⟨b, off, rfl, hcs⟩ := hcell0 (by omega)
        have c0 := cell_below hb (hcs k hlt).1
        have c1 := cell_below hb (hcs k hlt).2
        have zz := cell_below hb z1
        have hbs := hb.size
        have hlr : w.heap.size < wr.heap.size := by omega
        clear hcell0
        obtain ⟨x, hx⟩ : ∃ x, x = L[k].1 := ⟨_, rfl⟩
        obtain ⟨y, hy⟩ : ∃ y, y = L[k].2 := ⟨_, rfl⟩
        rw [← hx] at c0; rw [← hy] at c1
        have X := Lib.hid hx; have Y := Lib.hid hy; clear hx hy
        have HC := Lib.hid hcs; have HP := Lib.hid hpv; clear hcs hpv z1 hm hl
        have hbw : Below w.heap.size w wr := hb0.trans (hb.mono hb0.size)
        by_cases t1 : timeB x = true
        · obtain ⟨t2, t3⟩ := timeB_yes t1
          by_cases t4 : mayB y = true
          · by_cases k0 : 0 < k
            · have p1 := HP.out k0 (by omega)
              have hkm : k - 1 < L.length := by omega
              have d0 := cell_below hb (HC.out (k - 1) hkm).1
              obtain ⟨q, hq⟩ : ∃ q, q = L[k - 1].1 := ⟨_, rfl⟩
              rw [← hq] at d0 p1
              obtain ⟨p2, p3⟩ := timeB_yes p1
              have hpa : prevAt L k = some q := by rw [prevAt, if_neg (by omega), List.getElem?_eq_getElem hkm, hq]; rfl
              have PA := Lib.hid hpa
              have hd : decide ((0 : Int) < (k : Int)) = true := by simpa using k0
              have hbl : b < wr.heap.size := World.block_lt_of_cell? wr _ d0
              clear hq hpa p1
              by_cases hdiff : x - q < 1440
              · have S2 := Lib.hid (shF_clash (q := q) hlt (by rw [← X.out]; exact t1) (by rw [← Y.out]; exact t4) (by rw [← X.out]; exact hdiff))
                go_wp2_with (first | (go_at_call 58; refine (valid_any _ _).mono ?_; rintro e w' ⟨rfl, rfl⟩) | (go_at_call 57; refine (may_any _ _).mono ?_; rintro e w' ⟨rfl, rfl⟩))
                have s1 : IntKind.i64.wrap ((k : Int) - 1) = (k : Int) - 1 := IntWalk.i64_in _ (by omega)
                have s2 : (0 : Int) ≤ (k : Int) - 1 := by omega
                have s3 : (1 : Int) ≤ (k : Int) := by omega
                have s4 : ((k : Int) - 1).toNat = k - 1 := by omega
                have s5 : (k : Int) - 1 < (L.length : Int) := by omega
                have s6 : IntKind.i64.wrap (x - q) = x - q := IntWalk.i64_in _ (by omega)
                go_quiet (fail)
                clear s1 s2 s3 s4 s5 s6
                go_wp2
                go_ret
                exact ⟨by rw [e.out, ← hS.out, PA.out, S2.out]; rfl, below_drewN (hbw.alloc (by omega) _) _⟩
              · have S2 := Lib.hid (shF_next (q := q) hlt (by rw [← X.out]; exact t1) (by rw [← Y.out]; exact t4) (by rw [← X.out]; omega))
                go_wp2_with (first | (go_at_call 58; refine (valid_any _ _).mono ?_; rintro e w' ⟨rfl, rfl⟩) | (go_at_call 57; refine (may_any _ _).mono ?_; rintro e w' ⟨rfl, rfl⟩))
                have s1 : IntKind.i64.wrap ((k : Int) - 1) = (k : Int) - 1 := IntWalk.i64_in _ (by omega)
                have s2 : (0 : Int) ≤ (k : Int) - 1 := by omega
                have s3 : (1 : Int) ≤ (k : Int) := by omega
                have s4 : ((k : Int) - 1).toNat = k - 1 := by omega
                have s5 : (k : Int) - 1 < (L.length : Int) := by omega
                have s6 : IntKind.i64.wrap (x - q) = x - q := IntWalk.i64_in _ (by omega)
                go_quiet (fail)
                clear s1 s2 s3 s4 s5 s6
                go_wp2
                go_roundg (L.length - (k + 1))
                case measure => rw [G.out]; omega
                case rel => exact ⟨k + 1, by omega, by go_num, Lib.hid (by rw [← S2.out, ← PA.out]; exact hS.out), fun _ _ => by show timeB L[k].1 = true; rw [← X.out]; exact t1, rfl, below_drewN (hb.alloc hbs _) _⟩
            · have S2 := Lib.hid (shF_first hlt (by rw [← X.out]; exact t1) (by rw [← Y.out]; exact t4))
              have hd : decide ((0 : Int) < (k : Int)) = false := by simp; omega
              go_wp2_with (first | (go_at_call 58; refine (valid_any _ _).mono ?_; rintro e w' ⟨rfl, rfl⟩) | (go_at_call 57; refine (may_any _ _).mono ?_; rintro e w' ⟨rfl, rfl⟩))
              go_quiet (fail)
              go_wp2
              go_roundg (L.length - (k + 1))
              case measure => rw [G.out]; omega
              case rel => exact ⟨k + 1, by omega, by go_num, Lib.hid (by rw [← S2.out]; have := hS.out; rw [prevAt, if_pos (by omega)] at this; exact this), fun _ _ => by show timeB L[k].1 = true; rw [← X.out]; exact t1, rfl, below_drewN (hb.alloc hbs _) _⟩
          · have t4' : mayB y = false := by simpa using t4
            have S2 := Lib.hid (shF_bad (p := prevAt L k) hlt (.inr (by rw [← Y.out]; exact t4')))
            clear t4
            go_wp2_with (first | (go_at_call 58; refine (valid_any _ _).mono ?_; rintro e w' ⟨rfl, rfl⟩) | (go_at_call 57; refine (may_any _ _).mono ?_; rintro e w' ⟨rfl, rfl⟩))
            go_ret
            exact ⟨by rw [e.out, ← hS.out, S2.out]; rfl, hbw.alloc (by omega) _⟩
        · have t1' : timeB x = false := by simpa using t1
          have S2 := Lib.hid (shF_bad (p := prevAt L k) hlt (.inl (by rw [← X.out]; exact t1')))
          clear t1
          go_wp2_with (first | (go_at_call 58; refine (valid_any _ _).mono ?_; rintro e w' ⟨rfl, rfl⟩) | (go_at_call 57; refine (may_any _ _).mono ?_; rintro e w' ⟨rfl, rfl⟩))
          go_ret
          exact ⟨by rw [e.out, ← hS.out, S2.out]; rfl, hbw.alloc (by omega) _⟩
      · obtain rfl : k = L.length := by omega
        have S2 := Lib.hid (show shF (prevAt L L.length) (L.drop L.length) = 0 by rw [List.drop_length, shF])
        have hbw : Below w.heap.size w wr := hb0.trans (hb.mono hb0.size)
        clear hpv hcell0
        go_wp2
        go_ret
        exact ⟨by rw [e.out, ← hS.out, S2.out]; rfl, hbw⟩
  · have hm' : mayB ah = false := by simpa using hm
    have e := Lib.hid (show zfault ah L = 1 by rw [zfault, if_neg hl, if_neg hm])
    clear hm
    go_enter Tryz.func11, Tryz.ntmps11
    go_wp2_with (go_at_call 57; refine (may_any _ _).mono ?_; rintro e w' ⟨rfl, rfl⟩)
    go_ret
    exact ⟨by rw [e.out]; rfl, (Below.refl _ _).alloc (Nat.le_refl _) _⟩

end Go.Proofs.YtgelojhpanbnaaaGreatDoor

namespace Go.Proofs.YtgelojhpanbnaaaGreatDoor
open Go.RowKit

theorem shF_may : ∀ (L : List (Int × Int)) (p : Option Int), shF p L = 0 → ∀ s ∈ L, timeB s.1 = true ∧ mayB s.2 = true
  | [], _, _, s, hs => by cases hs
  | x :: r, p, h, s, hs => by
    rw [shF] at h
    split at h
    · rename_i h1
      split at h
      · cases h
      · rcases List.mem_cons.1 hs with rfl | hs
        · exact h1
        · exact shF_may r _ h s hs
    · cases h

theorem zfault_0 {ah : Int} {L : List (Int × Int)} (h : zfault ah L = 0) : L.length ≤ 20 ∧ mayB ah = true ∧ shF none L = 0 := by
  rw [zfault] at h
  split at h
  · cases h
  · split at h
    · exact ⟨by omega, by assumption, h⟩
    · cases h

theorem may_bd {n : Int} (h : mayB n = true) : -900 ≤ n ∧ n ≤ 900 := by simpa [mayB] using h

theorem fold_bd (t : Int) : ∀ (L : List (Int × Int)) (n : Int), mayB n = true → (∀ s ∈ L, mayB s.2 = true) → mayB (L.foldl (fun n s => if s.1 ≤ t then s.2 else n) n) = true
  | [], n, h, _ => h
  | s :: r, n, h, hs => by
    rw [List.foldl_cons]
    refine fold_bd t r _ ?_ (fun x hx => hs x (List.mem_cons_of_mem _ hx))
    split
    · exact hs s List.mem_cons_self
    · exact h

theorem zoneOf_bd {ah : Int} {L : List (Int × Int)} (h : zfault ah L = 0) (t : Int) : -900 ≤ zoneOf ah L t ∧ zoneOf ah L t ≤ 900 := by
  obtain ⟨_, h1, h2⟩ := zfault_0 h
  exact may_bd (fold_bd t L ah h1 fun s hs => (shF_may L none h2 s hs).2)

end Go.Proofs.YtgelojhpanbnaaaGreatDoor

namespace Go.Proofs.YtgelojhpanbnaaaGreatDoor
open Go.Lib

def aheads (ah : Int) (L : List (Int × Int)) : List Int := ah :: L.map (·.2)

def hitB (ah : Int) (L : List (Int × Int)) (t n : Int) : Bool := timeB (t - n) && (zoneOf ah L (t - n) == n)

def hits (ah : Int) (L : List (Int × Int)) (t : Int) (ns : List Int) : List Int := (ns.filter (hitB ah L t)).map (t - ·)

theorem hits_snoc (ah : Int) (L : List (Int × Int)) (t : Int) (ns : List Int) (n : Int) : hits ah L t (ns ++ [n]) = hits ah L t ns ++ (if hitB ah L t n = true then [t - n] else []) := by
  rw [hits, List.filter_append, List.map_append]
  congr 1
  by_cases h : hitB ah L t n = true <;> simp [h]

theorem hits_mem {ah : Int} {L : List (Int × Int)} {t : Int} {ns : List Int} {x : Int} : x ∈ hits ah L t ns ↔ t - x ∈ ns ∧ timeB x = true ∧ zoneOf ah L x = t - x := by
  simp only [hits, List.mem_map, List.mem_filter, hitB, Bool.and_eq_true, beq_iff_eq]
  constructor
  · rintro ⟨n, ⟨h1, h2, h3⟩, rfl⟩
    refine ⟨by rw [show t - (t - n) = n by omega]; exact h1, h2, by rw [h3]; omega⟩
  · rintro ⟨h1, h2, h3⟩
    exact ⟨t - x, ⟨h1, by rw [show t - (t - x) = x by omega]; exact h2, by rw [show t - (t - x) = x by omega]; exact h3⟩, by omega⟩

theorem hits_len (ah : Int) (L : List (Int × Int)) (t : Int) (ns : List Int) : (hits ah L t ns).length ≤ ns.length := by
  rw [hits, List.length_map]; exact List.length_filter_le _ _

def zoneAll (ah : Int) (L : List (Int × Int)) (t : Int) : List Int := compact ((hits ah L t (aheads ah L)).mergeSort fun x y => decide (x ≤ y))

theorem zoneOf_aheads (ah : Int) (L : List (Int × Int)) (t : Int) : zoneOf ah L t ∈ aheads ah L := by
  suffices h : ∀ (L : List (Int × Int)) (n : Int), L.foldl (fun n s => if s.1 ≤ t then s.2 else n) n ∈ n :: L.map (·.2) from h L ah
  intro L
  induction L with
  | nil => intro n; simp
  | cons s r ih =>
    intro n
    rw [List.foldl_cons]
    have h := ih (if s.1 ≤ t then s.2 else n)
    rw [List.map_cons]
    rcases List.mem_cons.1 h with h | h
    · rw [h]
      split <;> simp
    · exact List.mem_cons_of_mem _ (List.mem_cons_of_mem _ h)

theorem zoneAll_mem {ah : Int} {L : List (Int × Int)} {t x : Int} : x ∈ zoneAll ah L t ↔ timeB x = true ∧ zoneOf ah L x = t - x := by
  rw [zoneAll, sortC_mem, hits_mem]
  exact ⟨fun h => h.2, fun h => ⟨by rw [← h.2]; exact zoneOf_aheads ah L x, h⟩⟩

theorem zoneAll_rises (ah : Int) (L : List (Int × Int)) (t : Int) : (zoneAll ah L t).Pairwise (· < ·) := sortC_rises _

def tries (ah : Int) (L : List (Int × Int)) (k : Nat) : List Int := ((List.range k).map fun i : Nat => 900 - (i : Int)).filter fun n => (aheads ah L).contains n

theorem tries_succ (ah : Int) (L : List (Int × Int)) (k : Nat) : tries ah L (k + 1) = tries ah L k ++ (if (aheads ah L).contains (900 - (k : Int)) = true then [900 - (k : Int)] else []) := by
  rw [tries, List.range_succ, List.map_append, List.filter_append]
  congr 1
  by_cases h : (aheads ah L).contains (900 - (k : Int)) = true <;> simp only [List.map_cons, List.map_nil, List.filter_cons, h, List.filter_nil] <;> simp

theorem zoneAll_ref {ah : Int} {L : List (Int × Int)} (h : zfault ah L = 0) (t : Int) : hits ah L t (tries ah L 1801) = zoneAll ah L t := by
  refine rise_ext _ _ ?_ (zoneAll_rises ah L t) fun x => ?_
  · rw [hits, List.pairwise_map]
    refine List.Pairwise.sublist List.filter_sublist ?_
    refine List.Pairwise.sublist List.filter_sublist ?_
    rw [List.pairwise_map]
    exact List.pairwise_lt_range.imp fun {a b} h => by omega
  · rw [hits_mem, zoneAll_mem]
    refine ⟨fun h => h.2, fun hx => ⟨?_, hx⟩⟩
    have hb := zoneOf_bd h x
    have hm := zoneOf_aheads ah L x
    rw [hx.2] at hb hm
    rw [tries, List.mem_filter, List.mem_map]
    exact ⟨⟨(900 - (t - x)).toNat, List.mem_range.2 (by omega), by omega⟩, by simpa using hm⟩

end Go.Proofs.YtgelojhpanbnaaaGreatDoor

namespace Go.Proofs.YtgelojhpanbnaaaGreatDoor
open Go.RowKit
set_option linter.unusedVariables false

def cmpQ (a b : Int) : Int := if a < b then -1 else if b < a then 1 else 0

theorem cmpq_any (a b : Int) (w : World) :
    Calls Tryz.prog 101 #[.int .i64 a, .int .i64 b] w fun e w' => e = .returned (.int .i64 (cmpQ a b)) ∧ w = w' := by
  by_cases h : a < b
  · have E := Lib.hid (show cmpQ a b = -1 by rw [cmpQ, if_pos h])
    go_enter Tryz.func101, Tryz.ntmps101
    go_wp2
    go_ret
    exact ⟨by rw [E.out]; rfl, rfl⟩
  · by_cases h2 : b < a
    · have E := Lib.hid (show cmpQ a b = 1 by rw [cmpQ, if_neg h, if_pos h2])
      go_enter Tryz.func101, Tryz.ntmps101
      go_wp2
      go_ret
      exact ⟨by rw [E.out]; rfl, rfl⟩
    · have E := Lib.hid (show cmpQ a b = 0 by rw [cmpQ, if_neg h, if_neg h2])
      go_enter Tryz.func101, Tryz.ntmps101
      go_wp2
      go_ret
      exact ⟨by rw [E.out]; rfl, rfl⟩

theorem anyq_no {α : Type} {p : α → Bool} {L : List α} {k : Nat} (h : k < L.length) (hk : (L.take k).any p = false) (hp : p L[k] = false) : (L.take (k + 1)).any p = false := by
  rw [List.take_succ_eq_append_getElem h, List.any_append, hk, Bool.false_or]; simp [hp]

def orQ (L : List Int) : Int := (L.find? fun x => x != 0).getD 0

theorem orQ_yes {L : List Int} {k : Nat} (h : k < L.length) (hk : (L.take k).any (fun x => x != 0) = false) (hp : L[k] ≠ 0) : orQ L = L[k] := by
  have e : L = L.take k ++ L[k] :: L.drop (k + 1) := by rw [← List.drop_eq_getElem_cons h, List.take_append_drop]
  have h1 : (L.take k).find? (fun x => x != 0) = none := by
    rw [List.find?_eq_none]; intro x hx hc
    exact absurd (List.any_eq_true.2 ⟨x, hx, hc⟩) (by rw [hk]; simp)
  rw [orQ]
  conv => lhs; rw [e]
  rw [List.find?_append, h1, Option.none_or, List.find?_cons_of_pos (by simpa using hp)]
  rfl

theorem orQ_no {L : List Int} (hk : L.any (fun x => x != 0) = false) : orQ L = 0 := by
  have h1 : L.find? (fun x => x != 0) = none := by
    rw [List.find?_eq_none]; intro x hx hc
    exact absurd (List.any_eq_true.2 ⟨x, hx, hc⟩) (by rw [hk]; simp)
  rw [orQ, h1]; rfl

theorem orq_any (v : Value) (L : List Int) (w : World) (hL : IntsR w v L) :
    Calls Tryz.prog 100 #[v] w fun e w' => e = .returned (.int .i64 (orQ L)) ∧ w = w' := by
  obtain ⟨a, cap, rfl, hc1, hc2, hcell⟩ := intsR_open hL
  unfold maxLen at hc2
  have HC := Lib.hid hcell; clear hcell hL
  go_enter Tryz.func100, Tryz.ntmps100
  go_wp2
  go_loopg [8] L.length (fun g i wr => ∃ k : Nat, k ≤ L.length ∧ i = .int .i64 k ∧ Hid ((L.take k).any (fun x => x != 0) = false) ∧ g = L.length - k ∧ wr = w)
  case atStart => exact ⟨0, Nat.zero_le _, rfl, Lib.hid (by simp), rfl, rfl⟩
  case round =>
    obtain ⟨k, hk, rfl, hS, hg, rfl⟩ := hrel
    have G := Lib.hid hg; clear hg
    by_cases hlt : k < L.length
    · obtain ⟨b, off, rfl, hcs⟩ := HC.out (by omega)
      have c0 := hcs k hlt
      obtain ⟨x, hx⟩ : ∃ x, x = L[k] := ⟨_, rfl⟩
      rw [← hx] at c0
      have X := Lib.hid hx; clear hx hcs
      by_cases he : x = 0
      · have E := Lib.hid (anyq_no (p := fun x => x != 0) hlt hS.out (by rw [← X.out, he]; rfl))
        have V : (x != 0) = false := by simpa using he
        clear he
        go_wp2
        go_roundg (L.length - (k + 1))
        case measure => rw [G.out]; omega
        case rel => exact ⟨k + 1, by omega, by go_num, E, rfl, rfl⟩
      · have E := Lib.hid (orQ_yes hlt hS.out (by rw [← X.out]; exact he))
        have V : (x != 0) = true := by simpa using he
        clear he
        go_wp2
        go_ret
        exact ⟨by rw [E.out, ← X.out]; rfl, rfl⟩
    · obtain rfl : k = L.length := by omega
      have E := Lib.hid (orQ_no (L := L) (by have := hS.out; rwa [List.take_length] at this))
      clear hS
      go_wp2
      go_ret
      exact ⟨by rw [E.out]; rfl, rfl⟩

end Go.Proofs.YtgelojhpanbnaaaGreatDoor

namespace Go.Proofs.YtgelojhpanbnaaaGreatDoor
open Go.RowKit
set_option linter.unusedSimpArgs false
set_option linter.unusedVariables false

section
variable {P : Program} {ops : Array Oper} {rest : List Oper} {o : Oper} {a : Act} {Q : Exit → Act → World → Prop}

theorem run_append_zeroR {w : World} (base : Nat) (t ty e : TypeId) (i : TypeInfo) (size : Nat) (ht : P.underlying t = some (.slice e)) (hi : P.info? e = some i)
    (v : Value) (n : Nat) (xs : List Value) (hown : w.ownsRow base e size v n xs) (p : Option Addr) (c : Nat) :
    (Builtin.append_ #[t, t] ty #[v, .slice p 0 c]).run P w = .ok v w := by
  rcases hown.2 with ⟨rfl, rfl⟩ | ⟨g, cap, cur, rfl, _, _, hnc, _⟩
  · cases p <;> simp [Builtin.append_, run_underlying ht, sizeOf, typeInfo, hi, Builtin.lenOf, Builtin.firstCells, loadCells, loadCellsFrom]
  · cases p <;> simp [Builtin.append_, run_underlying ht, sizeOf, typeInfo, hi, Builtin.lenOf, Builtin.firstCells, hnc, storeCells, loadCells, loadCellsFrom]

theorem wpList_append_zeroR {w : World} (hgd : o.guard = none) (s x : Operand) (t : TypeId)
    (ho : o.op = .call { callee := .builtin .append, args := #[s, x], argTypes := #[t, t] })
    (base : Nat) (e : TypeId) (i : TypeInfo) (size : Nat) (ht : P.underlying t = some (.slice e)) (hi : P.info? e = some i)
    (v : Value) (n : Nat) (xs : List Value) (hs : a.eval s = v) (hown : w.ownsRow base e size v n xs) (p : Option Addr) (c : Nat) (hx : a.eval x = .slice p 0 c)
    (h : wpList P ops Q rest (a.put o.dst v) w) : wpList P ops Q (o :: rest) a w := by
  refine wpList_plain hgd fun K hK => ?_
  have hrun := run_append_zeroR (P := P) (w := w) base t o.type e i size ht hi v n xs hown p c
  unfold Oper.wp
  simp [execOp, ho, resolve, invoke, builtin, hs, hx, hrun, Result.andThen]
  exact hK _ _ h

theorem wpList_append_row {w : World} (hgd : o.guard = none) (s x : Operand) (t : TypeId)
    (ho : o.op = .call { callee := .builtin .append, args := #[s, x], argTypes := #[t, t] })
    (e : TypeId) (i : TypeInfo) (z : Value) (k bytes : Nat) (ht : P.underlying t = some (.slice e)) (hi : P.info? e = some i) (hz : i.zero = some z)
    (hsize : i.size = k) (hby : i.bytes = bytes) (hzs : z.cells.size = k) (hsz : 0 < k)
    (base : Nat) (v vx : Value) (n m : Nat) (xs ys : List Value) (hs : a.eval s = v) (hx : a.eval x = vx) (hown : w.ownsRow base e k v n xs) (hL : Reads w vx k m ys)
    (h1 : ∀ u ∈ ys, u.oneCell' = true) (hbase : base ≤ w.heap.size) (hb : (n + m) * bytes ≤ 140737488355328) (h63 : n + m ≤ maxLen)
    (h : ∀ v' w', w'.ownsRow base e k v' (n + m) (xs ++ ys) → Below base w w' → wpList P ops Q rest (a.put o.dst v') w') : wpList P ops Q (o :: rest) a w := by
  obtain ⟨p, cap, rfl, k1, k2, k3, k4⟩ := hL
  by_cases h0 : m = 0
  · subst h0
    obtain rfl : ys = [] := List.length_eq_zero_iff.1 (by rw [k1]; simp)
    exact wpList_append_zeroR hgd s x _ ho base e i k ht hi v n xs hs hown p cap hx (h _ _ (by rw [List.append_nil]; exact hown) (Below.refl _ _))
  · obtain ⟨b, off, rfl, hc⟩ := k4 (by omega)
    refine wpList_append_lies _ hgd s x _ ho base e i z k bytes ht hi hz hsize hby hzs hsz v n xs hs hown ⟨b, off, none⟩ m cap ys hx k1 (fun j u hu => ?_) h1 (by omega) h63 hb hbase _ rfl ?_
    · have hadd : (⟨b, off, none⟩ : Addr).add j = ⟨b, off + j, none⟩ := by unfold Addr.add; split <;> simp_all
      rw [hadd]; exact hc j u hu
    · intro g c2 w' hown' hg _ _
      exact h _ w' hown' ((Below.refl _ _).grown hg hbase (ownBlock_ge hown))

end

theorem reads_one {w : World} {b off k : Nat} {xs : List Value} (hk : xs.length = k) (hc : ∀ j u, xs[j]? = some u → w.cell? ⟨b, off + j, none⟩ = some u) : Reads w (.slice (some ⟨b, off, none⟩) 1 1) k 1 xs :=
  ⟨_, 1, rfl, by omega, Nat.le_refl _, by decide, fun _ => ⟨b, off, rfl, hc⟩⟩

theorem owns_cells {w : World} {base k n : Nat} {e : TypeId} {v : Value} {xs : List Value} (h : w.ownsRow base e k v n xs) : ∃ a cap, v = .slice a n cap ∧ cap ≤ maxLen ∧ n ≤ cap ∧ (0 < n → ∃ g, a = some ⟨g, 0, none⟩ ∧ base ≤ g ∧ ∀ j u, xs[j]? = some u → w.cell? ⟨g, j, none⟩ = some u) := by
  rcases h.2 with ⟨rfl, h0⟩ | ⟨g, cap, cur, rfl, hb, hg, hn, hc, hs, ht⟩
  · exact ⟨none, 0, by rw [h0], by decide, by omega, fun hp => by omega⟩
  · refine ⟨_, cap, rfl, hc, hn, fun _ => ⟨g, rfl, hb, fun j u hj => ?_⟩⟩
    have h3 : (cur.toList.take (n * k))[j]? = some u := by rw [ht]; exact hj
    rw [List.getElem?_take] at h3
    split at h3
    · simp [World.cell?, hg]
      simpa using h3
    · cases h3

end Go.Proofs.YtgelojhpanbnaaaGreatDoor

namespace Go.Proofs.YtgelojhpanbnaaaGreatDoor
open Go.RowKit Go.Sort
set_option linter.unusedVariables false
set_option linter.unusedSectionVars false

section
variable {α : Type} [Inhabited α] {enc : α → List Value} {k : Nat}

theorem flatMap_len (hk : ∀ x, (enc x).length = k) : ∀ L : List α, (L.flatMap enc).length = L.length * k
  | [] => by simp
  | x :: r => by rw [List.flatMap_cons, List.length_append, hk, flatMap_len hk r, List.length_cons, Nat.add_mul]; omega

theorem flatMap_at (hk : ∀ x, (enc x).length = k) : ∀ (L : List α) (i c : Nat) (h : i < L.length), c < k → (L.flatMap enc)[i * k + c]? = (enc L[i])[c]?
  | x :: r, 0, c, h, hc => by
    rw [Nat.zero_mul, Nat.zero_add, List.flatMap_cons, List.getElem?_append_left (by rw [hk]; exact hc)]; rfl
  | x :: r, i + 1, c, h, hc => by
    rw [List.flatMap_cons, List.getElem?_append_right (by rw [hk, Nat.add_mul]; omega), hk]
    have e : (i + 1) * k + c - k = i * k + c := by rw [Nat.add_mul]; omega
    rw [e, flatMap_at hk r i c (by simpa using h) hc]; rfl

theorem flatK_list (hk : ∀ x, (enc x).length = k) (L : List α) : (flatK enc k L.toArray).toList = L.flatMap enc := by
  apply List.ext_getElem?
  intro t
  by_cases ht : t < L.length * k
  · have hk0 : 0 < k := by
      rcases Nat.eq_zero_or_pos k with h | h
      · subst h; simp at ht
      · exact h
    have hi : t / k < L.length := by rw [Nat.div_lt_iff_lt_mul hk0]; exact ht
    have hc : t % k < k := Nat.mod_lt _ hk0
    have e : t / k * k + t % k = t := by rw [Nat.mul_comm]; exact Nat.div_add_mod t k
    have h2 := flatMap_at hk L (t / k) (t % k) hi hc
    rw [e] at h2
    rw [h2, Array.getElem?_toList, Array.getElem?_eq_getElem (by simpa using ht)]
    have h3 := get_flatK enc k L.toArray t (by simpa using ht)
    rw [getElem!_pos (flatK enc k L.toArray) t (by simpa using ht)] at h3
    rw [h3]
    have h4 : L.toArray[t / k]! = L[t / k] := by rw [getElem!_pos _ _ (by simpa using hi)]; simp
    rw [h4, getElem!_pos _ _ (by rw [hk]; exact hc), List.getElem?_eq_getElem]
  · have h1 := flatMap_len hk L
    have h2 : (flatK enc k L.toArray).toList.length = L.length * k := by simp
    rw [List.getElem?_eq_none (by omega), List.getElem?_eq_none (by omega)]

theorem holds_id_block {w : World} {g : Nat} {cur : Array Value} {e : TypeId} {F : Array Value} (hb : w.heap[g]? = some (.cells cur e (0, 0))) (ht : cur.toList.take F.size = F.toList) : Holds id w g 0 F := by
  intro j hj
  refine ⟨?_, by simp [World.frozen?, hb]⟩
  have h1 : (cur.toList.take F.size)[j]? = F.toList[j]? := by rw [ht]
  rw [List.getElem?_take_of_lt hj] at h1
  simp only [World.cell?, hb, Nat.zero_add]
  simp only [Option.isSome_none, Bool.false_eq_true, if_false]
  rw [← Array.getElem?_toList, h1]
  simp [hj]

theorem heap_putId {w : World} {g n : Nat} {os : Array Obj} {cur : Array Value} {e : TypeId} {fr : Nat × Nat} (F : Array Value) (hb : w.heap[g]? = some (.cells cur e fr)) :
    (grow (putRow id (Sort.ahead w n) g 0 F) os).heap[g]? = some (.cells (putCells id 0 F cur) e fr) := by
  have hg : g < w.heap.size := (Array.getElem?_eq_some_iff.1 hb).1
  rw [heap_grow_old _ _ (by simpa using hg)]
  simp [putRow, mapBlock, Sort.ahead, Array.getElem?_modify, hb, onCells]

theorem grownBy_putId {w : World} {g n : Nat} {os : Array Obj} (F : Array Value) : w.grownBy (grow (putRow id (Sort.ahead w n) g 0 F) os) (some g) := by
  refine ⟨rfl, rfl, rfl, by simp, fun k hk hne => ?_⟩
  rw [heap_grow_old _ _ (by simpa using hk)]
  have : g ≠ k := fun e => hne (by rw [e])
  simp [putRow, mapBlock, Sort.ahead, Array.getElem?_modify, this]

theorem take_putId (cur F : Array Value) (h : F.size ≤ cur.size) : (putCells id 0 F cur).toList.take F.size = F.toList := by
  apply List.ext_getElem?
  intro j
  by_cases hj : j < F.size
  · rw [List.getElem?_take_of_lt hj, Array.getElem?_toList]
    simp [putCells, hj, show j < cur.size by omega]
  · rw [List.getElem?_take_eq_none (by omega), List.getElem?_eq_none (by simp; omega)]

theorem ownsRow_sortedK (hk : ∀ x, (enc x).length = k) {w : World} {base g cap n : Nat} {e : TypeId} {os : Array Obj} {cur : Array Value} {m : Nat} (ts : List α) (hl : ts.length = m) (hbase : base ≤ g) (hb : w.heap[g]? = some (.cells cur e (0, 0)))
    (h1 : m ≤ cap) (h2 : cap ≤ maxLen) (h3 : cur.size = cap * k) :
    (sortWorldK enc k w g 0 n ts.toArray os).ownsRow base e k (.slice (some ⟨g, 0, none⟩) m cap) m (ts.flatMap enc) := by
  have hF : (flatK enc k ts.toArray).toList = ts.flatMap enc := flatK_list hk ts
  have hs : (flatK enc k ts.toArray).size = m * k := by rw [size_flatK]; simp [hl]
  refine ⟨by rw [flatMap_len hk, hl], .inr ⟨g, cap, _, rfl, hbase, heap_putId (flatK enc k ts.toArray) hb, h1, h2, by simp [putCells, h3], ?_⟩⟩
  rw [← hs, ← hF]
  exact take_putId cur _ (by rw [hs, h3]; exact Nat.mul_le_mul_right k h1)

theorem holdsK_own (hk : ∀ x, (enc x).length = k) {w : World} {g : Nat} {cur : Array Value} {e : TypeId} (L : List α) (hb : w.heap[g]? = some (.cells cur e (0, 0))) (ht : cur.toList.take (L.length * k) = L.flatMap enc) : HoldsK enc k w g 0 L.toArray := by
  refine holds_id_block hb ?_
  rw [size_flatK, flatK_list hk]
  simpa using ht

end

end Go.Proofs.YtgelojhpanbnaaaGreatDoor
