/- Contracts of zone.may, zone.Check, zone.Of, zone.Ahead, zone.Local. -/
import Derived.Test.YtdamncbgobjpdaaDoorClockA
import Derived.Test.YtdamncbgobjpdaaDoorSl
import Derived.Deep.LoopGhost
import Derived.IntWalk
namespace Go.Proofs.YtdamncbgobjpdaaDoor
open Go.RowKit

/-- how far ahead a zone is, at a time. -/
def zoneOf (ah : Int) (L : List (Int × Int)) (t : Int) : Int := L.foldl (fun n s => if s.1 ≤ t then s.2 else n) ah

theorem zoneOf_snoc (ah : Int) (L : List (Int × Int)) (t : Int) (k : Nat) (h : k < L.length) : zoneOf ah (L.take (k + 1)) t = if L[k].1 ≤ t then L[k].2 else zoneOf ah (L.take k) t := by
  rw [List.take_succ_eq_append_getElem h, zoneOf, List.foldl_append]; rfl

set_option maxHeartbeats 1000000 in
theorem zof_any (v : Value) (L : List (Int × Int)) (ah t : Int) (w : World) (hL : PairsR w v L) :
    Calls Tryd.prog 102 #[.agg #[.int .i64 ah, v], .int .i64 t] w fun e w' => e = .returned (.int .i64 (zoneOf ah L t)) ∧ Below w.heap.size w w' := by
  obtain ⟨a, cap, rfl, hc1, hc2, hcell⟩ := pairsR_open hL
  unfold maxLen at hc2
  go_enter Tryd.func102, Tryd.ntmps102
  go_wp2
  go_loopg [5, 13] L.length (fun g nv i wr => ∃ k : Nat, k ≤ L.length ∧ i = .int .i64 k ∧ nv = .int .i64 (zoneOf ah (L.take k) t) ∧ g = L.length - k ∧ Below w.heap.size w wr)
  case atStart => exact ⟨0, Nat.zero_le _, rfl, rfl, rfl, (Below.refl _ _).alloc (Nat.le_refl _) _⟩
  case round =>
    obtain ⟨k, hk, rfl, rfl, hg, hb⟩ := hrel
    have G := Lib.hid hg; clear hg
    by_cases hlt : k < L.length
    · obtain ⟨b, off, rfl, hcs⟩ := hcell (by omega)
      have c0 := cell_below hb (hcs k hlt).1
      have c1 := cell_below hb (hcs k hlt).2
      have Z := Lib.hid (zoneOf_snoc ah L t k hlt)
      have hbs := hb.size
      clear hcs hcell hL
      obtain ⟨x, hx⟩ : ∃ x, x = L[k].1 := ⟨_, rfl⟩
      obtain ⟨y, hy⟩ : ∃ y, y = L[k].2 := ⟨_, rfl⟩
      rw [← hx] at c0; rw [← hy] at c1
      have X := Lib.hid hx; have Y := Lib.hid hy; clear hx hy
      by_cases ht : x ≤ t
      · go_wp2
        go_roundg (L.length - (k + 1))
        case measure => rw [G.out]; omega
        case rel => exact ⟨k + 1, by omega, by go_num, by rw [Z.out, if_pos (by rw [← X.out]; exact ht), ← Y.out], rfl, hb.alloc hbs _⟩
      · go_wp2
        go_roundg (L.length - (k + 1))
        case measure => rw [G.out]; omega
        case rel => exact ⟨k + 1, by omega, by go_num, by rw [Z.out, if_neg (by rw [← X.out]; omega)], rfl, hb.alloc hbs _⟩
    · obtain rfl : k = L.length := by omega
      have e := Lib.hid (show zoneOf ah (L.take L.length) t = zoneOf ah L t by rw [List.take_length])
      go_wp2
      go_ret
      exact ⟨by rw [← e.out]; rfl, hb⟩

/-- may a zone be so far ahead? -/
def mayB (n : Int) : Bool := decide (-900 ≤ n) && decide (n ≤ 900)

/-- the fault of shifts behind one at p. -/
def shF : Option Int → List (Int × Int) → Int
  | _, [] => 0
  | p, s :: r => if timeB s.1 = true ∧ mayB s.2 = true then (if (p.map fun q => decide (s.1 - q < 1440)) = some true then 7 else shF (some s.1) r) else 1

/-- the fault of a zone. -/
def zfault (ah : Int) (L : List (Int × Int)) : Int := if 20 < L.length then 4 else if mayB ah = true then shF none L else 1

def prevAt (L : List (Int × Int)) (k : Nat) : Option Int := if k = 0 then none else (L[k - 1]?).map (·.1)

theorem prevAt_succ (L : List (Int × Int)) (k : Nat) (h : k < L.length) : prevAt L (k + 1) = some L[k].1 := by simp [prevAt, h]

theorem shF_bad {p : Option Int} {L : List (Int × Int)} {k : Nat} (h : k < L.length) (hb : timeB L[k].1 = false ∨ mayB L[k].2 = false) : shF p (L.drop k) = 1 := by
  rw [List.drop_eq_getElem_cons h, shF, if_neg (by rcases hb with hb | hb <;> simp [hb])]

theorem shF_clash {q : Int} {L : List (Int × Int)} {k : Nat} (h : k < L.length) (h1 : timeB L[k].1 = true) (h2 : mayB L[k].2 = true) (h3 : L[k].1 - q < 1440) : shF (some q) (L.drop k) = 7 := by
  rw [List.drop_eq_getElem_cons h, shF, if_pos ⟨h1, h2⟩, if_pos (by simp [h3])]

theorem shF_next {q : Int} {L : List (Int × Int)} {k : Nat} (h : k < L.length) (h1 : timeB L[k].1 = true) (h2 : mayB L[k].2 = true) (h3 : 1440 ≤ L[k].1 - q) : shF (some q) (L.drop k) = shF (prevAt L (k + 1)) (L.drop (k + 1)) := by
  rw [List.drop_eq_getElem_cons h, shF, if_pos ⟨h1, h2⟩, if_neg (by simp; omega), prevAt_succ L k h]

theorem shF_first {L : List (Int × Int)} {k : Nat} (h : k < L.length) (h1 : timeB L[k].1 = true) (h2 : mayB L[k].2 = true) : shF none (L.drop k) = shF (prevAt L (k + 1)) (L.drop (k + 1)) := by
  rw [List.drop_eq_getElem_cons h, shF, if_pos ⟨h1, h2⟩, if_neg (by simp), prevAt_succ L k h]

theorem may_any (n : Int) (w : World) :
    Calls Tryd.prog 101 #[.int .i64 n] w fun e w' => e = .returned (.bool (mayB n)) ∧ w = w' := by
  by_cases h1 : -900 ≤ n
  · by_cases h2 : n ≤ 900
    · go_enter Tryd.func101, Tryd.ntmps101
      go_wp2
      go_ret
      exact ⟨ret_bool (by simp [mayB, h1, h2]), rfl⟩
    · go_enter Tryd.func101, Tryd.ntmps101
      go_wp2
      go_ret
      exact ⟨ret_bool (by simp [mayB]; omega), rfl⟩
  · go_enter Tryd.func101, Tryd.ntmps101
    go_wp2
    go_ret
    exact ⟨ret_bool (by simp [mayB]; omega), rfl⟩

set_option maxHeartbeats 4000000 in
theorem zcheck_any (v : Value) (L : List (Int × Int)) (ah : Int) (w : World) (hL : PairsR w v L) :
    Calls Tryd.prog 60 #[.agg #[.int .i64 ah, v]] w fun e w' => e = .returned (errV (zfault ah L)) ∧ Below w.heap.size w w' := by
  obtain ⟨a, cap, rfl, hc1, hc2, hcell⟩ := pairsR_open hL
  unfold maxLen at hc2
  by_cases hl : 20 < L.length
  · have e := Lib.hid (show zfault ah L = 4 by rw [zfault, if_pos hl])
    go_enter Tryd.func60, Tryd.ntmps60
    go_wp2
    go_ret
    exact ⟨by rw [e.out]; rfl, (Below.refl _ _).alloc (Nat.le_refl _) _⟩
  by_cases hm : mayB ah = true
  · have e := Lib.hid (show zfault ah L = shF none L by rw [zfault, if_neg hl, if_pos hm])
    have hcap : L.length ≤ 20 := by omega
    go_enter Tryd.func60, Tryd.ntmps60
    go_wp2_with (go_at_call 101; refine (may_any _ _).mono ?_; rintro e w' ⟨rfl, rfl⟩)
    obtain ⟨w0, hw0⟩ : ∃ w0, w0 = w.alloc (.cells #[.int .i64 ah, .slice a L.length cap] 100) := ⟨_, rfl⟩
    rw [← hw0]
    have hb0 : Below w.heap.size w w0 := by rw [hw0]; exact (Below.refl _ _).alloc (Nat.le_refl _) _
    have z1 : w0.cell? ⟨w.heap.size, 1, none⟩ = some (.slice a L.length cap) := by rw [hw0]; simp
    have hl0 : w.heap.size < w0.heap.size := by rw [hw0]; simp
    have hcell0 : 0 < L.length → ∃ b off, a = some ⟨b, off, none⟩ ∧ ∀ i (hi : i < L.length), w0.cell? ⟨b, off + i * 2, none⟩ = some (.int .i64 L[i].1) ∧ w0.cell? ⟨b, off + i * 2 + 1, none⟩ = some (.int .i64 L[i].2) := by
      intro h
      obtain ⟨b, off, h1, h2⟩ := hcell h
      exact ⟨b, off, h1, fun i hi => ⟨cell_below hb0 (h2 i hi).1, cell_below hb0 (h2 i hi).2⟩⟩
    clear hw0 hcell hL
    go_loopg [18] L.length (fun g i wr => ∃ k : Nat, k ≤ L.length ∧ i = .int .i64 k ∧ Hid (shF (prevAt L k) (L.drop k) = shF none L) ∧ (∀ h : 0 < k, ∀ h2 : k - 1 < L.length, timeB L[k - 1].1 = true) ∧ g = L.length - k ∧ Below w0.heap.size w0 wr)
    case atStart => exact ⟨0, Nat.zero_le _, rfl, Lib.hid (by simp [prevAt]), fun h => absurd h (by omega), rfl, Below.refl _ _⟩
    case round =>
      obtain ⟨k, hk, rfl, hS, hpv, hg, hb⟩ := hrel
      have G := Lib.hid hg; clear hg
      by_cases hlt : k < L.length
      · obtain ⟨b, off, rfl, hcs⟩ := hcell0 (by omega)
        have c0 := cell_below hb (hcs k hlt).1
        have c1 := cell_below hb (hcs k hlt).2
        have zz := cell_below hb z1
        have hbs := hb.size
        have hlr : w.heap.size < wr.heap.size := by omega
        clear hcell0
        obtain ⟨x, hx⟩ : ∃ x, x = L[k].1 := ⟨_, rfl⟩
        obtain ⟨y, hy⟩ : ∃ y, y = L[k].2 := ⟨_, rfl⟩
        rw [← hx] at c0; rw [← hy] at c1
        have X := Lib.hid hx; have Y := Lib.hid hy; clear hx hy
        have HC := Lib.hid hcs; have HP := Lib.hid hpv; clear hcs hpv z1 hm hl
        have hbw : Below w.heap.size w wr := hb0.trans (hb.mono hb0.size)
        by_cases t1 : timeB x = true
        · obtain ⟨t2, t3⟩ := timeB_yes t1
          by_cases t4 : mayB y = true
          · by_cases k0 : 0 < k
            · have p1 := HP.out k0 (by omega)
              have hkm : k - 1 < L.length := by omega
              have d0 := cell_below hb (HC.out (k - 1) hkm).1
              obtain ⟨q, hq⟩ : ∃ q, q = L[k - 1].1 := ⟨_, rfl⟩
              rw [← hq] at d0 p1
              obtain ⟨p2, p3⟩ := timeB_yes p1
              have hpa : prevAt L k = some q := by rw [prevAt, if_neg (by omega), List.getElem?_eq_getElem hkm, hq]; rfl
              have PA := Lib.hid hpa
              have hd : decide ((0 : Int) < (k : Int)) = true := by simpa using k0
              have hbl : b < wr.heap.size := World.block_lt_of_cell? wr _ d0
              clear hq hpa p1
              by_cases hdiff : x - q < 1440
              · have S2 := Lib.hid (shF_clash (q := q) hlt (by rw [← X.out]; exact t1) (by rw [← Y.out]; exact t4) (by rw [← X.out]; exact hdiff))
                go_wp2_with (first | (go_at_call 68; refine (valid_any _ _).mono ?_; rintro e w' ⟨rfl, rfl⟩) | (go_at_call 101; refine (may_any _ _).mono ?_; rintro e w' ⟨rfl, rfl⟩))
                have s1 : IntKind.i64.wrap ((k : Int) - 1) = (k : Int) - 1 := IntWalk.i64_in _ (by omega)
                have s2 : (0 : Int) ≤ (k : Int) - 1 := by omega
                have s3 : (1 : Int) ≤ (k : Int) := by omega
                have s4 : ((k : Int) - 1).toNat = k - 1 := by omega
                have s5 : (k : Int) - 1 < (L.length : Int) := by omega
                have s6 : IntKind.i64.wrap (x - q) = x - q := IntWalk.i64_in _ (by omega)
                go_quiet (fail)
                clear s1 s2 s3 s4 s5 s6
                go_wp2
                go_ret
                exact ⟨by rw [e.out, ← hS.out, PA.out, S2.out]; rfl, below_drewN (hbw.alloc (by omega) _) _⟩
              · have S2 := Lib.hid (shF_next (q := q) hlt (by rw [← X.out]; exact t1) (by rw [← Y.out]; exact t4) (by rw [← X.out]; omega))
                go_wp2_with (first | (go_at_call 68; refine (valid_any _ _).mono ?_; rintro e w' ⟨rfl, rfl⟩) | (go_at_call 101; refine (may_any _ _).mono ?_; rintro e w' ⟨rfl, rfl⟩))
                have s1 : IntKind.i64.wrap ((k : Int) - 1) = (k : Int) - 1 := IntWalk.i64_in _ (by omega)
                have s2 : (0 : Int) ≤ (k : Int) - 1 := by omega
                have s3 : (1 : Int) ≤ (k : Int) := by omega
                have s4 : ((k : Int) - 1).toNat = k - 1 := by omega
                have s5 : (k : Int) - 1 < (L.length : Int) := by omega
                have s6 : IntKind.i64.wrap (x - q) = x - q := IntWalk.i64_in _ (by omega)
                go_quiet (fail)
                clear s1 s2 s3 s4 s5 s6
                go_wp2
                go_roundg (L.length - (k + 1))
                case measure => rw [G.out]; omega
                case rel => exact ⟨k + 1, by omega, by go_num, Lib.hid (by rw [← S2.out, ← PA.out]; exact hS.out), fun _ _ => by show timeB L[k].1 = true; rw [← X.out]; exact t1, rfl, below_drewN (hb.alloc hbs _) _⟩
            · have S2 := Lib.hid (shF_first hlt (by rw [← X.out]; exact t1) (by rw [← Y.out]; exact t4))
              have hd : decide ((0 : Int) < (k : Int)) = false := by simp; omega
              go_wp2_with (first | (go_at_call 68; refine (valid_any _ _).mono ?_; rintro e w' ⟨rfl, rfl⟩) | (go_at_call 101; refine (may_any _ _).mono ?_; rintro e w' ⟨rfl, rfl⟩))
              go_quiet (fail)
              go_wp2
              go_roundg (L.length - (k + 1))
              case measure => rw [G.out]; omega
              case rel => exact ⟨k + 1, by omega, by go_num, Lib.hid (by rw [← S2.out]; have := hS.out; rw [prevAt, if_pos (by omega)] at this; exact this), fun _ _ => by show timeB L[k].1 = true; rw [← X.out]; exact t1, rfl, below_drewN (hb.alloc hbs _) _⟩
          · have t4' : mayB y = false := by simpa using t4
            have S2 := Lib.hid (shF_bad (p := prevAt L k) hlt (.inr (by rw [← Y.out]; exact t4')))
            clear t4
            go_wp2_with (first | (go_at_call 68; refine (valid_any _ _).mono ?_; rintro e w' ⟨rfl, rfl⟩) | (go_at_call 101; refine (may_any _ _).mono ?_; rintro e w' ⟨rfl, rfl⟩))
            go_ret
            exact ⟨by rw [e.out, ← hS.out, S2.out]; rfl, hbw.alloc (by omega) _⟩
        · have t1' : timeB x = false := by simpa using t1
          have S2 := Lib.hid (shF_bad (p := prevAt L k) hlt (.inl (by rw [← X.out]; exact t1')))
          clear t1
          go_wp2_with (first | (go_at_call 68; refine (valid_any _ _).mono ?_; rintro e w' ⟨rfl, rfl⟩) | (go_at_call 101; refine (may_any _ _).mono ?_; rintro e w' ⟨rfl, rfl⟩))
          go_ret
          exact ⟨by rw [e.out, ← hS.out, S2.out]; rfl, hbw.alloc (by omega) _⟩
      · obtain rfl : k = L.length := by omega
        have S2 := Lib.hid (show shF (prevAt L L.length) (L.drop L.length) = 0 by rw [List.drop_length, shF])
        have hbw : Below w.heap.size w wr := hb0.trans (hb.mono hb0.size)
        clear hpv hcell0
        go_wp2
        go_ret
        exact ⟨by rw [e.out, ← hS.out, S2.out]; rfl, hbw⟩
  · have hm' : mayB ah = false := by simpa using hm
    have e := Lib.hid (show zfault ah L = 1 by rw [zfault, if_neg hl, if_neg hm])
    clear hm
    go_enter Tryd.func60, Tryd.ntmps60
    go_wp2_with (go_at_call 101; refine (may_any _ _).mono ?_; rintro e w' ⟨rfl, rfl⟩)
    go_ret
    exact ⟨by rw [e.out]; rfl, (Below.refl _ _).alloc (Nat.le_refl _) _⟩

end Go.Proofs.YtdamncbgobjpdaaDoor
