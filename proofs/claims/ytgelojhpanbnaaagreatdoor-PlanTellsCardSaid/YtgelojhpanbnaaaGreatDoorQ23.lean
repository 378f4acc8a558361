/- Texts joined into one (a claim has at most 60 files): The reference's days of a rule, plainly, and that they are the program's; The contract of the reference chimeref1.Begin: where a period begins, and its last day; The contract of the reference chimeref1.wanted: does a rule ask for a day? Conditions: the rule's kind is right, both are days, the lists are no longer than may be; The contract of the reference chimeref1.Period: the days of a period; The contract of the reference chimeref1.Seq: the days of a rule up to a day, as many as may be. -/
import Derived.Test.YtgelojhpanbnaaaGreatDoorQ11
import Derived.Test.YtgelojhpanbnaaaGreatDoorQ10
import Derived.Test.YtgelojhpanbnaaaGreatDoorQ22
import Derived.Test.YtgelojhpanbnaaaGreatDoorQ30
namespace Go.Proofs.YtgelojhpanbnaaaGreatDoor
open Go.RowKit
set_option linter.unusedSimpArgs false
set_option linter.unusedVariables false

def upto (to_ : Int) (l : List Int) : List Int := l.filter fun x => decide (x ≤ to_)

theorem upto_append (t : Int) (a b : List Int) : upto t (a ++ b) = upto t a ++ upto t b := List.filter_append ..

theorem upto_none {t : Int} {l : List Int} (h : ∀ x ∈ l, t < x) : upto t l = [] := by
  unfold upto
  rw [List.filter_eq_nil_iff]
  intro x hx
  have := h x hx
  simp; omega

theorem upto_all {t : Int} {l : List Int} (h : ∀ x ∈ l, x ≤ t) : upto t l = l := by
  unfold upto
  rw [List.filter_eq_self]
  intro x hx
  simpa using h x hx

theorem upto_upto (s t : Int) (l : List Int) : upto s (upto t l) = upto (min s t) l := by
  unfold upto
  rw [List.filter_filter]
  congr 1
  funext x
  rw [Bool.eq_iff_iff]
  simp; omega

theorem upto_take (t : Int) : ∀ (l : List Int) (n : Nat), l.Pairwise (· < ·) → upto t (l.take n) = (upto t l).take n
  | [], n, _ => by simp [upto]
  | x :: r, 0, _ => by simp [upto]
  | x :: r, n + 1, h => by
    have h1 := List.pairwise_cons.1 h
    by_cases hx : x ≤ t
    · have e1 : upto t (x :: r) = x :: upto t r := by simp [upto, hx]
      rw [e1, List.take_succ_cons, List.take_succ_cons, ← upto_take t r n h1.2]
      simp [upto, hx]
    · have e1 : upto t (x :: r) = [] := upto_none (fun z hz => by
        rcases List.mem_cons.1 hz with rfl | hz
        · omega
        · have := h1.1 z hz; omega)
      rw [e1, List.take_succ_cons, upto_none (fun z hz => by
        rcases List.mem_cons.1 hz with rfl | hz
        · omega
        · have := h1.1 z (List.mem_of_mem_take hz); omega)]
      simp

def capN (ct : Int) (j n : Nat) : Nat := if ct = 0 then n else min n (ct.toNat - j)

theorem eachG_take (ti ct : Int) (hc : 0 ≤ ct) : ∀ (l : List Int) (j n : Nat), l.Pairwise (· < ·) → l.length ≤ n →
    eachG ti ct j l = (if ti = 0 then l else upto ti l).take (capN ct j n)
  | [], j, n, _, _ => by simp [eachG, upto]
  | x :: r, j, n, h, hn => by
    have h1 := List.pairwise_cons.1 h
    obtain ⟨m, rfl⟩ : ∃ m, n = m + 1 := ⟨n - 1, by simp at hn; omega⟩
    have hn2 : r.length ≤ m := by simpa using hn
    by_cases hT : okT ti x = true
    · have e1 : (if ti = 0 then x :: r else upto ti (x :: r)) = x :: (if ti = 0 then r else upto ti r) := by
        by_cases h0 : ti = 0
        · simp [h0]
        · have : x ≤ ti := by simpa [okT, h0] using hT
          simp [h0, upto, this]
      by_cases hC : okC ct j = true
      · rw [eachG_yes (by rw [hT, hC]; rfl), e1]
        have e2 : capN ct j (m + 1) = capN ct (j + 1) m + 1 := by
          unfold capN
          by_cases h0 : ct = 0
          · simp [h0]
          · have : (j : Int) + 1 ≤ ct := by simpa [okC, h0] using hC
            simp only [h0, if_false]; omega
        rw [e2, List.take_succ_cons, eachG_take ti ct hc r (j + 1) m h1.2 hn2]
      · have hC' : okC ct j = false := by simpa using hC
        rw [eachG_no (by rw [hT, hC']; rfl)]
        have e2 : capN ct j (m + 1) = 0 := by
          unfold capN
          by_cases h0 : ct = 0
          · simp [okC, h0] at hC'
          · have : ¬ (j : Int) + 1 ≤ ct := by simpa [okC, h0] using hC'
            simp only [h0, if_false]; omega
        rw [e2, List.take_zero]
    · have hT' : okT ti x = false := by simpa using hT
      rw [eachG_no (by rw [hT']; rfl)]
      have h0 : ti ≠ 0 := by rintro rfl; simp [okT] at hT'
      have hx : ¬ x ≤ ti := by simpa [okT, h0] using hT'
      rw [if_neg h0, upto_none (fun z hz => by
        rcases List.mem_cons.1 hz with rfl | hz
        · omega
        · have := h1.1 z hz; omega)]
      simp

def hiS (ti t : Int) : Int := if ti ≠ 0 ∧ ti < t then ti else t
def mostS (ct k : Int) : Int := if ct ≠ 0 ∧ ct < k then ct else k

def seqR (ti ct : Int) (l : List Int) (t k : Int) : List Int := (upto (hiS ti t) l).take (mostS ct k).toNat

theorem seqR_each {ti ct : Int} (hc : 0 ≤ ct) (ht : 0 ≤ ti) {l : List Int} (h : l.Pairwise (· < ·)) (t k : Int) : seqR ti ct l t k = (upto t (eachG ti ct 0 l)).take k.toNat := by
  rw [eachG_take ti ct hc l 0 l.length h (Nat.le_refl _)]
  unfold seqR
  have hp : (if ti = 0 then l else upto ti l).Pairwise (· < ·) := by
    split
    · exact h
    · exact h.sublist List.filter_sublist
  rw [upto_take t _ _ hp, List.take_take]
  have e1 : upto t (if ti = 0 then l else upto ti l) = upto (hiS ti t) l := by
    unfold hiS
    by_cases h0 : ti = 0
    · simp [h0]
    · rw [if_neg h0, upto_upto]
      by_cases h1 : ti < t
      · rw [if_pos ⟨h0, h1⟩]; congr 1; omega
      · rw [if_neg (by omega)]; congr 1; omega
  rw [e1]
  have hl : (upto (hiS ti t) l).length ≤ l.length := List.length_filter_le ..
  unfold mostS capN
  by_cases h0 : ct = 0
  · simp only [h0, ne_eq, not_true_eq_false, false_and, if_false, if_true]
    rcases Nat.le_total k.toNat l.length with h1 | h1
    · rw [Nat.min_eq_left h1]
    · rw [Nat.min_eq_right h1, List.take_of_length_le hl, List.take_of_length_le (by omega)]
  · simp only [h0, if_false, ne_eq, not_false_eq_true, true_and, Nat.sub_zero]
    by_cases h1 : ct < k
    · rw [if_pos h1, show min k.toNat (min l.length ct.toNat) = min l.length ct.toNat by omega]
      rcases Nat.le_total ct.toNat l.length with h2 | h2
      · rw [Nat.min_eq_right h2]
      · rw [Nat.min_eq_left h2, List.take_of_length_le hl, List.take_of_length_le (by omega)]
    · rw [if_neg h1]
      rcases Nat.le_total k.toNat l.length with h2 | h2
      · rw [show min k.toNat (min l.length ct.toNat) = k.toNat by omega]
      · rw [List.take_of_length_le (show (upto (hiS ti t) l).length ≤ k.toNat by omega), List.take_of_length_le (by omega)]

end Go.Proofs.YtgelojhpanbnaaaGreatDoor

namespace Go.Proofs.YtgelojhpanbnaaaGreatDoor
open Go.RowKit
set_option linter.unusedSimpArgs false
set_option linter.unusedVariables false

theorem rdate_at (n y m d : Int) (w : World) (h : Cal.dateB y m d = true) (hn : Cal.num y m d = n) :
    Calls Tryz.prog 282 #[.int .i64 n] w fun e w' => e = .returned (.tuple #[.agg #[.int .i64 y, .int .i64 m, .int .i64 d], .bool true]) ∧ Below w.heap.size w w' := by
  subst hn; exact rdate_num y m d w h

def BegSays (o : Option (Int × Int)) (w : World) (e : Ending) (w' : World) : Prop :=
  ∃ a b : Int, e = .returned (.tuple #[.int .i64 a, .int .i64 b, .bool o.isSome]) ∧ (∀ p, o = some p → p = (a, b)) ∧ Below w.heap.size w w'

theorem begSays_yes {w w' : World} {o : Option (Int × Int)} {a b : Int} (h : o = some (a, b)) (hb : Below w.heap.size w w') : BegSays o w (.returned (.tuple #[.int .i64 a, .int .i64 b, .bool true])) w' :=
  ⟨a, b, by rw [h]; rfl, (fun p hp => by rw [h] at hp; exact (Option.some.inj hp).symm), hb⟩

theorem begSays_no {w w' : World} {o : Option (Int × Int)} (a b : Int) (h : o = none) (hb : Below w.heap.size w w') : BegSays o w (.returned (.tuple #[.int .i64 a, .int .i64 b, .bool false])) w' :=
  ⟨a, b, by rw [h]; rfl, (fun p hp => by rw [h] at hp; cases hp), hb⟩

set_option maxRecDepth 100000 in
set_option maxHeartbeats 4000000 in
theorem rbeg_k (fr : Int) (ev ct ti k y m d n : Int) (am ad aw ap : Option Addr) (lm km ld kd lw kw lp kp : Nat) (w : World)
    (hk : k < 0 ∨ 109573 < k) :
    Calls Tryz.prog 232 #[.agg #[.int .i64 fr, .int .i64 ev, .int .i64 ct, .int .i64 ti, .slice am lm km, .slice ad ld kd, .slice aw lw kw, .slice ap lp kp], .int .i64 n, .int .i64 k] w (BegSays (perS fr ev y m d k) w) := by
  have hp : perS fr ev y m d k = none := by unfold perS; rw [if_pos hk]
  have P := Lib.hid hp; clear hp
  rcases hk with hk | hk
  · have k1 : decide (k < 0) = true := decide_eq_true hk
    go_enter Tryz.func232, Tryz.ntmps232
    go_wp2
    go_ret3
    exact begSays_no 0 0 P.out ((Below.refl _ _).alloc (Nat.le_refl _) _)
  · have k1 : decide (k < 0) = false := decide_eq_false (by omega)
    have k2 : decide (109573 < k) = true := decide_eq_true hk
    go_enter Tryz.func232, Tryz.ntmps232
    go_wp2
    go_ret3
    exact begSays_no 0 0 P.out ((Below.refl _ _).alloc (Nat.le_refl _) _)

set_option maxRecDepth 100000 in
set_option maxHeartbeats 4000000 in
theorem rbeg_1 (ev ct ti k y m d n : Int) (am ad aw ap : Option Addr) (lm km ld kd lw kw lp kp : Nat) (w : World)
    (hd : Cal.dateB y m d = true) (hn : Cal.num y m d = n) (hk : 0 ≤ k ∧ k ≤ 109573) (he : 0 ≤ k * ev ∧ k * ev ≤ 6000000) (hc : n + k * ev ≤ 109573) :
    Calls Tryz.prog 232 #[.agg #[.int .i64 1, .int .i64 ev, .int .i64 ct, .int .i64 ti, .slice am lm km, .slice ad ld kd, .slice aw lw kw, .slice ap lp kp], .int .i64 n, .int .i64 k] w (BegSays (perS 1 ev y m d k) w) := by
  have P := Lib.hid (show perS 1 ev y m d k = some (n + k * ev, n + k * ev) by unfold perS; rw [if_neg (by omega), if_pos rfl, hn, if_pos hc])
  have t1 : decide (n + k * ev ≤ 109573) = true := decide_eq_true hc
  clear hc
  obtain ⟨_, _, b1, b2⟩ := Cal.num_bd hd
  obtain ⟨hm, d1, d2⟩ := Cal.date_yes hd
  obtain ⟨y1, y2, m1, m2⟩ := Cal.month_yes hm
  rw [hn] at b1 b2
  obtain ⟨hk1, hk2⟩ := hk
  obtain ⟨e1, e2⟩ := he
  obtain ⟨w0, hw0⟩ : ∃ x, x = w.alloc (.cells #[.int .i64 1, .int .i64 ev, .int .i64 ct, .int .i64 ti, .slice am lm km, .slice ad ld kd, .slice aw lw kw, .slice ap lp kp] 25) := ⟨_, rfl⟩
  have hb0 : Below w.heap.size w w0 := by rw [hw0]; exact (Below.refl _ _).alloc (Nat.le_refl _) _
  have r0 : w0.cell? ⟨w.heap.size, 0, none⟩ = some (.int .i64 1) := by rw [hw0]; simp
  have r1 : w0.cell? ⟨w.heap.size, 1, none⟩ = some (.int .i64 ev) := by rw [hw0]; simp
  have B0 := Lib.hid hb0; have D := Lib.hid hd; have N := Lib.hid hn
  go_enter Tryz.func232, Tryz.ntmps232
  go_wp2_with fail
  rw [← hw0]
  clear hw0 hb0 hd hn
  refine (rdate_at n y m d _ D.out N.out).mono ?_; rintro e w1 ⟨rfl, hb1⟩
  have r0 := cell_below hb1 r0; have r1 := cell_below hb1 r1
  have B1 := Lib.hid (B0.out.trans (hb1.mono B0.out.size))
  have hl1 : w.heap.size < w1.heap.size := Nat.lt_of_lt_of_le (World.block_lt_of_cell? w1 _ r0) (Nat.le_refl _)
  clear hb1
  have BA := Lib.hid (B1.out.alloc B1.out.size (.cells #[.int .i64 y, .int .i64 m, .int .i64 d] 41))
  go_wp2
  go_ret3
  exact begSays_yes P.out BA.out

set_option maxRecDepth 100000 in
set_option maxHeartbeats 4000000 in
theorem rbeg_1_none (ev ct ti k y m d n : Int) (am ad aw ap : Option Addr) (lm km ld kd lw kw lp kp : Nat) (w : World)
    (hd : Cal.dateB y m d = true) (hn : Cal.num y m d = n) (hk : 0 ≤ k ∧ k ≤ 109573) (he : 0 ≤ k * ev ∧ k * ev ≤ 6000000) (hc : 109573 < n + k * ev) :
    Calls Tryz.prog 232 #[.agg #[.int .i64 1, .int .i64 ev, .int .i64 ct, .int .i64 ti, .slice am lm km, .slice ad ld kd, .slice aw lw kw, .slice ap lp kp], .int .i64 n, .int .i64 k] w (BegSays (perS 1 ev y m d k) w) := by
  have P := Lib.hid (show perS 1 ev y m d k = none by unfold perS; rw [if_neg (by omega), if_pos rfl, hn, if_neg (by omega)])
  have t1 : decide (n + k * ev ≤ 109573) = false := decide_eq_false (by omega)
  clear hc
  obtain ⟨_, _, b1, b2⟩ := Cal.num_bd hd
  obtain ⟨hm, d1, d2⟩ := Cal.date_yes hd
  obtain ⟨y1, y2, m1, m2⟩ := Cal.month_yes hm
  rw [hn] at b1 b2
  obtain ⟨hk1, hk2⟩ := hk
  obtain ⟨e1, e2⟩ := he
  obtain ⟨w0, hw0⟩ : ∃ x, x = w.alloc (.cells #[.int .i64 1, .int .i64 ev, .int .i64 ct, .int .i64 ti, .slice am lm km, .slice ad ld kd, .slice aw lw kw, .slice ap lp kp] 25) := ⟨_, rfl⟩
  have hb0 : Below w.heap.size w w0 := by rw [hw0]; exact (Below.refl _ _).alloc (Nat.le_refl _) _
  have r0 : w0.cell? ⟨w.heap.size, 0, none⟩ = some (.int .i64 1) := by rw [hw0]; simp
  have r1 : w0.cell? ⟨w.heap.size, 1, none⟩ = some (.int .i64 ev) := by rw [hw0]; simp
  have B0 := Lib.hid hb0; have D := Lib.hid hd; have N := Lib.hid hn
  go_enter Tryz.func232, Tryz.ntmps232
  go_wp2_with fail
  rw [← hw0]
  clear hw0 hb0 hd hn
  refine (rdate_at n y m d _ D.out N.out).mono ?_; rintro e w1 ⟨rfl, hb1⟩
  have r0 := cell_below hb1 r0; have r1 := cell_below hb1 r1
  have B1 := Lib.hid (B0.out.trans (hb1.mono B0.out.size))
  have hl1 : w.heap.size < w1.heap.size := Nat.lt_of_lt_of_le (World.block_lt_of_cell? w1 _ r0) (Nat.le_refl _)
  clear hb1
  have BA := Lib.hid (B1.out.alloc B1.out.size (.cells #[.int .i64 y, .int .i64 m, .int .i64 d] 41))
  go_wp2
  go_ret3
  exact begSays_no _ _ P.out BA.out

set_option maxRecDepth 100000 in
set_option maxHeartbeats 4000000 in
theorem rbeg_2 (ev ct ti k y m d n : Int) (am ad aw ap : Option Addr) (lm km ld kd lw kw lp kp : Nat) (w : World)
    (hd : Cal.dateB y m d = true) (hn : Cal.num y m d = n) (hk : 0 ≤ k ∧ k ≤ 109573) (he : 0 ≤ k * ev ∧ k * ev ≤ 6000000) (hc : Cal.mondayI n + 7 * (k * ev) ≤ 109573) :
    Calls Tryz.prog 232 #[.agg #[.int .i64 2, .int .i64 ev, .int .i64 ct, .int .i64 ti, .slice am lm km, .slice ad ld kd, .slice aw lw kw, .slice ap lp kp], .int .i64 n, .int .i64 k] w (BegSays (perS 2 ev y m d k) w) := by
  have P := Lib.hid (show perS 2 ev y m d k = some (Cal.mondayI n + 7 * k * ev, Cal.mondayI n + 7 * k * ev + 6) by unfold perS; rw [if_neg (by omega), if_neg (by decide), if_pos rfl, hn, Int.mul_assoc, if_pos hc])
  have hmo := Cal.monday_bd n
  have e7 : 0 ≤ 7 * k * ev ∧ 7 * k * ev ≤ 42000000 := by rw [Int.mul_assoc]; omega
  rw [← Int.mul_assoc] at hc
  have t1 : decide (Cal.mondayI n + 7 * k * ev ≤ 109573) = true := decide_eq_true hc
  obtain ⟨e71, e72⟩ := e7
  obtain ⟨mo1, mo2⟩ := hmo
  clear hc
  obtain ⟨_, _, b1, b2⟩ := Cal.num_bd hd
  obtain ⟨hm, d1, d2⟩ := Cal.date_yes hd
  obtain ⟨y1, y2, m1, m2⟩ := Cal.month_yes hm
  rw [hn] at b1 b2
  obtain ⟨hk1, hk2⟩ := hk
  obtain ⟨e1, e2⟩ := he
  obtain ⟨w0, hw0⟩ : ∃ x, x = w.alloc (.cells #[.int .i64 2, .int .i64 ev, .int .i64 ct, .int .i64 ti, .slice am lm km, .slice ad ld kd, .slice aw lw kw, .slice ap lp kp] 25) := ⟨_, rfl⟩
  have hb0 : Below w.heap.size w w0 := by rw [hw0]; exact (Below.refl _ _).alloc (Nat.le_refl _) _
  have r0 : w0.cell? ⟨w.heap.size, 0, none⟩ = some (.int .i64 2) := by rw [hw0]; simp
  have r1 : w0.cell? ⟨w.heap.size, 1, none⟩ = some (.int .i64 ev) := by rw [hw0]; simp
  have B0 := Lib.hid hb0; have D := Lib.hid hd; have N := Lib.hid hn
  go_enter Tryz.func232, Tryz.ntmps232
  go_wp2_with fail
  rw [← hw0]
  clear hw0 hb0 hd hn
  refine (rdate_at n y m d _ D.out N.out).mono ?_; rintro e w1 ⟨rfl, hb1⟩
  have r0 := cell_below hb1 r0; have r1 := cell_below hb1 r1
  have B1 := Lib.hid (B0.out.trans (hb1.mono B0.out.size))
  have hl1 : w.heap.size < w1.heap.size := Nat.lt_of_lt_of_le (World.block_lt_of_cell? w1 _ r0) (Nat.le_refl _)
  clear hb1
  have BA := Lib.hid (B1.out.alloc B1.out.size (.cells #[.int .i64 y, .int .i64 m, .int .i64 d] 41))
  go_wp2_with fail
  go_quiet ((go_at_call 283; exact quiet_l (rmonday_any _ _ (by omega) (by omega))))
  go_wp2
  go_ret3
  exact begSays_yes P.out (below_drewN BA.out _)

set_option maxRecDepth 100000 in
set_option maxHeartbeats 4000000 in
theorem rbeg_2_none (ev ct ti k y m d n : Int) (am ad aw ap : Option Addr) (lm km ld kd lw kw lp kp : Nat) (w : World)
    (hd : Cal.dateB y m d = true) (hn : Cal.num y m d = n) (hk : 0 ≤ k ∧ k ≤ 109573) (he : 0 ≤ k * ev ∧ k * ev ≤ 6000000) (hc : 109573 < Cal.mondayI n + 7 * (k * ev)) :
    Calls Tryz.prog 232 #[.agg #[.int .i64 2, .int .i64 ev, .int .i64 ct, .int .i64 ti, .slice am lm km, .slice ad ld kd, .slice aw lw kw, .slice ap lp kp], .int .i64 n, .int .i64 k] w (BegSays (perS 2 ev y m d k) w) := by
  have P := Lib.hid (show perS 2 ev y m d k = none by unfold perS; rw [if_neg (by omega), if_neg (by decide), if_pos rfl, hn, if_neg (by omega)])
  have hmo := Cal.monday_bd n
  have e7 : 0 ≤ 7 * k * ev ∧ 7 * k * ev ≤ 42000000 := by rw [Int.mul_assoc]; omega
  rw [← Int.mul_assoc] at hc
  have t1 : decide (Cal.mondayI n + 7 * k * ev ≤ 109573) = false := decide_eq_false (by omega)
  obtain ⟨e71, e72⟩ := e7
  obtain ⟨mo1, mo2⟩ := hmo
  clear hc
  obtain ⟨_, _, b1, b2⟩ := Cal.num_bd hd
  obtain ⟨hm, d1, d2⟩ := Cal.date_yes hd
  obtain ⟨y1, y2, m1, m2⟩ := Cal.month_yes hm
  rw [hn] at b1 b2
  obtain ⟨hk1, hk2⟩ := hk
  obtain ⟨e1, e2⟩ := he
  obtain ⟨w0, hw0⟩ : ∃ x, x = w.alloc (.cells #[.int .i64 2, .int .i64 ev, .int .i64 ct, .int .i64 ti, .slice am lm km, .slice ad ld kd, .slice aw lw kw, .slice ap lp kp] 25) := ⟨_, rfl⟩
  have hb0 : Below w.heap.size w w0 := by rw [hw0]; exact (Below.refl _ _).alloc (Nat.le_refl _) _
  have r0 : w0.cell? ⟨w.heap.size, 0, none⟩ = some (.int .i64 2) := by rw [hw0]; simp
  have r1 : w0.cell? ⟨w.heap.size, 1, none⟩ = some (.int .i64 ev) := by rw [hw0]; simp
  have B0 := Lib.hid hb0; have D := Lib.hid hd; have N := Lib.hid hn
  go_enter Tryz.func232, Tryz.ntmps232
  go_wp2_with fail
  rw [← hw0]
  clear hw0 hb0 hd hn
  refine (rdate_at n y m d _ D.out N.out).mono ?_; rintro e w1 ⟨rfl, hb1⟩
  have r0 := cell_below hb1 r0; have r1 := cell_below hb1 r1
  have B1 := Lib.hid (B0.out.trans (hb1.mono B0.out.size))
  have hl1 : w.heap.size < w1.heap.size := Nat.lt_of_lt_of_le (World.block_lt_of_cell? w1 _ r0) (Nat.le_refl _)
  clear hb1
  have BA := Lib.hid (B1.out.alloc B1.out.size (.cells #[.int .i64 y, .int .i64 m, .int .i64 d] 41))
  go_wp2_with fail
  go_quiet ((go_at_call 283; exact quiet_l (rmonday_any _ _ (by omega) (by omega))))
  go_wp2
  go_ret3
  exact begSays_no _ _ P.out (below_drewN BA.out _)

set_option maxRecDepth 100000 in
set_option maxHeartbeats 4000000 in
theorem rbeg_3 (ev ct ti k y m d n : Int) (am ad aw ap : Option Addr) (lm km ld kd lw kw lp kp : Nat) (w : World)
    (hd : Cal.dateB y m d = true) (hn : Cal.num y m d = n) (hk : 0 ≤ k ∧ k ≤ 109573) (he : 0 ≤ k * ev ∧ k * ev ≤ 6000000) (hc : (y - 1900) * 12 + m - 1 + k * ev < 3600) :
    Calls Tryz.prog 232 #[.agg #[.int .i64 3, .int .i64 ev, .int .i64 ct, .int .i64 ti, .slice am lm km, .slice ad ld kd, .slice aw lw kw, .slice ap lp kp], .int .i64 n, .int .i64 k] w (BegSays (perS 3 ev y m d k) w) := by
  obtain ⟨y1', y2', m1', m2'⟩ := Cal.month_yes (Cal.date_yes hd).1
  have eY : (y * 12 + m - 1 + k * ev) / 12 = 1900 + ((y - 1900) * 12 + m - 1 + k * ev) / 12 := by omega
  have eM : (y * 12 + m - 1 + k * ev) % 12 = ((y - 1900) * 12 + m - 1 + k * ev) % 12 := by omega
  have hmd := mon_date ((y - 1900) * 12 + m - 1 + k * ev) (by omega) hc
  rw [← eY, ← eM] at hmd
  have P := Lib.hid (show perS 3 ev y m d k = some (Cal.num ((y * 12 + m - 1 + k * ev) / 12) ((y * 12 + m - 1 + k * ev) % 12 + 1) 1, Cal.num ((y * 12 + m - 1 + k * ev) / 12) ((y * 12 + m - 1 + k * ev) % 12 + 1) 1 + Cal.dim ((y * 12 + m - 1 + k * ev) / 12) ((y * 12 + m - 1 + k * ev) % 12 + 1) - 1) by
    unfold perS; rw [if_neg (by omega), if_neg (by decide), if_neg (by decide), if_pos rfl, if_pos hc, eY, eM]; rfl)
  obtain ⟨F, hF⟩ : ∃ F, F = Cal.num ((y * 12 + m - 1 + k * ev) / 12) ((y * 12 + m - 1 + k * ev) % 12 + 1) 1 := ⟨_, rfl⟩
  obtain ⟨S, hS⟩ : ∃ S, S = Cal.dim ((y * 12 + m - 1 + k * ev) / 12) ((y * 12 + m - 1 + k * ev) % 12 + 1) := ⟨_, rfl⟩
  obtain ⟨_, _, f1, f2⟩ := Cal.num_bd hmd.2
  have s1 := Cal.dim_bd ((y * 12 + m - 1 + k * ev) / 12) ((y * 12 + m - 1 + k * ev) % 12 + 1)
  rw [← hF] at f1 f2
  rw [← hS] at s1
  rw [← hF, ← hS] at P
  obtain ⟨s1, s2⟩ := s1
  have t1 : decide (0 < S) = true := decide_eq_true (by omega)
  have FF := Lib.hid hF; have SS := Lib.hid hS; have MB := Lib.hid hmd.1; have DB := Lib.hid hmd.2
  clear hF hS hmd eY eM hc y1' y2' m1' m2'
  obtain ⟨_, _, b1, b2⟩ := Cal.num_bd hd
  obtain ⟨hm, d1, d2⟩ := Cal.date_yes hd
  obtain ⟨y1, y2, m1, m2⟩ := Cal.month_yes hm
  rw [hn] at b1 b2
  obtain ⟨hk1, hk2⟩ := hk
  obtain ⟨e1, e2⟩ := he
  obtain ⟨w0, hw0⟩ : ∃ x, x = w.alloc (.cells #[.int .i64 3, .int .i64 ev, .int .i64 ct, .int .i64 ti, .slice am lm km, .slice ad ld kd, .slice aw lw kw, .slice ap lp kp] 25) := ⟨_, rfl⟩
  have hb0 : Below w.heap.size w w0 := by rw [hw0]; exact (Below.refl _ _).alloc (Nat.le_refl _) _
  have r0 : w0.cell? ⟨w.heap.size, 0, none⟩ = some (.int .i64 3) := by rw [hw0]; simp
  have r1 : w0.cell? ⟨w.heap.size, 1, none⟩ = some (.int .i64 ev) := by rw [hw0]; simp
  have B0 := Lib.hid hb0; have D := Lib.hid hd; have N := Lib.hid hn
  go_enter Tryz.func232, Tryz.ntmps232
  go_wp2_with fail
  rw [← hw0]
  clear hw0 hb0 hd hn
  refine (rdate_at n y m d _ D.out N.out).mono ?_; rintro e w1 ⟨rfl, hb1⟩
  have r0 := cell_below hb1 r0; have r1 := cell_below hb1 r1
  have B1 := Lib.hid (B0.out.trans (hb1.mono B0.out.size))
  have hl1 : w.heap.size < w1.heap.size := Nat.lt_of_lt_of_le (World.block_lt_of_cell? w1 _ r0) (Nat.le_refl _)
  clear hb1
  have BA := Lib.hid (B1.out.alloc B1.out.size (.cells #[.int .i64 y, .int .i64 m, .int .i64 d] 41))
  go_wp2_with fail
  refine (rdays_yes _ _ _ MB.out).mono ?_; rintro e w' ⟨rfl, rfl⟩
  rw [← SS.out]
  go_wp2_with fail
  refine (rof_yes _ _ 1 _ DB.out).mono ?_; rintro e w2 ⟨rfl, hb2⟩
  rw [← FF.out]
  have B2 := Lib.hid (BA.out.trans (hb2.mono BA.out.size))
  clear hb2 r0 r1
  go_wp2
  go_ret3
  exact begSays_yes P.out B2.out

set_option maxRecDepth 100000 in
set_option maxHeartbeats 4000000 in
theorem rbeg_3_none (ev ct ti k y m d n : Int) (am ad aw ap : Option Addr) (lm km ld kd lw kw lp kp : Nat) (w : World)
    (hd : Cal.dateB y m d = true) (hn : Cal.num y m d = n) (hk : 0 ≤ k ∧ k ≤ 109573) (he : 0 ≤ k * ev ∧ k * ev ≤ 6000000) (hc : 3600 ≤ (y - 1900) * 12 + m - 1 + k * ev) :
    Calls Tryz.prog 232 #[.agg #[.int .i64 3, .int .i64 ev, .int .i64 ct, .int .i64 ti, .slice am lm km, .slice ad ld kd, .slice aw lw kw, .slice ap lp kp], .int .i64 n, .int .i64 k] w (BegSays (perS 3 ev y m d k) w) := by
  obtain ⟨y1', y2', m1', m2'⟩ := Cal.month_yes (Cal.date_yes hd).1
  have hmn : Cal.monthB ((y * 12 + m - 1 + k * ev) / 12) ((y * 12 + m - 1 + k * ev) % 12 + 1) = false := Cal.month_mk_no (by omega)
  have P := Lib.hid (show perS 3 ev y m d k = none by unfold perS; rw [if_neg (by omega), if_neg (by decide), if_neg (by decide), if_pos rfl, if_neg (by omega)])
  have MB := Lib.hid hmn; have DB := Lib.hid (show Cal.dateB ((y * 12 + m - 1 + k * ev) / 12) ((y * 12 + m - 1 + k * ev) % 12 + 1) 1 = false from Cal.date_mk_no' hmn)
  clear hmn hc y1' y2' m1' m2'
  obtain ⟨_, _, b1, b2⟩ := Cal.num_bd hd
  obtain ⟨hm, d1, d2⟩ := Cal.date_yes hd
  obtain ⟨y1, y2, m1, m2⟩ := Cal.month_yes hm
  rw [hn] at b1 b2
  obtain ⟨hk1, hk2⟩ := hk
  obtain ⟨e1, e2⟩ := he
  obtain ⟨w0, hw0⟩ : ∃ x, x = w.alloc (.cells #[.int .i64 3, .int .i64 ev, .int .i64 ct, .int .i64 ti, .slice am lm km, .slice ad ld kd, .slice aw lw kw, .slice ap lp kp] 25) := ⟨_, rfl⟩
  have hb0 : Below w.heap.size w w0 := by rw [hw0]; exact (Below.refl _ _).alloc (Nat.le_refl _) _
  have r0 : w0.cell? ⟨w.heap.size, 0, none⟩ = some (.int .i64 3) := by rw [hw0]; simp
  have r1 : w0.cell? ⟨w.heap.size, 1, none⟩ = some (.int .i64 ev) := by rw [hw0]; simp
  have B0 := Lib.hid hb0; have D := Lib.hid hd; have N := Lib.hid hn
  go_enter Tryz.func232, Tryz.ntmps232
  go_wp2_with fail
  rw [← hw0]
  clear hw0 hb0 hd hn
  refine (rdate_at n y m d _ D.out N.out).mono ?_; rintro e w1 ⟨rfl, hb1⟩
  have r0 := cell_below hb1 r0; have r1 := cell_below hb1 r1
  have B1 := Lib.hid (B0.out.trans (hb1.mono B0.out.size))
  have hl1 : w.heap.size < w1.heap.size := Nat.lt_of_lt_of_le (World.block_lt_of_cell? w1 _ r0) (Nat.le_refl _)
  clear hb1
  have BA := Lib.hid (B1.out.alloc B1.out.size (.cells #[.int .i64 y, .int .i64 m, .int .i64 d] 41))
  go_wp2_with fail
  refine (rdays_no _ _ _ MB.out).mono ?_; rintro e w' ⟨rfl, rfl⟩
  go_wp2_with fail
  refine (rof_no _ _ 1 _ DB.out).mono ?_; rintro e w2 ⟨rfl, hb2⟩
  have B2 := Lib.hid (BA.out.trans (hb2.mono BA.out.size))
  clear hb2 r0 r1
  go_wp2
  go_ret3
  exact begSays_no _ _ P.out B2.out

set_option maxRecDepth 100000 in
set_option maxHeartbeats 4000000 in
theorem rbeg_4 (ev ct ti k y m d n : Int) (am ad aw ap : Option Addr) (lm km ld kd lw kw lp kp : Nat) (w : World)
    (hd : Cal.dateB y m d = true) (hn : Cal.num y m d = n) (hk : 0 ≤ k ∧ k ≤ 109573) (he : 0 ≤ k * ev ∧ k * ev ≤ 6000000) (hc : y + k * ev ≤ 2199) :
    Calls Tryz.prog 232 #[.agg #[.int .i64 4, .int .i64 ev, .int .i64 ct, .int .i64 ti, .slice am lm km, .slice ad ld kd, .slice aw lw kw, .slice ap lp kp], .int .i64 n, .int .i64 k] w (BegSays (perS 4 ev y m d k) w) := by
  obtain ⟨y1', y2', m1', m2'⟩ := Cal.month_yes (Cal.date_yes hd).1
  have h1 : Cal.dateB (y + k * ev) 1 1 = true := Cal.date_mk (Cal.month_mk (by omega) hc (by omega) (by omega)) (by omega) (by simp [Cal.dim])
  have h2 : Cal.dateB (y + k * ev) 12 31 = true := Cal.date_mk (Cal.month_mk (by omega) hc (by omega) (by omega)) (by omega) (by simp [Cal.dim])
  have P := Lib.hid (show perS 4 ev y m d k = some (Cal.num (y + k * ev) 1 1, Cal.num (y + k * ev) 12 31) by unfold perS; rw [if_neg (by omega), if_neg (by decide), if_neg (by decide), if_neg (by decide), if_pos hc])
  obtain ⟨F, hF⟩ : ∃ F, F = Cal.num (y + k * ev) 1 1 := ⟨_, rfl⟩
  obtain ⟨_, _, f1, f2⟩ := Cal.num_bd h1
  rw [← hF] at f1 f2 P
  have t1 : decide (0 < F) = true := decide_eq_true (by omega)
  have FF := Lib.hid hF; have D1 := Lib.hid h1; have D2 := Lib.hid h2
  clear hF h1 h2 hc y1' y2' m1' m2'
  obtain ⟨_, _, b1, b2⟩ := Cal.num_bd hd
  obtain ⟨hm, d1, d2⟩ := Cal.date_yes hd
  obtain ⟨y1, y2, m1, m2⟩ := Cal.month_yes hm
  rw [hn] at b1 b2
  obtain ⟨hk1, hk2⟩ := hk
  obtain ⟨e1, e2⟩ := he
  obtain ⟨w0, hw0⟩ : ∃ x, x = w.alloc (.cells #[.int .i64 4, .int .i64 ev, .int .i64 ct, .int .i64 ti, .slice am lm km, .slice ad ld kd, .slice aw lw kw, .slice ap lp kp] 25) := ⟨_, rfl⟩
  have hb0 : Below w.heap.size w w0 := by rw [hw0]; exact (Below.refl _ _).alloc (Nat.le_refl _) _
  have r0 : w0.cell? ⟨w.heap.size, 0, none⟩ = some (.int .i64 4) := by rw [hw0]; simp
  have r1 : w0.cell? ⟨w.heap.size, 1, none⟩ = some (.int .i64 ev) := by rw [hw0]; simp
  have B0 := Lib.hid hb0; have D := Lib.hid hd; have N := Lib.hid hn
  go_enter Tryz.func232, Tryz.ntmps232
  go_wp2_with fail
  rw [← hw0]
  clear hw0 hb0 hd hn
  refine (rdate_at n y m d _ D.out N.out).mono ?_; rintro e w1 ⟨rfl, hb1⟩
  have r0 := cell_below hb1 r0; have r1 := cell_below hb1 r1
  have B1 := Lib.hid (B0.out.trans (hb1.mono B0.out.size))
  have hl1 : w.heap.size < w1.heap.size := Nat.lt_of_lt_of_le (World.block_lt_of_cell? w1 _ r0) (Nat.le_refl _)
  clear hb1
  have BA := Lib.hid (B1.out.alloc B1.out.size (.cells #[.int .i64 y, .int .i64 m, .int .i64 d] 41))
  go_wp2_with fail
  refine (rof_yes _ 1 1 _ D1.out).mono ?_; rintro e w2 ⟨rfl, hb2⟩
  rw [← FF.out]
  have B2 := Lib.hid (BA.out.trans (hb2.mono BA.out.size))
  clear hb2 r0 r1
  go_wp2_with fail
  refine (rof_yes _ 12 31 _ D2.out).mono ?_; rintro e w3 ⟨rfl, hb3⟩
  have B3 := Lib.hid (B2.out.trans (hb3.mono B2.out.size))
  clear hb3
  go_wp2
  go_ret3
  exact begSays_yes P.out B3.out

set_option maxRecDepth 100000 in
set_option maxHeartbeats 4000000 in
theorem rbeg_4_none (ev ct ti k y m d n : Int) (am ad aw ap : Option Addr) (lm km ld kd lw kw lp kp : Nat) (w : World)
    (hd : Cal.dateB y m d = true) (hn : Cal.num y m d = n) (hk : 0 ≤ k ∧ k ≤ 109573) (he : 0 ≤ k * ev ∧ k * ev ≤ 6000000) (hc : 2199 < y + k * ev) :
    Calls Tryz.prog 232 #[.agg #[.int .i64 4, .int .i64 ev, .int .i64 ct, .int .i64 ti, .slice am lm km, .slice ad ld kd, .slice aw lw kw, .slice ap lp kp], .int .i64 n, .int .i64 k] w (BegSays (perS 4 ev y m d k) w) := by
  obtain ⟨y1', y2', m1', m2'⟩ := Cal.month_yes (Cal.date_yes hd).1
  have h1 : Cal.dateB (y + k * ev) 1 1 = false := Cal.date_mk_no' (Cal.month_mk_no (by omega))
  have h2 : Cal.dateB (y + k * ev) 12 31 = false := Cal.date_mk_no' (Cal.month_mk_no (by omega))
  have P := Lib.hid (show perS 4 ev y m d k = none by unfold perS; rw [if_neg (by omega), if_neg (by decide), if_neg (by decide), if_neg (by decide), if_neg (by omega)])
  have D1 := Lib.hid h1; have D2 := Lib.hid h2
  clear h1 h2 hc y1' y2' m1' m2'
  obtain ⟨_, _, b1, b2⟩ := Cal.num_bd hd
  obtain ⟨hm, d1, d2⟩ := Cal.date_yes hd
  obtain ⟨y1, y2, m1, m2⟩ := Cal.month_yes hm
  rw [hn] at b1 b2
  obtain ⟨hk1, hk2⟩ := hk
  obtain ⟨e1, e2⟩ := he
  obtain ⟨w0, hw0⟩ : ∃ x, x = w.alloc (.cells #[.int .i64 4, .int .i64 ev, .int .i64 ct, .int .i64 ti, .slice am lm km, .slice ad ld kd, .slice aw lw kw, .slice ap lp kp] 25) := ⟨_, rfl⟩
  have hb0 : Below w.heap.size w w0 := by rw [hw0]; exact (Below.refl _ _).alloc (Nat.le_refl _) _
  have r0 : w0.cell? ⟨w.heap.size, 0, none⟩ = some (.int .i64 4) := by rw [hw0]; simp
  have r1 : w0.cell? ⟨w.heap.size, 1, none⟩ = some (.int .i64 ev) := by rw [hw0]; simp
  have B0 := Lib.hid hb0; have D := Lib.hid hd; have N := Lib.hid hn
  go_enter Tryz.func232, Tryz.ntmps232
  go_wp2_with fail
  rw [← hw0]
  clear hw0 hb0 hd hn
  refine (rdate_at n y m d _ D.out N.out).mono ?_; rintro e w1 ⟨rfl, hb1⟩
  have r0 := cell_below hb1 r0; have r1 := cell_below hb1 r1
  have B1 := Lib.hid (B0.out.trans (hb1.mono B0.out.size))
  have hl1 : w.heap.size < w1.heap.size := Nat.lt_of_lt_of_le (World.block_lt_of_cell? w1 _ r0) (Nat.le_refl _)
  clear hb1
  have BA := Lib.hid (B1.out.alloc B1.out.size (.cells #[.int .i64 y, .int .i64 m, .int .i64 d] 41))
  go_wp2_with fail
  refine (rof_no _ 1 1 _ D1.out).mono ?_; rintro e w2 ⟨rfl, hb2⟩
  have B2 := Lib.hid (BA.out.trans (hb2.mono BA.out.size))
  clear hb2 r0 r1
  go_wp2_with fail
  refine (rof_no _ 12 31 _ D2.out).mono ?_; rintro e w3 ⟨rfl, hb3⟩
  have B3 := Lib.hid (B2.out.trans (hb3.mono B2.out.size))
  clear hb3
  go_wp2
  go_ret3
  exact begSays_no _ _ P.out B3.out

theorem rbegin_any (fr : Int) (ev ct ti k y m d n : Int) (am ad aw ap : Option Addr) (lm km ld kd lw kw lp kp : Nat) (w : World) (hd : Cal.dateB y m d = true) (hn : Cal.num y m d = n) (hf : 1 ≤ fr ∧ fr ≤ 4) (he : 1 ≤ ev ∧ ev ≤ 50) :
    Calls Tryz.prog 232 #[.agg #[.int .i64 fr, .int .i64 ev, .int .i64 ct, .int .i64 ti, .slice am lm km, .slice ad ld kd, .slice aw lw kw, .slice ap lp kp], .int .i64 n, .int .i64 k] w (BegSays (perS fr ev y m d k) w) := by
  by_cases hk : k < 0 ∨ 109573 < k
  · exact rbeg_k fr ev ct ti k y m d n am ad aw ap lm km ld kd lw kw lp kp w hk
  have hk2 : 0 ≤ k ∧ k ≤ 109573 := by omega
  have hm := mul_bd k ev hk2 he
  obtain rfl | rfl | rfl | rfl : fr = 1 ∨ fr = 2 ∨ fr = 3 ∨ fr = 4 := by omega
  · by_cases hc : n + k * ev ≤ 109573
    · exact rbeg_1 ev ct ti k y m d n am ad aw ap lm km ld kd lw kw lp kp w hd hn hk2 hm hc
    · exact rbeg_1_none ev ct ti k y m d n am ad aw ap lm km ld kd lw kw lp kp w hd hn hk2 hm (by omega)
  · by_cases hc : Cal.mondayI n + 7 * (k * ev) ≤ 109573
    · exact rbeg_2 ev ct ti k y m d n am ad aw ap lm km ld kd lw kw lp kp w hd hn hk2 hm hc
    · exact rbeg_2_none ev ct ti k y m d n am ad aw ap lm km ld kd lw kw lp kp w hd hn hk2 hm (by omega)
  · by_cases hc : (y - 1900) * 12 + m - 1 + k * ev < 3600
    · exact rbeg_3 ev ct ti k y m d n am ad aw ap lm km ld kd lw kw lp kp w hd hn hk2 hm hc
    · exact rbeg_3_none ev ct ti k y m d n am ad aw ap lm km ld kd lw kw lp kp w hd hn hk2 hm (by omega)
  · by_cases hc : y + k * ev ≤ 2199
    · exact rbeg_4 ev ct ti k y m d n am ad aw ap lm km ld kd lw kw lp kp w hd hn hk2 hm hc
    · exact rbeg_4_none ev ct ti k y m d n am ad aw ap lm km ld kd lw kw lp kp w hd hn hk2 hm (by omega)

end Go.Proofs.YtgelojhpanbnaaaGreatDoor

namespace Go.Proofs.YtgelojhpanbnaaaGreatDoor
open Go.RowKit
set_option linter.unusedSimpArgs false
set_option linter.unusedVariables false

theorem anyP_snoc {L : List (Int × Int)} {k : Nat} (p : Int × Int → Bool) (h : k < L.length) {x y : Int} (hx : L[k] = (x, y)) : (L.take (k + 1)).any p = ((L.take k).any p || p (x, y)) := by
  rw [List.take_succ_eq_append_getElem h, List.any_append, hx]; simp

theorem nthP_and (a1 b1 wd x y : Int) : nthP a1 wd b1 wd (x, y) = ((y == wd) && ((x == 0) || (x == a1) || (x == b1))) := by
  unfold nthP
  cases (y == wd) <;> cases (x == 0) <;> cases (x == a1) <;> cases (x == b1) <;> rfl

theorem zB_and (da : List Int) (we : List (Int × Int)) : zB da we = (((da.length : Int) == 0) && ((we.length : Int) == 0)) := by
  unfold zB
  rw [Bool.eq_iff_iff, Bool.and_eq_true, beq_iff_eq, beq_iff_eq, beq_iff_eq]
  omega

theorem week_eq (n n0 : Int) (h1 : 1 ≤ n) (h2 : 1 ≤ n0) : ((n - 1) % 7 + 1 == (n0 - 1) % 7 + 1) = ((n - n0).tmod 7 == 0) := by
  rw [Bool.eq_iff_iff, beq_iff_eq, beq_iff_eq]
  constructor
  · intro h; exact Int.tmod_eq_zero_of_dvd (by omega)
  · intro h; have := Int.dvd_of_tmod_eq_zero h; omega

theorem rends_at (n y m d sz : Int) (w : World) (hd : Cal.dateB y m d = true) (hn : Cal.num y m d = n) (hs : Cal.dim y m = sz) :
    Calls Tryz.prog 299 #[.int .i64 n] w fun e w' => e = .returned (.tuple #[.int .i64 ((d - 1) / 7 + 1), .int .i64 (-((sz - d) / 7 + 1))]) ∧ Below w.heap.size w w' := by
  subst hn; subst hs; exact rends_any y m d w hd

theorem rdays_at (y m sz : Int) (w : World) (h : Cal.monthB y m = true) (hs : Cal.dim y m = sz) :
    Calls Tryz.prog 48 #[.int .i64 y, .int .i64 m] w fun e w' => e = .returned (.int .i64 sz) ∧ w = w' := by
  subst hs; exact rdays_yes y m w h

set_option maxRecDepth 100000 in
set_option maxHeartbeats 16000000 in
theorem rwanted_any (fr ev ct ti n0 n y0 m0 d0 y m d : Int) (vm vd vw vp : Value) (mo da : List Int) (we : List (Int × Int)) (pk : List Int) (w : World)
    (h1 : IntsR w vm mo) (h2 : IntsR w vd da) (h3 : PairsR w vw we) (h4 : IntsR w vp pk) (hd0 : Cal.dateB y0 m0 d0 = true) (hn0 : Cal.num y0 m0 d0 = n0) (hd : Cal.dateB y m d = true) (hn : Cal.num y m d = n)
    (hf : 1 ≤ fr ∧ fr ≤ 4) (hl : mo.length ≤ 12 ∧ da.length ≤ 31 ∧ we.length ≤ 20) :
    Calls Tryz.prog 284 #[.agg #[.int .i64 fr, .int .i64 ev, .int .i64 ct, .int .i64 ti, vm, vd, vw, vp], .int .i64 n0, .int .i64 n] w fun e w' => e = .returned (.bool (askB fr mo da we n0 n)) ∧ Below w.heap.size w w' := by
  obtain ⟨am, km, rfl, _, mm, _⟩ := intsR_open h1
  obtain ⟨ad, kd, rfl, _, dd, _⟩ := intsR_open h2
  obtain ⟨aw, kw, rfl, wl, ww, hwc⟩ := pairsR_open h3
  obtain ⟨ap, kp, rfl, _, pp, _⟩ := intsR_open h4
  unfold maxLen at mm dd ww pp
  obtain ⟨l1, l2, l3⟩ := hl
  obtain ⟨_, _, b1, b2⟩ := Cal.num_bd hd
  obtain ⟨_, _, b3, b4⟩ := Cal.num_bd hd0
  obtain ⟨hm, q1, q2⟩ := Cal.date_yes hd
  rw [hn] at b1 b2
  rw [hn0] at b3 b4
  have hdb := Cal.dim_bd y m
  obtain ⟨sz, hsz⟩ : ∃ sz, Cal.dim y m = sz := ⟨_, rfl⟩
  rw [hsz] at q2 hdb
  obtain ⟨z1, z2⟩ := hdb
  obtain ⟨w0, hw0⟩ : ∃ x, x = w.alloc (.cells #[.int .i64 fr, .int .i64 ev, .int .i64 ct, .int .i64 ti, .slice am mo.length km, .slice ad da.length kd, .slice aw we.length kw, .slice ap pk.length kp] 25) := ⟨_, rfl⟩
  have hR := rlAt_new w 25 fr ev ct ti _ _ _ _ mo da we pk h1 h2 h3 h4
  have hb0 : Below w.heap.size w w0 := by rw [hw0]; exact (Below.refl _ _).alloc (Nat.le_refl _) _
  rw [← hw0] at hR
  obtain ⟨t1, ht1⟩ : ∃ x, x = ((mo.length : Int) == 0) := ⟨_, rfl⟩
  obtain ⟨t2, ht2⟩ : ∃ x, x = ((da.length : Int) == 0) := ⟨_, rfl⟩
  obtain ⟨t3, ht3⟩ : ∃ x, x = ((we.length : Int) == 0) := ⟨_, rfl⟩
  obtain ⟨r1, hr1⟩ : ∃ x, x = inB mo m := ⟨_, rfl⟩
  obtain ⟨r2, hr2⟩ : ∃ x, x = inB da d := ⟨_, rfl⟩
  obtain ⟨r3, hr3⟩ : ∃ x, x = inB da (d - sz - 1) := ⟨_, rfl⟩
  obtain ⟨r4, hr4⟩ : ∃ x, x = we.any (nthP ((d - 1) / 7 + 1) ((n - 1) % 7 + 1) (-((sz - d) / 7 + 1)) ((n - 1) % 7 + 1)) := ⟨_, rfl⟩
  obtain ⟨r5, hr5⟩ : ∃ x, x = ((n - n0).tmod 7 == 0) := ⟨_, rfl⟩
  obtain ⟨r6, hr6⟩ : ∃ x, x = (d == d0) := ⟨_, rfl⟩
  obtain ⟨r7, hr7⟩ : ∃ x, x = (m == m0) := ⟨_, rfl⟩
  have OK := Lib.hid (show askB fr mo da we n0 n = ((t1 || r1) && (t2 || r2 || r3) && (t3 || r4) && (!((t2 && t3) && fr == 2) || r5) && (!((t2 && t3) && decide (3 ≤ fr)) || r6) && (!(((t2 && t3) && decide (3 ≤ fr)) && t1 && fr == 4) || r7)) by
    rw [← hn0, ← hn, askB_num _ _ _ _ hd0 hd, hsz, okB, zB_and, hn, hn0, ← ht1, ← ht2, ← ht3, ← hr1, ← hr2, ← hr3, ← hr4, ← hr5, ← hr6, ← hr7])
  have T1 := Lib.hid ht1; have T2 := Lib.hid ht2; have T3 := Lib.hid ht3
  have R1 := Lib.hid hr1; have R2 := Lib.hid hr2; have R3 := Lib.hid hr3; have R4 := Lib.hid hr4; have R5 := Lib.hid (hr5.trans (week_eq n n0 b1 b3).symm); have R6 := Lib.hid hr6; have R7 := Lib.hid hr7
  have D := Lib.hid hd; have N := Lib.hid hn; have D0 := Lib.hid hd0; have N0 := Lib.hid hn0; have MB := Lib.hid hm; have SZ := Lib.hid hsz; have WC := Lib.hid hwc
  have RR := Lib.hid hR; have B0 := Lib.hid hb0; have W0 := Lib.hid hw0; have HF := Lib.hid hf
  clear ht1 ht2 ht3 hr1 hr2 hr3 hr4 hr5 hr6 hr7 hd hn hd0 hn0 hm hsz hwc hR hb0 hw0 h1 h2 h3 h4 hf
  go_enter Tryz.func284, Tryz.ntmps284
  go_wp2_with fail
  rw [← W0.out]
  refine (rdate_at n y m d _ D.out N.out).mono ?_; rintro e w1 ⟨rfl, hb1⟩
  obtain ⟨x1, hx1⟩ : ∃ x, x = w1.alloc (.cells #[.int .i64 y, .int .i64 m, .int .i64 d] 41) := ⟨_, rfl⟩
  obtain ⟨db, hdb⟩ : ∃ x, x = w1.heap.size := ⟨_, rfl⟩
  have hbx : Below w1.heap.size w1 x1 := by rw [hx1]; exact (Below.refl _ _).alloc (Nat.le_refl _) _
  have f0 : x1.cell? ⟨db, 0, none⟩ = some (.int .i64 y) := by rw [hx1, hdb]; simp
  have f1 : x1.cell? ⟨db, 1, none⟩ = some (.int .i64 m) := by rw [hx1, hdb]; simp
  have f2 : x1.cell? ⟨db, 2, none⟩ = some (.int .i64 d) := by rw [hx1, hdb]; simp
  have RR1 := Lib.hid ((RR.out.below hb1).below hbx); have B1 := Lib.hid ((B0.out.trans (hb1.mono B0.out.size)).trans (hbx.mono (B0.out.trans (hb1.mono B0.out.size)).size))
  have X1 := Lib.hid hx1; have DB := Lib.hid hdb; have F := Lib.hid (And.intro f0 (And.intro f1 f2))
  clear hb1 hbx hx1 hdb f0 f1 f2
  go_wp2_with fail
  rw [← X1.out, ← DB.out]
  refine (rdate_at n0 y0 m0 d0 _ D0.out N0.out).mono ?_; rintro e w2 ⟨rfl, hb2⟩
  obtain ⟨x2, hx2⟩ : ∃ x, x = w2.alloc (.cells #[.int .i64 y0, .int .i64 m0, .int .i64 d0] 41) := ⟨_, rfl⟩
  obtain ⟨sb, hsb⟩ : ∃ x, x = w2.heap.size := ⟨_, rfl⟩
  have hbx : Below w2.heap.size w2 x2 := by rw [hx2]; exact (Below.refl _ _).alloc (Nat.le_refl _) _
  have g1 : x2.cell? ⟨sb, 1, none⟩ = some (.int .i64 m0) := by rw [hx2, hsb]; simp
  have g2 : x2.cell? ⟨sb, 2, none⟩ = some (.int .i64 d0) := by rw [hx2, hsb]; simp
  have RR2 := Lib.hid ((RR1.out.below hb2).below hbx); have B2 := Lib.hid ((B1.out.trans (hb2.mono B1.out.size)).trans (hbx.mono (B1.out.trans (hb2.mono B1.out.size)).size))
  have F2 := Lib.hid (And.intro (cell_below hbx (cell_below hb2 F.out.1)) (And.intro (cell_below hbx (cell_below hb2 F.out.2.1)) (And.intro (cell_below hbx (cell_below hb2 F.out.2.2)) (And.intro g1 g2))))
  have X2 := Lib.hid hx2; have SB := Lib.hid hsb
  clear hb2 hbx hx2 hsb g1 g2
  obtain ⟨f0, f1, f2, g1, g2⟩ := F2.out
  obtain ⟨⟨c0, c1, c2, c3, c4, c5, c6, c7⟩, _, hl0⟩ := id RR2.out
  go_upto_region 3 with fail
  rw [← X2.out, ← SB.out]
  go_wp2_with fail
  refine (rdays_at y m sz _ MB.out SZ.out).mono ?_; rintro e w' ⟨rfl, rfl⟩
  go_wp2_with fail
  refine (rin_any _ mo m _ RR2.out.2.1.1).mono ?_; rintro e w' ⟨rfl, rfl⟩
  rw [← R1.out]
  go_upto_region 5 with fail
  obtain ⟨a5, h5⟩ : ∃ x, x = (!t1 && !r1) := ⟨_, rfl⟩
  have H5 := Lib.hid h5; clear h5
  go_cut [47] (fun s wx => s = .bool a5 ∧ x2 = wx)
  case first => as_aux_lemma =>
    cases t1
    · have e1 : decide ((0 : Int) < (mo.length : Int)) = true := by have := T1.out.symm; rw [beq_eq_false_iff_ne] at this; exact decide_eq_true (by omega)
      have e1n : decide (0 < mo.length) = true := by have := T1.out.symm; rw [beq_eq_false_iff_ne] at this; exact decide_eq_true (by omega)
      go_wp2
      go_meet
      exact ⟨congrArg Value.bool (by rw [H5.out]; cases r1 <;> rfl), rfl⟩
    · have e1 : decide ((0 : Int) < (mo.length : Int)) = false := by have := T1.out.symm; rw [beq_iff_eq] at this; exact decide_eq_false (by omega)
      have e1n : decide (0 < mo.length) = false := by have := T1.out.symm; rw [beq_iff_eq] at this; exact decide_eq_false (by omega)
      go_wp2
      go_meet
      exact ⟨congrArg Value.bool (by rw [H5.out]; rfl), rfl⟩
  case rest =>
  obtain ⟨rfl, rfl⟩ := hcut
  cases a5
  rotate_left
  · have E := Lib.hid (show askB fr mo da we n0 n = false by rw [OK.out]; have h := H5.out; revert h; cases t1 <;> cases r1 <;> simp)
    go_wp2_with fail
    go_ret
    exact ⟨by rw [E.out]; rfl, B2.out⟩
  have O1 := Lib.hid (show (t1 || r1) = true by have h := H5.out; revert h; cases t1 <;> cases r1 <;> simp)
  have i1 : -40 ≤ d - sz - 1 := by omega
  have i2 : d - sz - 1 ≤ 40 := by omega
  go_wp2_with fail
  refine (rin_any _ da d _ RR2.out.2.1.2.1).mono ?_; rintro e w' ⟨rfl, rfl⟩
  rw [← R2.out]
  go_wp2_with fail
  refine (rin_any _ da (d - sz - 1) _ RR2.out.2.1.2.1).mono ?_; rintro e w' ⟨rfl, rfl⟩
  rw [← R3.out]
  go_upto_region 9 with fail
  obtain ⟨a9, h9⟩ : ∃ x, x = (!t2 && !r2 && !r3) := ⟨_, rfl⟩
  have H9 := Lib.hid h9; clear h9
  go_cut [72] (fun s wx => s = .bool a9 ∧ x2 = wx)
  case first => as_aux_lemma =>
    cases t2
    · have e1 : decide ((0 : Int) < (da.length : Int)) = true := by have := T2.out.symm; rw [beq_eq_false_iff_ne] at this; exact decide_eq_true (by omega)
      have e1n : decide (0 < da.length) = true := by have := T2.out.symm; rw [beq_eq_false_iff_ne] at this; exact decide_eq_true (by omega)
      cases r2
      all_goals
        go_wp2
        go_meet
        exact ⟨congrArg Value.bool (by rw [H9.out]; cases r3 <;> rfl), rfl⟩
    · have e1 : decide ((0 : Int) < (da.length : Int)) = false := by have := T2.out.symm; rw [beq_iff_eq] at this; exact decide_eq_false (by omega)
      have e1n : decide (0 < da.length) = false := by have := T2.out.symm; rw [beq_iff_eq] at this; exact decide_eq_false (by omega)
      go_wp2
      go_meet
      exact ⟨congrArg Value.bool (by rw [H9.out]; rfl), rfl⟩
  case rest =>
  obtain ⟨rfl, rfl⟩ := hcut
  cases a9
  rotate_left
  · have E := Lib.hid (show askB fr mo da we n0 n = false by rw [OK.out]; have h := H9.out; revert h; cases t2 <;> cases r2 <;> cases r3 <;> simp)
    go_wp2_with fail
    go_ret
    exact ⟨by rw [E.out]; rfl, B2.out⟩
  have O2 := Lib.hid (show (t2 || r2 || r3) = true by have h := H9.out; revert h; cases t2 <;> cases r2 <;> cases r3 <;> simp)
  go_wp2_with fail
  refine (rends_at n y m d sz _ D.out N.out SZ.out).mono ?_; rintro e w3 ⟨rfl, hb3⟩
  have RR3 := Lib.hid (RR2.out.below hb3); have B3 := Lib.hid (B2.out.trans (hb3.mono B2.out.size))
  have F3 := Lib.hid (And.intro (cell_below hb3 f0) (And.intro (cell_below hb3 f1) (And.intro (cell_below hb3 f2) (And.intro (cell_below hb3 g1) (cell_below hb3 g2)))))
  clear hb3 f0 f1 f2 g1 g2 c0 c1 c2 c3 c4 c5 c6 c7 hl0
  obtain ⟨a1, ha1⟩ : ∃ x, x = (d - 1) / 7 + 1 := ⟨_, rfl⟩
  obtain ⟨a2, ha2⟩ : ∃ x, x = -((sz - d) / 7 + 1) := ⟨_, rfl⟩
  obtain ⟨wd, hwd⟩ : ∃ x, x = (n - 1) % 7 + 1 := ⟨_, rfl⟩
  have A1 := Lib.hid ha1; have A2 := Lib.hid ha2; have WD := Lib.hid hwd
  rw [← ha1, ← ha2]
  clear ha1 ha2 hwd
  obtain ⟨⟨c0, c1, c2, c3, c4, c5, c6, c7⟩, _, hl0⟩ := id RR3.out
  go_upto_region 13 with fail
  rw [← T3.out]
  have PZ := Lib.hid (show r4 = we.any (nthP a1 wd a2 wd) by rw [R4.out, A1.out, A2.out, WD.out])
  go_wp2_with fail
  clear c0 c1 c2 c3 c4 c5 c6 c7 hl0
  go_loopg [17, 18] we.length (fun g fv iv wr => ∃ k : Nat, iv = .int .i64 k ∧ k ≤ we.length ∧ g = we.length - k ∧ fv = .bool (t3 || (we.take k).any (nthP a1 wd a2 wd)) ∧ Below w3.heap.size w3 wr)
  case atStart => exact ⟨0, rfl, Nat.zero_le _, rfl, congrArg Value.bool (by simp), Below.refl _ _⟩
  case round =>
    obtain ⟨k, rfl, hk, hg, hfv, hb⟩ := hrel
    obtain ⟨fb, hfb⟩ : ∃ x, x = (t3 || (we.take k).any (nthP a1 wd a2 wd)) := ⟨_, rfl⟩
    rw [← hfb] at hfv
    subst hfv
    have FB := Lib.hid hfb; have G := Lib.hid hg; have BL := Lib.hid hb
    clear hfb hg hb
    have RL := Lib.hid (RR3.out.below BL.out); have BW := Lib.hid (B3.out.trans (BL.out.mono B3.out.size))
    obtain ⟨⟨c0, c1, c2, c3, c4, c5, c6, c7⟩, _, hl0⟩ := id RL.out
    by_cases hlt : k < we.length
    · obtain ⟨lb, lo, rfl, hcs⟩ := WC.out (by omega)
      have e0 := cell_below BW.out (hcs k hlt).1
      have e1 := cell_below BW.out (hcs k hlt).2
      obtain ⟨x, hx⟩ : ∃ x, x = we[k].1 := ⟨_, rfl⟩
      obtain ⟨u, hu⟩ : ∃ u, u = we[k].2 := ⟨_, rfl⟩
      rw [← hx] at e0; rw [← hu] at e1
      have hbl : lb < wr.heap.size := World.block_lt_of_cell? wr _ e0
      have X := Lib.hid (show we[k] = (x, u) by rw [hx, hu])
      clear hx hu hcs
      have i3 : (0 : Int) ≤ (k : Int) := Int.natCast_nonneg _
      have i4 : (k : Int) < (we.length : Int) := by omega
      obtain ⟨p1, hp1⟩ : ∃ b, b = (u == wd) := ⟨_, rfl⟩
      obtain ⟨p2, hp2⟩ : ∃ b, b = (x == 0) := ⟨_, rfl⟩
      obtain ⟨p3, hp3⟩ : ∃ b, b = (x == a1) := ⟨_, rfl⟩
      obtain ⟨p4, hp4⟩ : ∃ b, b = (x == a2) := ⟨_, rfl⟩
      have E := Lib.hid (show (t3 || (we.take (k + 1)).any (nthP a1 wd a2 wd)) = (fb || (p1 && (p2 || p3 || p4))) by rw [anyP_snoc _ hlt X.out, nthP_and, ← Bool.or_assoc, ← FB.out, hp1, hp2, hp3, hp4])
      have P1 := Lib.hid hp1; have P2 := Lib.hid hp2; have P3 := Lib.hid hp3; have P4 := Lib.hid hp4
      clear hp1 hp2 hp3 hp4
      go_upto_region 17 with fail
      have hA : Below wr.heap.size wr (wr.alloc (.cells #[.int .i64 x, .int .i64 u] 198)) := (Below.refl _ _).alloc (Nat.le_refl _) _
      have k0 : (wr.alloc (.cells #[.int .i64 x, .int .i64 u] 198)).cell? ⟨wr.heap.size, 0, none⟩ = some (.int .i64 x) := by simp
      have k1 : (wr.alloc (.cells #[.int .i64 x, .int .i64 u] 198)).cell? ⟨wr.heap.size, 1, none⟩ = some (.int .i64 u) := by simp
      obtain ⟨wn, hwn⟩ : ∃ v, v = wr.alloc (.cells #[.int .i64 x, .int .i64 u] 198) := ⟨_, rfl⟩
      rw [← hwn] at hA k0 k1
      rw [← hwn]
      have HA := Lib.hid hA; clear hwn hA c0 c1 c2 c3 c4 c5 c6 c7 hl0 e0 e1
      cases fb
      · cases p1
        · have y1 : (u == (n - 1) % 7 + 1) = false := by rw [← WD.out]; exact P1.out.symm
          refine wp_region_quiet_lit (by kernel_rfl) (by kernel_rfl) ?_
          try simp only [List.append_eq, List.cons_append, List.nil_append]
          repeat (go_big_quiet_step ((go_at_call 300; exact quiet_l (rweekday_any _ _ (by omega) (by omega)))))
          refine wpQuiet_nil ?_
          intro _ hw'
          obtain ⟨nq, hw''⟩ := hw'
          subst hw''
          go_wp2
          go_roundg (we.length - (k + 1))
          case measure => rw [G.out]; omega
          case rel => exact ⟨k + 1, by go_num, by omega, rfl, congrArg Value.bool (by rw [E.out]; rfl), BL.out.trans ((below_drewN HA.out _).mono BL.out.size)⟩
        · have y1 : (u == (n - 1) % 7 + 1) = true := by rw [← WD.out]; exact P1.out.symm
          cases p2
          · have y2 : (x == 0) = false := P2.out.symm
            cases p3
            · have y3 : (x == a1) = false := P3.out.symm
              have y4 : (x == a2) = p4 := P4.out.symm
              refine wp_region_quiet_lit (by kernel_rfl) (by kernel_rfl) ?_
              try simp only [List.append_eq, List.cons_append, List.nil_append]
              repeat (go_big_quiet_step ((go_at_call 300; exact quiet_l (rweekday_any _ _ (by omega) (by omega)))))
              refine wpQuiet_nil ?_
              intro _ hw'
              obtain ⟨nq, hw''⟩ := hw'
              subst hw''
              go_wp2
              go_roundg (we.length - (k + 1))
              case measure => rw [G.out]; omega
              case rel => exact ⟨k + 1, by go_num, by omega, rfl, congrArg Value.bool (by rw [E.out]; cases p4 <;> rfl), BL.out.trans ((below_drewN HA.out _).mono BL.out.size)⟩
            · have y3 : (x == a1) = true := P3.out.symm
              refine wp_region_quiet_lit (by kernel_rfl) (by kernel_rfl) ?_
              try simp only [List.append_eq, List.cons_append, List.nil_append]
              repeat (go_big_quiet_step ((go_at_call 300; exact quiet_l (rweekday_any _ _ (by omega) (by omega)))))
              refine wpQuiet_nil ?_
              intro _ hw'
              obtain ⟨nq, hw''⟩ := hw'
              subst hw''
              go_wp2
              go_roundg (we.length - (k + 1))
              case measure => rw [G.out]; omega
              case rel => exact ⟨k + 1, by go_num, by omega, rfl, congrArg Value.bool (by rw [E.out]; rfl), BL.out.trans ((below_drewN HA.out _).mono BL.out.size)⟩
          · have y2 : (x == 0) = true := P2.out.symm
            refine wp_region_quiet_lit (by kernel_rfl) (by kernel_rfl) ?_
            try simp only [List.append_eq, List.cons_append, List.nil_append]
            repeat (go_big_quiet_step ((go_at_call 300; exact quiet_l (rweekday_any _ _ (by omega) (by omega)))))
            refine wpQuiet_nil ?_
            intro _ hw'
            obtain ⟨nq, hw''⟩ := hw'
            subst hw''
            go_wp2
            go_roundg (we.length - (k + 1))
            case measure => rw [G.out]; omega
            case rel => exact ⟨k + 1, by go_num, by omega, rfl, congrArg Value.bool (by rw [E.out]; rfl), BL.out.trans ((below_drewN HA.out _).mono BL.out.size)⟩
      · refine wp_region_quiet_lit (by kernel_rfl) (by kernel_rfl) ?_
        try simp only [List.append_eq, List.cons_append, List.nil_append]
        repeat (go_big_quiet_step ((go_at_call 300; exact quiet_l (rweekday_any _ _ (by omega) (by omega)))))
        refine wpQuiet_nil ?_
        intro _ hw'
        obtain ⟨nq, hw''⟩ := hw'
        subst hw''
        go_wp2
        go_roundg (we.length - (k + 1))
        case measure => rw [G.out]; omega
        case rel => exact ⟨k + 1, by go_num, by omega, rfl, congrArg Value.bool (by rw [E.out]; rfl), BL.out.trans ((below_drewN HA.out _).mono BL.out.size)⟩
    · have hce : k = we.length := by omega
      have FF := Lib.hid (show fb = (t3 || r4) by rw [FB.out, PZ.out, hce, List.take_length])
      have hge : ¬ (k : Int) < (we.length : Int) := by omega
      clear hce FB
      cases fb
      · have E := Lib.hid (show askB fr mo da we n0 n = false by rw [OK.out, ← FF.out]; simp)
        go_wp2_with fail
        go_ret
        exact ⟨by rw [E.out]; rfl, BW.out⟩
      go_upto_region 20 with fail
      obtain ⟨wz, hwz⟩ : ∃ x, x = wr := ⟨_, rfl⟩
      have F4 := Lib.hid (And.intro (cell_below BL.out F3.out.1) (And.intro (cell_below BL.out F3.out.2.1) (And.intro (cell_below BL.out F3.out.2.2.1) (And.intro (cell_below BL.out F3.out.2.2.2.1) (cell_below BL.out F3.out.2.2.2.2)))))
      rw [← hwz] at c0 c1 c2 c3 c4 c5 c6 c7 hl0 RL BW F4
      rw [← hwz]
      clear hwz BL
      obtain ⟨f0, f1, f2, g1, g2⟩ := F4.out
      obtain ⟨a20, h20⟩ : ∃ x, x = (!t2 || !t3 || fr == 1) := ⟨_, rfl⟩
      have H20 := Lib.hid h20; clear h20
      go_cut [135] (fun s wx => s = .bool a20 ∧ wz = wx)
      case first => as_aux_lemma =>
        cases t2
        · have e1 : decide ((0 : Int) < (da.length : Int)) = true := by have := T2.out.symm; rw [beq_eq_false_iff_ne] at this; exact decide_eq_true (by omega)
          have e1n : decide (0 < da.length) = true := by have := T2.out.symm; rw [beq_eq_false_iff_ne] at this; exact decide_eq_true (by omega)
          go_wp2
          go_meet
          exact ⟨congrArg Value.bool (by rw [H20.out]; rfl), rfl⟩
        · have e1 : decide ((0 : Int) < (da.length : Int)) = false := by have := T2.out.symm; rw [beq_iff_eq] at this; exact decide_eq_false (by omega)
          have e1n : decide (0 < da.length) = false := by have := T2.out.symm; rw [beq_iff_eq] at this; exact decide_eq_false (by omega)
          cases t3
          · have e2 : decide ((0 : Int) < (we.length : Int)) = true := by have := T3.out.symm; rw [beq_eq_false_iff_ne] at this; exact decide_eq_true (by omega)
            have e2n : decide (0 < we.length) = true := by have := T3.out.symm; rw [beq_eq_false_iff_ne] at this; exact decide_eq_true (by omega)
            go_wp2
            go_meet
            exact ⟨congrArg Value.bool (by rw [H20.out]; rfl), rfl⟩
          · have e2 : decide ((0 : Int) < (we.length : Int)) = false := by have := T3.out.symm; rw [beq_iff_eq] at this; exact decide_eq_false (by omega)
            have e2n : decide (0 < we.length) = false := by have := T3.out.symm; rw [beq_iff_eq] at this; exact decide_eq_false (by omega)
            go_wp2
            go_meet
            exact ⟨congrArg Value.bool (by rw [H20.out]; rfl), rfl⟩
      case rest =>
      obtain ⟨rfl, rfl⟩ := hcut
      obtain ⟨hf1, hf2⟩ := HF.out
      cases a20
      rotate_left
      · have E := Lib.hid (show askB fr mo da we n0 n = true by
          rw [OK.out, O1.out, O2.out, ← FF.out]
          have h := H20.out.symm
          by_cases h1 : fr = 1
          · subst h1; simp
          · have h1' : (fr == 1) = false := by rw [beq_eq_false_iff_ne]; exact h1
            rw [h1'] at h
            revert h; cases t2 <;> cases t3 <;> simp)
        go_wp2_with fail
        go_ret
        exact ⟨by rw [E.out]; rfl, BW.out⟩
      have hz : t2 = true ∧ t3 = true ∧ fr ≠ 1 := by
        have h := H20.out.symm
        by_cases h1 : fr = 1
        · subst h1; simp at h
        · have h1' : (fr == 1) = false := by rw [beq_eq_false_iff_ne]; exact h1
          rw [h1'] at h
          revert h; cases t2 <;> cases t3 <;> simp [h1]
      obtain ⟨rfl, rfl, hfr⟩ := hz
      have hfr2 : fr = 2 ∨ fr = 3 ∨ fr = 4 := by omega
      clear hf1 hf2 hfr
      rcases hfr2 with rfl | rfl | rfl
      · have E := Lib.hid (show askB 2 mo da we n0 n = ((n - 1) % 7 + 1 == (n0 - 1) % 7 + 1) by rw [OK.out, O1.out, O2.out, ← FF.out, ← R5.out]; cases r5 <;> cases t1 <;> rfl)
        go_wp2_with fail
        refine (rweekday_any n _ b1 (by omega)).mono ?_; rintro e w' ⟨rfl, rfl⟩
        go_wp2_with fail
        refine (rweekday_any n0 _ b3 (by omega)).mono ?_; rintro e w' ⟨rfl, rfl⟩
        go_wp2
        go_ret
        exact ⟨by rw [E.out]; first | rfl | simp, BW.out⟩
      · cases r6
        · have e6 : (d != d0) = true := by have := R6.out.symm; simpa using this
          have E := Lib.hid (show askB 3 mo da we n0 n = false by rw [OK.out, O1.out, O2.out, ← FF.out]; cases r5 <;> cases t1 <;> rfl)
          go_wp2
          go_ret
          exact ⟨by rw [E.out]; rfl, BW.out⟩
        · have e6 : (d != d0) = false := by have := R6.out.symm; simpa using this
          have E := Lib.hid (show askB 3 mo da we n0 n = true by rw [OK.out, O1.out, O2.out, ← FF.out]; cases r5 <;> cases t1 <;> cases r7 <;> rfl)
          go_wp2
          go_ret
          exact ⟨by rw [E.out]; rfl, BW.out⟩
      · cases r6
        · have e6 : (d != d0) = true := by have := R6.out.symm; simpa using this
          have E := Lib.hid (show askB 4 mo da we n0 n = false by rw [OK.out, O1.out, O2.out, ← FF.out]; cases r5 <;> cases t1 <;> rfl)
          go_wp2
          go_ret
          exact ⟨by rw [E.out]; rfl, BW.out⟩
        · have e6 : (d != d0) = false := by have := R6.out.symm; simpa using this
          cases t1
          · have e1 : decide ((0 : Int) < (mo.length : Int)) = true := by have := T1.out.symm; rw [beq_eq_false_iff_ne] at this; exact decide_eq_true (by omega)
            have e1n : decide (0 < mo.length) = true := by have := T1.out.symm; rw [beq_eq_false_iff_ne] at this; exact decide_eq_true (by omega)
            have E := Lib.hid (show askB 4 mo da we n0 n = true by rw [OK.out, O1.out, O2.out, ← FF.out]; cases r5 <;> cases r7 <;> rfl)
            go_wp2
            go_ret
            exact ⟨by rw [E.out]; rfl, BW.out⟩
          · have e1 : decide ((0 : Int) < (mo.length : Int)) = false := by have := T1.out.symm; rw [beq_iff_eq] at this; exact decide_eq_false (by omega)
            have e1n : decide (0 < mo.length) = false := by have := T1.out.symm; rw [beq_iff_eq] at this; exact decide_eq_false (by omega)
            have E := Lib.hid (show askB 4 mo da we n0 n = (m == m0) by rw [OK.out, O1.out, O2.out, ← FF.out, ← R7.out]; cases r5 <;> cases r7 <;> rfl)
            go_wp2
            go_ret
            exact ⟨by rw [E.out]; first | rfl | simp, BW.out⟩

end Go.Proofs.YtgelojhpanbnaaaGreatDoor

namespace Go.Proofs.YtgelojhpanbnaaaGreatDoor
open Go.RowKit
set_option linter.unusedSimpArgs false
set_option linter.unusedVariables false

theorem rwanted_day (fr ev ct ti n0 n y0 m0 d0 : Int) (vm vd vw vp : Value) (mo da : List Int) (we : List (Int × Int)) (pk : List Int) (w : World)
    (h1 : IntsR w vm mo) (h2 : IntsR w vd da) (h3 : PairsR w vw we) (h4 : IntsR w vp pk) (hd0 : Cal.dateB y0 m0 d0 = true) (hn0 : Cal.num y0 m0 d0 = n0) (hn1 : 1 ≤ n) (hn2 : n ≤ 109573)
    (hf : 1 ≤ fr ∧ fr ≤ 4) (hl : mo.length ≤ 12 ∧ da.length ≤ 31 ∧ we.length ≤ 20) :
    Calls Tryz.prog 284 #[.agg #[.int .i64 fr, .int .i64 ev, .int .i64 ct, .int .i64 ti, vm, vd, vw, vp], .int .i64 n0, .int .i64 n] w fun e w' => e = .returned (.bool (askB fr mo da we n0 n)) ∧ Below w.heap.size w w' := by
  obtain ⟨y, m, d, hd, hn⟩ := Cal.ex_date n hn1 hn2
  exact rwanted_any fr ev ct ti n0 n y0 m0 d0 y m d vm vd vw vp mo da we pk w h1 h2 h3 h4 hd0 hn0 hd hn hf hl

set_option maxRecDepth 100000 in
set_option maxHeartbeats 16000000 in
theorem rperiod_fr (fr ev ct ti k a b y0 m0 d0 n0 : Int) (vm vd vw vp : Value) (mo da : List Int) (we : List (Int × Int)) (pk : List Int) (w : World)
    (h1 : IntsR w vm mo) (h2 : IntsR w vd da) (h3 : PairsR w vw we) (h4 : IntsR w vp pk) (hd0 : Cal.dateB y0 m0 d0 = true) (hn0 : Cal.num y0 m0 d0 = n0) (hF : ruleF fr ev ct ti mo da we pk = 0) (ho : perS fr ev y0 m0 d0 k = some (a, b)) :
    Calls Tryz.prog 233 #[.agg #[.int .i64 fr, .int .i64 ev, .int .i64 ct, .int .i64 ti, vm, vd, vw, vp], .int .i64 n0, .int .i64 k] w
      fun e w' => ∃ r, e = .returned (.tuple #[r, .bool true]) ∧ (IntsR w' r (perL fr mo da we pk n0 a b) ∧ FreshV w.heap.size r) ∧ Below w.heap.size w w' := by
  obtain ⟨i0, hi, hz0, hz1, hz2⟩ := info_parts intInfoP
  obtain ⟨am, km, rfl, _, mm, _⟩ := intsR_open h1
  obtain ⟨ad, kd, rfl, _, dd, _⟩ := intsR_open h2
  obtain ⟨aw, kw, rfl, _, ww, _⟩ := pairsR_open h3
  obtain ⟨ap, kp, rfl, _, pp, _⟩ := intsR_open h4
  unfold maxLen at mm dd ww pp
  have hr0 := ruleF_0 hF
  have hbd := perS_bd hd0 hr0.2.1.1 ho
  have hfull := hr0.2.2.2.1
  have hln : mo.length ≤ 12 ∧ da.length ≤ 31 ∧ we.length ≤ 20 := by simp [fullB] at hfull; omega
  have FR := Lib.hid hr0.1; have EV := Lib.hid hr0.2.1; have LN := Lib.hid hln
  obtain ⟨⟨a1, a2⟩, b1, b2⟩ := hbd
  obtain ⟨w0, hw0⟩ : ∃ x, x = w.alloc (.cells #[.int .i64 fr, .int .i64 ev, .int .i64 ct, .int .i64 ti, .slice am mo.length km, .slice ad da.length kd, .slice aw we.length kw, .slice ap pk.length kp] 25) := ⟨_, rfl⟩
  have hR := rlAt_new w 25 fr ev ct ti _ _ _ _ mo da we pk h1 h2 h3 h4
  have hb0 : Below w.heap.size w w0 := by rw [hw0]; exact (Below.refl _ _).alloc (Nat.le_refl _) _
  rw [← hw0] at hR
  have RR := Lib.hid hR; have B0 := Lib.hid hb0; have W0 := Lib.hid hw0; have D0 := Lib.hid hd0; have N0 := Lib.hid hn0; have HO := Lib.hid ho
  clear hr0 hfull hln hF ho hd0 hn0 hR hb0 hw0 h1 h2 h3 h4
  obtain ⟨⟨c0, c1, c2, c3, c4, c5, c6, c7⟩, _, hl0⟩ := id RR.out
  go_enter Tryz.func233, Tryz.ntmps233
  go_upto_region 1 with fail
  rw [← W0.out]
  go_wp2_with fail
  refine (rbegin_any fr ev ct ti k y0 m0 d0 n0 am ad aw ap mo.length km da.length kd we.length kw pk.length kp _ D0.out N0.out FR.out EV.out).mono ?_
  rintro e w1 ⟨a', b', rfl, hab, hb1⟩
  obtain ⟨rfl, rfl⟩ : a = a' ∧ b = b' := by have := hab _ HO.out; exact ⟨congrArg Prod.fst this, congrArg Prod.snd this⟩
  rw [show (perS fr ev y0 m0 d0 k).isSome = true by rw [HO.out]; rfl]
  clear hab
  have RR1 := Lib.hid (RR.out.below hb1); have B1 := Lib.hid (B0.out.trans (hb1.mono B0.out.size))
  clear hb1 c0 c1 c2 c3 c4 c5 c6 c7 hl0
  obtain ⟨cnt, hcnt⟩ : ∃ cnt, cnt = (min b 109573 + 1 - a).toNat := ⟨_, rfl⟩
  have hcb : (cnt : Int) = min b 109573 + 1 - a := by omega
  have hc4 : cnt ≤ 401 := by omega
  obtain ⟨ask, hask⟩ : ∃ ask, ask = askB fr mo da we n0 := ⟨_, rfl⟩
  have CN := Lib.hid hcnt; have CB := Lib.hid hcb; have ASK := Lib.hid hask; have C4 := Lib.hid hc4
  clear hcnt hcb hask hc4
  go_wp2_with fail
  go_loopg [11, 12] cnt (fun g ov nv wr => ∃ c : Nat, nv = .int .i64 (a + c) ∧ c ≤ cnt ∧ g = cnt - c ∧ wr.ownsRow w1.heap.size 3 1 ov (daysG ask a c).length ((daysG ask a c).map (Value.int .i64)) ∧ Below w1.heap.size w1 wr)
  case atStart => exact ⟨0, by simp, Nat.zero_le _, rfl, World.ownsRow_nil _ _ _ _, Below.refl _ _⟩
  case round =>
    obtain ⟨c, hnv, hc, hg, hown, hb⟩ := hrel
    obtain ⟨n, hn⟩ : ∃ n, n = a + (c : Int) := ⟨_, rfl⟩
    rw [← hn] at hnv
    subst hnv
    have hna : 1 ≤ n := by omega
    have hnb : n ≤ 110000 := by have := C4.out; omega
    have hcc := CB.out
    have N := Lib.hid hn; have G := Lib.hid hg; have OW := Lib.hid hown; have BL := Lib.hid hb
    by_cases hlt : c < cnt
    · have e1 : decide (n ≤ b) = true := decide_eq_true (by omega)
      have e2 : decide (n ≤ 109573) = true := decide_eq_true (by omega)
      have e3 : decide (n < 1) = false := decide_eq_false (by omega)
      have hnl : n ≤ 109573 := by omega
      have CL := Lib.hid hc; have LT := Lib.hid hlt
      clear hcc hn hg hown hb hc hlt
      have RX := Lib.hid (RR1.out.below BL.out)
      obtain ⟨⟨c0, c1, c2, c3, c4, c5, c6, c7⟩, _, hl0⟩ := id RX.out
      go_wp2_with fail
      refine (rwanted_day fr ev ct ti n0 n y0 m0 d0 _ _ _ _ mo da we pk _ RX.out.2.1.1 RX.out.2.1.2.1 RX.out.2.1.2.2.1 RX.out.2.1.2.2.2 D0.out N0.out hna hnl FR.out LN.out).mono ?_; rintro e w2 ⟨rfl, hb2⟩
      obtain ⟨ok, hok⟩ : ∃ ok, ok = askB fr mo da we n0 n := ⟨_, rfl⟩
      have AK := Lib.hid (show ask (a + (c : Int)) = ok by rw [hok, ASK.out, N.out])
      rw [← hok]
      clear hok
      have OW3 := Lib.hid (own_kept OW.out hb2)
      have BL3 := Lib.hid (BL.out.trans (hb2.mono BL.out.size))
      have hwc := BL3.out.size
      clear hb2 c0 c1 c2 c3 c4 c5 c6 c7 hl0
      cases ok
      · have E := Lib.hid (daysG_no (p := ask) (a := a) (c := c) AK.out)
        go_wp2
        go_roundg (cnt - (c + 1))
        case measure => rw [G.out]; have := LT.out; omega
        case rel => exact ⟨c + 1, congrArg (Value.int .i64) (by have := N.out; omega), LT.out, rfl, by rw [E.out]; exact OW3.out, BL3.out⟩
      · have E := Lib.hid (daysG_yes (p := ask) (a := a) (c := c) AK.out)
        obtain ⟨done, hdone⟩ : ∃ done, done = daysG ask a c := ⟨_, rfl⟩
        have hdl : done.length ≤ 401 := by rw [hdone]; exact Nat.le_trans (daysG_len _ _ _) (by have := CL.out; have := C4.out; omega)
        have hown := OW3.out
        rw [← hdone] at hown
        have DN := Lib.hid hdone; clear hdone
        go_wp2_with (at_builtin; refine wpList_append_lies _ rfl _ _ 22 rfl w1.heap.size 3 i0 _ 1 8 Tryz.underlying22 hi hz0 hz1 hz2 rfl (by decide) _ _ _ rfl (hown.alloc _) ⟨w2.heap.size, 0, none⟩ 1 1 [.int .i64 n] rfl rfl ?d1 ?d2 (by decide) (by unfold maxLen; omega) (by omega) (by simp; omega) _ rfl ?_)
        case d1 => exact cell_one_new _ _ _
        case d2 => intro u hu; simp at hu; subst hu; rfl
        intro g3 cap3 w5 hown3 hgrow3 hat3 hlt3
        have hB3 := Lib.hid ((BL3.out.alloc hwc (.cells #[.int .i64 n] 3)).grown hgrow3 (by simp; omega) (fun c hc => (hown.lt c hc).1))
        have O3 := Lib.hid hown3
        clear hown3 hgrow3 hat3 hlt3 hown
        go_wp2
        go_roundg (cnt - (c + 1))
        case measure => rw [G.out]; have := LT.out; omega
        case rel => exact ⟨c + 1, congrArg (Value.int .i64) (by have := N.out; omega), LT.out, rfl, by rw [E.out, ← DN.out, ← N.out, List.length_append, List.map_append]; exact O3.out, hB3.out⟩
    · have hce : c = cnt := by omega
      obtain ⟨L, hL⟩ : ∃ L, L = daysG ask a c := ⟨_, rfl⟩
      have hLl : L.length ≤ 401 := by rw [hL]; exact Nat.le_trans (daysG_len _ _ _) (by have := C4.out; omega)
      rw [← hL] at OW
      have LL := Lib.hid (show perL fr mo da we pk n0 a b = pickL L pk by rw [perL, hL, hce, CN.out, ASK.out])
      have e12 : decide (n ≤ b) = false ∨ (decide (n ≤ b) = true ∧ decide (n ≤ 109573) = false) := by
        by_cases h : n ≤ b
        · exact .inr ⟨decide_eq_true h, decide_eq_false (by omega)⟩
        · exact .inl (decide_eq_false h)
      have LR := Lib.hid (intsR_of_owns OW.out)
      have FRV := Lib.hid (fun g hg => Nat.le_trans B1.out.size (ownBlock_ge OW.out g hg) : FreshV w.heap.size _)
      have BB := Lib.hid (B1.out.trans (BL.out.mono B1.out.size))
      have RX := Lib.hid (RR1.out.below BL.out)
      clear hcc hn hg hown hb hc hlt hce hL OW N G
      obtain ⟨la, lc, rfl, lc1, lc2, hlc⟩ := intsR_open LR.out
      unfold maxLen at lc2
      have LC := Lib.hid hlc; clear hlc
      obtain ⟨⟨c0, c1, c2, c3, c4, c5, c6, c7⟩, _, hl0⟩ := id RX.out
      by_cases hpk : pk = []
      · have P := Lib.hid (show pickL L pk = L by rw [pickL, if_pos hpk])
        have z1 : ((pk.length : Int) == 0) = true := by rw [hpk]; rfl
        clear hpk
        rcases e12 with e1 | ⟨e1, e2⟩
        all_goals
          go_wp2
          go_ret2
          exact ⟨_, rfl, ⟨by rw [LL.out, P.out]; exact LR.out, FRV.out⟩, BB.out⟩
      · have P := Lib.hid (show pickL L pk = pickG pk L.length 0 L by rw [pickL, if_neg hpk])
        have z1 : ((pk.length : Int) == 0) = false := by rw [beq_eq_false_iff_ne]; intro h; exact hpk (List.length_eq_zero_iff.1 (by omega))
        clear hpk
        obtain ⟨wz, hwz⟩ : ∃ x, x = wr := ⟨_, rfl⟩
        rw [← hwz] at c0 c1 c2 c3 c4 c5 c6 c7 hl0 RX BB LR LC
        rw [← hwz]
        clear hwz BL
        rcases e12 with e1 | ⟨e1, e2⟩
        all_goals
          go_wp2_with fail
          clear c0 c1 c2 c3 c4 c5 c6 c7 hl0
          go_loopg [14, 15] L.length (fun g ov iv wx => ∃ k : Nat, k ≤ L.length ∧ iv = .int .i64 k ∧ g = L.length - k ∧ wx.ownsRow wz.heap.size 3 1 ov (pickG pk L.length 0 (L.take k)).length ((pickG pk L.length 0 (L.take k)).map (Value.int .i64)) ∧ Below wz.heap.size wz wx)
          case atStart => exact ⟨0, Nat.zero_le _, rfl, rfl, World.ownsRow_nil _ _ _ _, Below.refl _ _⟩
          case round =>
            obtain ⟨k2, hk, rfl, hg, hown, hb⟩ := hrel
            have G := Lib.hid hg; clear hg
            have BX := Lib.hid hb
            have RY := Lib.hid (RX.out.below BX.out)
            obtain ⟨⟨c0, c1, c2, c3, c4, c5, c6, c7⟩, _, hl0⟩ := id RY.out
            by_cases hlt : k2 < L.length
            · obtain ⟨lb, lo, rfl, hcs⟩ := LC.out (by omega)
              have u0 := cell_below BX.out (hcs k2 hlt)
              obtain ⟨x, hx⟩ : ∃ x, x = L[k2] := ⟨_, rfl⟩
              rw [← hx] at u0
              have X := Lib.hid hx
              have hpl := Nat.le_trans (pickG_len pk L.length (L.take k2) 0) (Nat.le_of_eq (List.length_take))
              obtain ⟨done, hdone⟩ : ∃ done, done = pickG pk L.length 0 (L.take k2) := ⟨_, rfl⟩
              rw [← hdone] at hown hpl
              have hdl : done.length ≤ 1000 := by omega
              have hbs := hb.size
              have hlb : lb < wr.heap.size := World.block_lt_of_cell? wr _ u0
              have DN := Lib.hid hdone; have OW := Lib.hid hown
              clear hx hcs hdone hown hpl hb
              obtain ⟨p1, hp1⟩ : ∃ p1, p1 = inB pk ((k2 : Int) + 1) := ⟨_, rfl⟩
              obtain ⟨p2, hp2⟩ : ∃ p2, p2 = inB pk ((k2 : Int) - L.length) := ⟨_, rfl⟩
              have P1 := Lib.hid hp1; have P2 := Lib.hid hp2
              have PB := Lib.hid (show pickB pk L.length k2 = (p1 || p2) by rw [pickB, ← hp1, ← hp2])
              clear hp1 hp2
              have hk0 : (0 : Int) ≤ (k2 : Int) := Int.natCast_nonneg _
              go_wp2_with fail
              refine (rin_any _ pk _ _ RY.out.2.1.2.2.2).mono ?_; rintro e w' ⟨rfl, rfl⟩
              rw [← P1.out]
              go_wp2_with fail
              refine (rin_any _ pk _ _ RY.out.2.1.2.2.2).mono ?_; rintro e w' ⟨rfl, rfl⟩
              rw [← P2.out]
              clear c0 c1 c2 c3 c4 c5 c6 c7 hl0
              cases hpp : (p1 || p2)
              · have E := Lib.hid (pick_no hlt (PB.out.trans hpp))
                obtain ⟨rfl, rfl⟩ : p1 = false ∧ p2 = false := by revert hpp; cases p1 <;> cases p2 <;> simp
                clear hpp
                go_wp2
                go_roundg (L.length - (k2 + 1))
                case measure => rw [G.out]; omega
                case rel => exact ⟨k2 + 1, by omega, by go_num, rfl, by rw [E.out, ← DN.out]; exact OW.out, BX.out⟩
              · have E := Lib.hid (pick_yes hlt (PB.out.trans hpp))
                have hown := OW.out
                have hpq : p1 = true ∨ (p1 = false ∧ p2 = true) := by revert hpp; cases p1 <;> cases p2 <;> simp
                clear hpp
                rcases hpq with rfl | ⟨rfl, rfl⟩
                all_goals
                  go_wp2_with (at_builtin; refine wpList_append_lies _ rfl _ _ 22 rfl wz.heap.size 3 i0 _ 1 8 Tryz.underlying22 hi hz0 hz1 hz2 rfl (by decide) _ _ _ rfl (hown.alloc _) ⟨wr.heap.size, 0, none⟩ 1 1 [.int .i64 x] rfl rfl ?d1 ?d2 (by decide) (by unfold maxLen; omega) (by omega) (by simp; omega) _ rfl ?_)
                  case d1 => exact cell_one_new _ _ _
                  case d2 => intro u hu; simp at hu; subst hu; rfl
                  intro g3 cap3 w3 hown3 hgrow3 hat3 hlt3
                  have hB3 := Lib.hid ((BX.out.alloc hbs (.cells #[.int .i64 x] 3)).grown hgrow3 (by simp; omega) (fun c hc => (hown.lt c hc).1))
                  have O3 := Lib.hid hown3
                  clear hown3 hgrow3 hat3 hlt3
                  go_wp2
                  go_roundg (L.length - (k2 + 1))
                  case measure => rw [G.out]; omega
                  case rel => exact ⟨k2 + 1, by omega, by go_num, rfl, by rw [E.out, ← DN.out, ← X.out, List.length_append, List.map_append]; exact O3.out, hB3.out⟩
            · have hke : k2 = L.length := by omega
              rw [hke, List.take_length] at hown
              have OW := Lib.hid hown
              have hge : ¬ (k2 : Int) < (L.length : Int) := by omega
              clear hown hb hke
              go_wp2
              go_ret2
              exact ⟨_, rfl, ⟨by rw [LL.out, P.out]; exact intsR_of_owns OW.out, fun g hg => Nat.le_trans BB.out.size (ownBlock_ge OW.out g hg)⟩, BB.out.trans (BX.out.mono BB.out.size)⟩

end Go.Proofs.YtgelojhpanbnaaaGreatDoor

namespace Go.Proofs.YtgelojhpanbnaaaGreatDoor
open Go.RowKit
set_option linter.unusedSimpArgs false
set_option linter.unusedVariables false

theorem IntsR.far {w w' : World} {a : Option Addr} {cap : Nat} {L : List Int} {row : Option Nat} (h : IntsR w (.slice a L.length cap) L) (hg : w.grownBy w' row) (hne : ∀ b, a = some b → row ≠ some b.block) : IntsR w' (.slice a L.length cap) L := by
  obtain ⟨a', cap', h1, h2, h3, h4, h5⟩ := h
  cases h1
  refine ⟨_, _, rfl, h2, h3, h4, fun hn => ?_⟩
  obtain ⟨b, off, h6, h7⟩ := h5 hn
  exact ⟨b, off, h6, fun j u hj => hg.cell (h7 j u hj) (show some b ≠ row from Ne.symm (hne ⟨b, off, none⟩ h6))⟩

def inS (H st : Int) (l : List Int) (i : Nat) : List Int := upto H ((l.take i).filter fun n => decide (st < n))

theorem inS_succ {H st : Int} {l : List Int} {i : Nat} (h : i < l.length) : inS H st l (i + 1) = inS H st l i ++ (if st < l[i] ∧ l[i] ≤ H then [l[i]] else []) := by
  unfold inS
  rw [List.take_succ_eq_append_getElem h, List.filter_append, upto_append]
  congr 1
  by_cases h1 : st < l[i] <;> by_cases h2 : l[i] ≤ H <;> simp [upto, h1, h2]

theorem inS_yes {H st : Int} {l O : List Int} {i M : Nat} (h : i < l.length) (h1 : st < l[i]) (h2 : l[i] ≤ H) (h3 : ((O ++ inS H st l i).take M).length < M) :
    (O ++ inS H st l (i + 1)).take M = (O ++ inS H st l i).take M ++ [l[i]] := by
  rw [inS_succ h, if_pos ⟨h1, h2⟩, ← List.append_assoc]
  obtain ⟨X, hX⟩ : ∃ X, X = O ++ inS H st l i := ⟨_, rfl⟩
  rw [← hX] at h3 ⊢
  rw [List.length_take] at h3
  rw [List.take_of_length_le (show X.length ≤ M by omega), List.take_of_length_le (by simp; omega)]

theorem inS_no {H st : Int} {l O : List Int} {i M : Nat} (h : i < l.length) (h1 : ¬ (st < l[i] ∧ l[i] ≤ H)) : (O ++ inS H st l (i + 1)).take M = (O ++ inS H st l i).take M := by
  rw [inS_succ h, if_neg h1, List.append_nil]

theorem take_stop {α : Type} {X Y : List α} {M : Nat} (h : ¬ (X.take M).length < M) : (X ++ Y).take M = X.take M := by
  rw [List.length_take] at h
  rw [List.take_append_of_le_length (by omega)]

theorem inS_full {H st : Int} {l O : List Int} {i M : Nat} (h : i < l.length) (h3 : ¬ ((O ++ inS H st l i).take M).length < M) : (O ++ inS H st l (i + 1)).take M = (O ++ inS H st l i).take M := by
  rw [inS_succ h, ← List.append_assoc, take_stop h3]

theorem inS_all (H st : Int) (l : List Int) : inS H st l l.length = upto H (l.filter fun n => decide (st < n)) := by rw [inS, List.take_length]

theorem take_app_take {α : Type} (X Y : List α) (M : Nat) : (X.take M ++ Y).take M = (X ++ Y).take M := by
  rcases Nat.le_total X.length M with h | h
  · rw [List.take_of_length_le h]
  · rw [List.take_append_of_le_length (by rw [List.length_take]; omega), List.take_append_of_le_length h, List.take_take, Nat.min_self]

theorem perS_k {fr ev y m d k a b : Int} (h : perS fr ev y m d k = some (a, b)) : 0 ≤ k ∧ k ≤ 109573 := by
  unfold perS at h
  by_cases hk : k < 0 ∨ 109573 < k
  · rw [if_pos hk] at h; simp at h
  · omega

theorem upto_rest {fr ev y m d st k a b H : Int} {mo da : List Int} {we : List (Int × Int)} {pk : List Int} (hd : Cal.dateB y m d = true) (he : 1 ≤ ev ∧ ev ≤ 50) (h : perS fr ev y m d k = some (a, b)) (ha : H < a) :
    upto H (restL (perD fr ev y m d mo da we pk st) st k) = [] := by
  refine upto_none fun x hx => ?_
  obtain ⟨_, _, a', b', h', h2⟩ := (restG_up hd he _ k).2 x hx
  rw [h] at h'
  cases h'
  omega

set_option maxRecDepth 100000 in
set_option maxHeartbeats 16000000 in
theorem rseq_any (fr ev ct ti y0 m0 d0 n0 tt mm : Int) (vm vd vw vp : Value) (mo da : List Int) (we : List (Int × Int)) (pk : List Int) (w : World)
    (h1 : IntsR w vm mo) (h2 : IntsR w vd da) (h3 : PairsR w vw we) (h4 : IntsR w vp pk) (hd0 : Cal.dateB y0 m0 d0 = true) (hn0 : Cal.num y0 m0 d0 = n0) (hF : ruleF fr ev ct ti mo da we pk = 0) (hmm : mm ≤ 200000) :
    Calls Tryz.prog 189 #[.agg #[.int .i64 fr, .int .i64 ev, .int .i64 ct, .int .i64 ti, vm, vd, vw, vp], .int .i64 n0, .int .i64 tt, .int .i64 mm] w
      fun e w' => ∃ r, e = .returned r ∧ IntsR w' r (seqR ti ct (n0 :: restL (perD fr ev y0 m0 d0 mo da we pk n0) n0 0) tt mm) ∧ Below w.heap.size w w' := by
  obtain ⟨i0, hi, hz0, hz1, hz2⟩ := info_parts intInfoP
  obtain ⟨am, km, rfl, _, _, _⟩ := intsR_open h1
  obtain ⟨ad, kd, rfl, _, _, _⟩ := intsR_open h2
  obtain ⟨aw, kw, rfl, _, _, _⟩ := pairsR_open h3
  obtain ⟨ap, kp, rfl, _, _, _⟩ := intsR_open h4
  have hr0 := ruleF_0 hF
  have he := hr0.2.1
  have FR := Lib.hid hr0.1; have EV := Lib.hid hr0.2.1
  obtain ⟨H, hH⟩ : ∃ H, H = hiS ti tt := ⟨_, rfl⟩
  obtain ⟨M, hM⟩ : ∃ M, M = mostS ct mm := ⟨_, rfl⟩
  have hMb : M ≤ 200000 := by rw [hM]; unfold mostS; split <;> omega
  obtain ⟨R, hR⟩ : ∃ R, R = restL (perD fr ev y0 m0 d0 mo da we pk n0) n0 := ⟨_, rfl⟩
  rw [show seqR ti ct (n0 :: restL (perD fr ev y0 m0 d0 mo da we pk n0) n0 0) tt mm = (upto H (n0 :: R 0)).take M.toNat by rw [seqR, hH, hM, hR]]
  obtain ⟨F, hFF⟩ : ∃ F, F = (upto H (n0 :: R 0)).take M.toNat := ⟨_, rfl⟩
  rw [← hFF]
  obtain ⟨w0, hw0⟩ : ∃ x, x = w.alloc (.cells #[.int .i64 fr, .int .i64 ev, .int .i64 ct, .int .i64 ti, .slice am mo.length km, .slice ad da.length kd, .slice aw we.length kw, .slice ap pk.length kp] 25) := ⟨_, rfl⟩
  have hRl := rlAt_new w 25 fr ev ct ti _ _ _ _ mo da we pk h1 h2 h3 h4
  have hb0 : Below w.heap.size w w0 := by rw [hw0]; exact (Below.refl _ _).alloc (Nat.le_refl _) _
  rw [← hw0] at hRl
  have RR := Lib.hid hRl; have B0 := Lib.hid hb0; have W0 := Lib.hid hw0; have D0 := Lib.hid hd0; have N0 := Lib.hid hn0; have HF := Lib.hid hF; have FE := Lib.hid hFF; have RE := Lib.hid hR; have HE := Lib.hid he
  clear hr0 hF hd0 hn0 hRl hb0 hw0 h1 h2 h3 h4 hFF hR he
  obtain ⟨⟨c0, c1, c2, c3, c4, c5, c6, c7⟩, _, hl0⟩ := id RR.out
  go_enter Tryz.func189, Tryz.ntmps189
  go_upto_region 1 with fail
  rw [← W0.out]
  obtain ⟨bt, hbt⟩ : ∃ b, b = decide (ti ≠ 0 ∧ ti < tt) := ⟨_, rfl⟩
  have btT := Lib.hid (show bt = true → ti = H from fun h => by rw [hbt, decide_eq_true_eq] at h; rw [hH, hiS, if_pos h])
  have btF := Lib.hid (show bt = false → tt = H from fun h => by rw [hbt, decide_eq_false_iff_not] at h; rw [hH, hiS, if_neg h])
  clear hH
  go_upto_region 2 with fail
  go_cut [25] (fun s25 wx => s25 = .bool bt ∧ w0 = wx)
  case first => as_aux_lemma =>
    by_cases h0 : ti = 0
    · have z : (ti != 0) = false := by simp [h0]
      have E := Lib.hid (show bt = false by rw [hbt]; simp [h0])
      clear h0 hbt
      go_wp2
      go_meet
      exact ⟨by rw [E.out], rfl⟩
    · have z : (ti != 0) = true := by simp [h0]
      by_cases ht : ti < tt
      · have E := Lib.hid (show bt = true by rw [hbt]; simp [h0, ht])
        clear h0 hbt
        go_wp2
        go_meet
        exact ⟨by rw [E.out], rfl⟩
      · have E := Lib.hid (show bt = false by rw [hbt]; simp [ht])
        clear h0 hbt
        go_wp2
        go_meet
        exact ⟨by rw [E.out], rfl⟩
  case rest =>
  obtain ⟨rfl, rfl⟩ := hcut
  clear hbt
  go_upto_if 25 with fail
  go_cut [2] (fun s2 wx => s2 = .int .i64 H ∧ w0 = wx)
  case first => as_aux_lemma =>
    cases bt
    · have E := Lib.hid (btF.out rfl)
      clear btF btT
      go_wp2
      go_meet
      exact ⟨by rw [E.out], rfl⟩
    · have E := Lib.hid (btT.out rfl)
      clear btF btT
      go_wp2
      go_meet
      exact ⟨by rw [E.out], rfl⟩
  case rest =>
  obtain ⟨rfl, rfl⟩ := hcut
  clear btT btF
  obtain ⟨bm, hbm⟩ : ∃ b, b = decide (ct ≠ 0 ∧ ct < mm) := ⟨_, rfl⟩
  have bmT := Lib.hid (show bm = true → ct = M from fun h => by rw [hbm, decide_eq_true_eq] at h; rw [hM, mostS, if_pos h])
  have bmF := Lib.hid (show bm = false → mm = M from fun h => by rw [hbm, decide_eq_false_iff_not] at h; rw [hM, mostS, if_neg h])
  clear hM
  go_upto_region 4 with fail
  go_cut [36] (fun s36 wx => s36 = .bool bm ∧ w0 = wx)
  case first => as_aux_lemma =>
    by_cases h0 : ct = 0
    · have z : (ct != 0) = false := by simp [h0]
      have E := Lib.hid (show bm = false by rw [hbm]; simp [h0])
      clear h0 hbm
      go_wp2
      go_meet
      exact ⟨by rw [E.out], rfl⟩
    · have z : (ct != 0) = true := by simp [h0]
      by_cases ht : ct < mm
      · have E := Lib.hid (show bm = true by rw [hbm]; simp [h0, ht])
        clear h0 hbm
        go_wp2
        go_meet
        exact ⟨by rw [E.out], rfl⟩
      · have E := Lib.hid (show bm = false by rw [hbm]; simp [ht])
        clear h0 hbm
        go_wp2
        go_meet
        exact ⟨by rw [E.out], rfl⟩
  case rest =>
  obtain ⟨rfl, rfl⟩ := hcut
  clear hbm
  go_upto_if 36 with fail
  go_cut [3] (fun s3 wx => s3 = .int .i64 M ∧ w0 = wx)
  case first => as_aux_lemma =>
    cases bm
    · have E := Lib.hid (bmF.out rfl)
      clear bmF bmT
      go_wp2
      go_meet
      exact ⟨by rw [E.out], rfl⟩
    · have E := Lib.hid (bmT.out rfl)
      clear bmF bmT
      go_wp2
      go_meet
      exact ⟨by rw [E.out], rfl⟩
  case rest =>
  obtain ⟨rfl, rfl⟩ := hcut
  clear bmT bmF
  clear hmm
  by_cases hst : H < n0
  · have E := Lib.hid (show F = [] by rw [FE.out, upto_none, List.take_nil]; intro x hx; rcases List.mem_cons.1 hx with rfl | hx; · exact hst
                                      rw [RE.out] at hx; have := ((restG_up D0.out HE.out _ 0).2 x hx).1; omega)
    have z1 : decide (H < n0) = true := decide_eq_true hst
    go_wp2
    go_ret
    exact ⟨_, rfl, by rw [E.out]; exact intsR_nil _, B0.out⟩
  · have z1 : decide (H < n0) = false := decide_eq_false hst
    by_cases hm1 : M < 1
    · have E := Lib.hid (show F = [] by rw [FE.out, show M.toNat = 0 by omega, List.take_zero])
      have z2 : decide (M < 1) = true := decide_eq_true hm1
      go_wp2
      go_ret
      exact ⟨_, rfl, by rw [E.out]; exact intsR_nil _, B0.out⟩
    · have z2 : decide (M < 1) = false := decide_eq_false hm1
      have S := Lib.hid (show ([n0] ++ upto H (R 0)).take M.toNat = F by rw [FE.out]; congr 1; rw [show n0 :: R 0 = [n0] ++ R 0 from rfl, upto_append, show upto H [n0] = [n0] from upto_all (by simp; omega)])
      clear c0 c1 c2 c3 c4 c5 c6 c7 hl0
      have hsz0 : w.heap.size < w0.heap.size := World.block_lt_of_cell? w0 ⟨w.heap.size, 0, none⟩ RR.out.1.1
      go_wp2_with (at_builtin; refine wpList_append_lies _ rfl _ _ 22 rfl w0.heap.size 3 i0 _ 1 8 Tryz.underlying22 hi hz0 hz1 hz2 rfl (by decide) _ _ _ rfl ((World.ownsRow_nil w0 w0.heap.size 3 1).alloc _) ⟨w0.heap.size, 0, none⟩ 1 1 [.int .i64 n0] rfl rfl ?d1 ?d2 (by decide) (by unfold maxLen; omega) (by omega) (by simp) _ rfl ?_)
      try (case d1 => exact cell_one_new _ _ _)
      case d2 => first | rfl | (intro u hu; simp at hu; subst hu; rfl)
      intro g1 cap1 w1 hown1 hgrow1 hat1 hlt1
      have hB1 := Lib.hid (((Below.refl w0.heap.size w0).alloc (Nat.le_refl _) (.cells #[.int .i64 n0] 3)).grown hgrow1 (by simp) (fun c hc => ((World.ownsRow_nil w0 w0.heap.size 3 1).lt c hc).1))
      have O1 := Lib.hid hown1
      clear hown1 hgrow1 hat1 hlt1
      go_wp2_with fail
      go_loopg [9, 10] 109574 (fun g ov kv wr => ∃ (k : Nat) (O : List Int), kv = .int .i64 k ∧ k ≤ 109574 ∧ g = 109574 - k ∧ O.length ≤ M.toNat ∧ Hid ((O ++ upto H (R k)).take M.toNat = F) ∧ wr.ownsRow w0.heap.size 3 1 ov O.length (O.map (Value.int .i64)) ∧ Below w0.heap.size w0 wr)
      case atStart => exact ⟨0, [n0], rfl, by omega, rfl, by simp; omega, S, by simpa using O1.out, hB1.out⟩
      case round =>
        obtain ⟨k, O, rfl, hk, hg, hOl, INV, hown, hb⟩ := hrel
        have G := Lib.hid hg; have OW := Lib.hid hown; have BL := Lib.hid hb
        have RX := Lib.hid (RR.out.below hb)
        have hOb : O.length ≤ 200000 := by omega
        have hbs := hb.size
        clear hg hown hb O1 hB1
        obtain ⟨ov', oc, rfl, oc1, oc2, _⟩ := intsR_open (intsR_of_owns OW.out)
        unfold maxLen at oc2
        by_cases hfull : (O.length : Int) < M
        · obtain ⟨⟨c0, c1, c2, c3, c4, c5, c6, c7⟩, _, hl0⟩ := id RX.out
          have z3 : decide ((O.length : Int) < M) = true := decide_eq_true hfull
          go_wp2_with fail
          refine (rbegin_any fr ev ct ti k y0 m0 d0 n0 am ad aw ap mo.length km da.length kd we.length kw pk.length kp _ D0.out N0.out FR.out EV.out).mono ?_
          rintro e w2 ⟨a, b, rfl, hab, hb2⟩
          have RY := Lib.hid (RX.out.below hb2); have OW2 := Lib.hid (own_kept OW.out hb2); have BL2 := Lib.hid (BL.out.trans (hb2.mono BL.out.size))
          have hbs2 := BL2.out.size
          clear c0 c1 c2 c3 c4 c5 c6 c7 hl0 hb2
          cases hp : perS fr ev y0 m0 d0 k with
          | none =>
            have E := Lib.hid (show O = F by rw [← INV.out, RE.out, restL_none (perD_none hp), show upto H [] = [] from rfl, List.append_nil, List.take_of_length_le hOl])
            rw [show (none : Option (Int × Int)).isSome = false from rfl]
            have LR := Lib.hid (intsR_of_owns OW2.out)
            clear hab hp
            go_wp2
            go_ret
            exact ⟨_, rfl, by rw [← E.out]; exact LR.out, B0.out.trans (BL2.out.mono B0.out.size)⟩
          | some p =>
            obtain ⟨a', b'⟩ := p
            obtain ⟨rfl, rfl⟩ : a = a' ∧ b = b' := by have := hab _ hp; exact ⟨(congrArg Prod.fst this).symm, (congrArg Prod.snd this).symm⟩
            rw [show (some (a, b) : Option (Int × Int)).isSome = true from rfl]
            have hkk := perS_k hp
            have HP := Lib.hid hp
            clear hab hp
            by_cases hover : H < a
            · have E := Lib.hid (show O = F by rw [← INV.out, RE.out, upto_rest D0.out HE.out HP.out hover, List.append_nil, List.take_of_length_le hOl])
              have z4 : decide (H < a) = true := decide_eq_true hover
              have LR := Lib.hid (intsR_of_owns OW2.out)
              go_wp2
              go_ret
              exact ⟨_, rfl, by rw [← E.out]; exact LR.out, B0.out.trans (BL2.out.mono B0.out.size)⟩
            · have z4 : decide (H < a) = false := decide_eq_false hover
              obtain ⟨⟨c0, c1, c2, c3, c4, c5, c6, c7⟩, _, hl0⟩ := id RY.out
              go_wp2_with fail
              refine (rperiod_fr fr ev ct ti k a b y0 m0 d0 n0 _ _ _ _ mo da we pk _ RY.out.2.1.1 RY.out.2.1.2.1 RY.out.2.1.2.2.1 RY.out.2.1.2.2.2 D0.out N0.out HF.out HP.out).mono ?_; rintro e w3 ⟨r, rfl, ⟨hr, hfr⟩, hb3⟩
              obtain ⟨l, hl⟩ : ∃ l, l = perL fr mo da we pk n0 a b := ⟨_, rfl⟩
              rw [← hl] at hr
              have hbd := perS_bd D0.out HE.out.1 HP.out
              have hll : l.length ≤ 401 := by rw [hl]; exact perL_len _ _ _ _ _ _ _ _ (by omega)
              have NXT := Lib.hid (show R k = (l.filter fun n => decide (n0 < n)) ++ R (k + 1) by rw [RE.out, restL_some (perD_some HP.out) hkk.2, ← hl])
              have LR := Lib.hid hr; have OW3 := Lib.hid (own_kept OW2.out hb3); have BL3 := Lib.hid (BL2.out.trans (hb3.mono BL2.out.size))
              have hbs3 := BL3.out.size
              clear c0 c1 c2 c3 c4 c5 c6 c7 hl0 hb3 hl hr hbd
              obtain ⟨la, lc, rfl, lc1, lc2, hlc⟩ := intsR_open LR.out
              unfold maxLen at lc2
              have LC := Lib.hid hlc; clear hlc
              have FV := Lib.hid (show ∀ b, la = some b → w2.heap.size ≤ b.block from fun b hb => hfr b.block (by rw [hb]; rfl))
              have OF := Lib.hid (show ∀ g, (Value.slice ov' O.length oc).ownBlock = some g → g < w2.heap.size from fun g hg => (OW2.out.lt g hg).2)
              clear hfr
              obtain ⟨wo, rfl⟩ : ∃ wo, wo = w3 := ⟨_, rfl⟩
              go_wp2_with fail
              go_loopg [9, 16] l.length (fun g ov iv wx => ∃ i : Nat, i ≤ l.length ∧ iv = .int .i64 i ∧ g = l.length - i ∧ wx.ownsRow w0.heap.size 3 1 ov ((O ++ inS H n0 l i).take M.toNat).length (((O ++ inS H n0 l i).take M.toNat).map (Value.int .i64)) ∧ Below w0.heap.size w0 wx ∧ IntsR wx (.slice la l.length lc) l ∧ wo.heap.size ≤ wx.heap.size ∧ ∀ g, ov.ownBlock = some g → g < w2.heap.size ∨ wo.heap.size ≤ g)
              case atStart => exact ⟨0, Nat.zero_le _, rfl, rfl, by rw [show inS H n0 l 0 = [] by simp [inS, upto], List.append_nil, List.take_of_length_le hOl]; exact OW3.out, BL3.out, LR.out, Nat.le_refl _, fun g hg => .inl (OF.out g hg)⟩
              case round =>
                obtain ⟨i, hi2, rfl, hg, hown, hb, hlr, hwo, hof⟩ := hrel
                have G2 := Lib.hid hg; have BL4 := Lib.hid hb; have LR4 := Lib.hid hlr; have OF4 := Lib.hid hof
                have hbs4 := hb.size
                by_cases hlt : i < l.length
                · obtain ⟨a2, cap2, e1, _, _, h4⟩ := intsR_open hlr
                  obtain ⟨lb, lo, e2, hcs⟩ := h4 (by omega)
                  cases e1; subst e2
                  have hlb := FV.out _ rfl
                  have LB := Lib.hid hlb
                  clear hlb
                  have u0 := hcs i hlt
                  obtain ⟨O2, hO2⟩ : ∃ O2, O2 = (O ++ inS H n0 l i).take M.toNat := ⟨_, rfl⟩
                  rw [← hO2] at hown
                  have hO2l : O2.length ≤ M.toNat := by rw [hO2]; exact List.length_take_le _ _
                  obtain ⟨x, hx⟩ : ∃ x, x = l[i] := ⟨_, rfl⟩
                  rw [← hx] at u0
                  have X := Lib.hid hx; have OE := Lib.hid hO2; have OW4 := Lib.hid hown
                  have hi0 : (0 : Int) ≤ (i : Int) := Int.natCast_nonneg _
                  have hi1 : (i : Int) < (l.length : Int) := by omega
                  obtain ⟨ov2, oc2', rfl, oc21, oc22, _⟩ := intsR_open (intsR_of_owns OW4.out)
                  unfold maxLen at oc22
                  clear hg hb hlr hcs h4 hO2 hx hown hof
                  by_cases hin : n0 < x ∧ x ≤ H
                  · obtain ⟨q1, q2⟩ := hin
                    have z5 : decide (n0 < x) = true := decide_eq_true q1
                    have z6 : decide (x ≤ H) = true := decide_eq_true q2
                    by_cases hf2 : (O2.length : Int) < M
                    · have z7 : decide ((O2.length : Int) < M) = true := decide_eq_true hf2
                      have E := Lib.hid (show (O ++ inS H n0 l (i + 1)).take M.toNat = O2 ++ [x] by
                        rw [OE.out, X.out]
                        exact inS_yes hlt (by rw [← X.out]; exact q1) (by rw [← X.out]; exact q2) (by rw [← OE.out]; omega))
                      have hown := OW4.out
                      go_wp2_with (at_builtin; refine wpList_append_lies _ rfl _ _ 22 rfl w0.heap.size 3 i0 _ 1 8 Tryz.underlying22 hi hz0 hz1 hz2 rfl (by decide) _ _ _ rfl (hown.alloc _) ⟨wr.heap.size, 0, none⟩ 1 1 [.int .i64 x] rfl rfl ?e1 ?e2 (by decide) (by unfold maxLen; omega) (by omega) (by simp; omega) _ rfl ?_)
                      try (case e1 => exact cell_one_new _ _ _)
                      case e2 => first | rfl | (intro u hu; simp at hu; subst hu; rfl)
                      intro g3 cap3 w5 hown3 hgrow3 hat3 hlt3
                      have hB3 := Lib.hid ((BL4.out.alloc hbs4 (.cells #[.int .i64 x] 3)).grown hgrow3 (by simp; omega) (fun c hc => (hown.lt c hc).1))
                      have LR5 := Lib.hid ((LR4.out.below ((Below.refl _ _).alloc (Nat.le_refl _) (.cells #[.int .i64 x] 3))).far hgrow3 (fun b hb2 hrow => by
                        have hlt2 : b.block < wo.heap.size := by
                          obtain ⟨a9, cap9, e9, _, _, h9⟩ := intsR_open LR.out
                          obtain ⟨b9, o9, e99, hc9⟩ := h9 (by omega)
                          cases e9; cases e99; cases hb2
                          exact World.block_lt_of_cell? wo _ (hc9 0 (by omega))
                        have h1 := FV.out b hb2
                        have h2 := OF4.out _ hrow
                        omega))
                      have OF5 := Lib.hid (show ∀ g, (Value.slice (some ⟨g3, 0, none⟩) (O2.length + 1) cap3).ownBlock = some g → g < w2.heap.size ∨ wo.heap.size ≤ g from fun g hg => by
                        obtain rfl : g3 = g := by simpa [Value.ownBlock] using hg
                        rcases hat3 with h | h
                        · exact OF4.out _ h
                        · refine .inr ?_; rw [h]; omega)
                      have hsz5 : wo.heap.size ≤ w5.heap.size := by have := hgrow3.size; simp at this; omega
                      have O3 := Lib.hid hown3
                      clear hown3 hgrow3 hat3 hlt3 hown
                      go_wp2
                      go_roundg (l.length - (i + 1))
                      case measure => rw [G2.out]; omega
                      case rel => exact ⟨i + 1, by omega, by go_num, rfl, by rw [E.out, List.length_append, List.map_append]; exact O3.out, hB3.out, LR5.out, hsz5, OF5.out⟩
                    · have z7 : decide ((O2.length : Int) < M) = false := decide_eq_false hf2
                      have E := Lib.hid (show (O ++ inS H n0 l (i + 1)).take M.toNat = O2 by
                        rw [OE.out]
                        exact inS_full hlt (by rw [← OE.out]; omega))
                      go_wp2
                      go_roundg (l.length - (i + 1))
                      case measure => rw [G2.out]; omega
                      case rel => exact ⟨i + 1, by omega, by go_num, rfl, by rw [E.out]; exact OW4.out, BL4.out, LR4.out, hwo, OF4.out⟩
                  · have E := Lib.hid (show (O ++ inS H n0 l (i + 1)).take M.toNat = O2 by
                      rw [OE.out]
                      exact inS_no hlt (by rw [← X.out]; exact hin))
                    by_cases q1 : n0 < x
                    · have z5 : decide (n0 < x) = true := decide_eq_true q1
                      have z6 : decide (x ≤ H) = false := decide_eq_false (fun h => hin ⟨q1, h⟩)
                      clear hin
                      go_wp2
                      go_roundg (l.length - (i + 1))
                      case measure => rw [G2.out]; omega
                      case rel => exact ⟨i + 1, by omega, by go_num, rfl, by rw [E.out]; exact OW4.out, BL4.out, LR4.out, hwo, OF4.out⟩
                    · have z5 : decide (n0 < x) = false := decide_eq_false q1
                      clear hin
                      go_wp2
                      go_roundg (l.length - (i + 1))
                      case measure => rw [G2.out]; omega
                      case rel => exact ⟨i + 1, by omega, by go_num, rfl, by rw [E.out]; exact OW4.out, BL4.out, LR4.out, hwo, OF4.out⟩
                · obtain rfl : i = l.length := by omega
                  have OW5 := Lib.hid hown
                  have INV2 := Lib.hid (show ((O ++ inS H n0 l l.length).take M.toNat ++ upto H (R ((k + 1 : Nat) : Int))).take M.toNat = F by
                    rw [show ((k + 1 : Nat) : Int) = (k : Int) + 1 by omega, take_app_take, inS_all, List.append_assoc, ← upto_append, ← NXT.out]; exact INV.out)
                  clear hg hb hlr hown hof
                  go_wp2
                  go_roundg (109574 - (k + 1))
                  case measure => rw [G.out]; omega
                  case rel => exact ⟨k + 1, _, by go_num, by omega, rfl, List.length_take_le _ _, INV2, OW5.out, BL4.out⟩
        · have E := Lib.hid (show O = F by
            rw [← INV.out, List.take_append_of_le_length (by omega), List.take_of_length_le hOl])
          have z3 : decide ((O.length : Int) < M) = false := decide_eq_false hfull
          have LR := Lib.hid (intsR_of_owns OW.out)
          go_wp2
          go_ret
          exact ⟨_, rfl, by rw [← E.out]; exact LR.out, B0.out.trans (BL.out.mono B0.out.size)⟩

end Go.Proofs.YtgelojhpanbnaaaGreatDoor
