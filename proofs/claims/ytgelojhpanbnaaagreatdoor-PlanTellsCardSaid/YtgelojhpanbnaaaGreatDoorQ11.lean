/- Texts joined into one (a claim has at most 60 files): The contract of period.Days; Plain facts on the days of a period: they rise, they lie in their stretch, and ahead of the next period; The days of a rule, plainly: the first one, then those of its periods behind it, till it is told to stop; The contracts of period.Of, and of seq.ready; seq.Each: its closures' contracts. -/
import Derived.Test.YtgelojhpanbnaaaGreatDoorQ30
import Derived.Test.YtgelojhpanbnaaaGreatDoorQ05
import Derived.RangeFuncNested
import Derived.RangeFuncCalls
import Derived.RangeFuncBound
import Derived.Shelf.RegionOpen
import Derived.OwnWalkIn
import Derived.TacticsInMore
import Derived.LoopNIn
import Derived.LoopIn
namespace Go.Proofs.YtgelojhpanbnaaaGreatDoor
open Go.RowKit
set_option linter.unusedSimpArgs false
set_option linter.unusedVariables false

theorem year_end (y : Int) : Cal.num y 12 31 = Cal.num y 1 1 + 364 + Cal.lp y := by
  unfold Cal.num; rw [Cal.cum_1]; simp [Cal.cum]; omega

theorem perS_bd {fr ev y m d k a b : Int} (hd : Cal.dateB y m d = true) (he : 1 ≤ ev) (h : perS fr ev y m d k = some (a, b)) : (1 ≤ a ∧ a ≤ 109573) ∧ (a ≤ b ∧ b ≤ a + 400) := by
  obtain ⟨_, _, b1, b2⟩ := Cal.num_bd hd
  obtain ⟨hm, _, _⟩ := Cal.date_yes hd
  obtain ⟨y1, y2, m1, m2⟩ := Cal.month_yes hm
  unfold perS at h
  split at h
  · cases h
  rename_i hk
  have hke : 0 ≤ k * ev := Int.mul_nonneg (by omega) (by omega)
  split at h
  · split at h
    · cases h; omega
    · cases h
  split at h
  · split at h
    · cases h
      have := Cal.monday_bd (Cal.num y m d)
      have := Cal.monday_pos (Cal.num y m d) b1
      omega
    · cases h
  split at h
  · split at h
    · cases h
      rename_i hn
      obtain ⟨q1, q2⟩ := mon_date _ (by omega) hn
      have hb := Cal.num_bd q2
      have hs := Cal.dim_bd (1900 + ((y - 1900) * 12 + m - 1 + k * ev) / 12) (((y - 1900) * 12 + m - 1 + k * ev) % 12 + 1)
      have e1 : monFrom ((y - 1900) * 12 + m - 1 + k * ev) = Cal.num (1900 + ((y - 1900) * 12 + m - 1 + k * ev) / 12) (((y - 1900) * 12 + m - 1 + k * ev) % 12 + 1) 1 := rfl
      have e2 : monSize ((y - 1900) * 12 + m - 1 + k * ev) = Cal.dim (1900 + ((y - 1900) * 12 + m - 1 + k * ev) / 12) (((y - 1900) * 12 + m - 1 + k * ev) % 12 + 1) := rfl
      rw [← e1] at hb
      rw [← e2] at hs
      omega
    · cases h
  split at h
  · rename_i hn
    cases h
    have q := Cal.num_bd (y := y + k * ev) (m := 1) (d := 1) (Cal.date_mk (Cal.month_mk (by omega) hn (by omega) (by omega)) (by omega) (by simp [Cal.dim]))
    have q2 := year_end (y + k * ev)
    have q3 := Cal.lp_01 (y + k * ev)
    omega
  · cases h

end Go.Proofs.YtgelojhpanbnaaaGreatDoor

namespace Go.Proofs.YtgelojhpanbnaaaGreatDoor
open Go.RowKit
set_option linter.unusedSimpArgs false
set_option linter.unusedVariables false

theorem daysG_mem (p : Int → Bool) (a : Int) : ∀ (c : Nat) (x : Int), x ∈ daysG p a c → a ≤ x ∧ x < a + c ∧ p x = true
  | 0, x, h => by simp [daysG] at h
  | c + 1, x, h => by
    rw [daysG, List.mem_append] at h
    rcases h with h | h
    · obtain ⟨h1, h2, h3⟩ := daysG_mem p a c x h
      exact ⟨h1, by omega, h3⟩
    · split at h
      · rename_i hp
        obtain rfl : x = a + c := by simpa using h
        exact ⟨by omega, by omega, hp⟩
      · simp at h

theorem daysG_up (p : Int → Bool) (a : Int) : ∀ c : Nat, (daysG p a c).Pairwise (· < ·)
  | 0 => by simp [daysG]
  | c + 1 => by
    rw [daysG, List.pairwise_append]
    refine ⟨daysG_up p a c, by split <;> simp, fun x hx y hy => ?_⟩
    obtain ⟨_, h2, _⟩ := daysG_mem p a c x hx
    split at hy
    · obtain rfl : y = a + c := by simpa using hy
      omega
    · simp at hy

theorem pickG_sub (wh : List Int) (n : Int) : ∀ (L : List Int) (i : Int), (pickG wh n i L).Sublist L
  | [], i => by simp [pickG]
  | x :: r, i => by
    rw [pickG]
    split
    · exact (pickG_sub wh n r (i + 1)).cons_cons x
    · exact (pickG_sub wh n r (i + 1)).cons x

theorem pickL_sub (L wh : List Int) : (pickL L wh).Sublist L := by
  unfold pickL
  split
  · exact List.Sublist.refl _
  · exact pickG_sub wh _ L 0

noncomputable def perL (fr : Int) (mo da : List Int) (we : List (Int × Int)) (pk : List Int) (n0 a b : Int) : List Int :=
  pickL (daysG (askB fr mo da we n0) a (min b 109573 + 1 - a).toNat) pk

theorem perL_bd {fr : Int} {mo da : List Int} {we : List (Int × Int)} {pk : List Int} {n0 a b : Int} (ha : 1 ≤ a) (x : Int) (h : x ∈ perL fr mo da we pk n0 a b) : a ≤ x ∧ x ≤ b ∧ 1 ≤ x ∧ x ≤ 109573 := by
  obtain ⟨h1, h2, _⟩ := daysG_mem _ _ _ _ ((pickL_sub _ _).subset h)
  omega

theorem perL_up (fr : Int) (mo da : List Int) (we : List (Int × Int)) (pk : List Int) (n0 a b : Int) : (perL fr mo da we pk n0 a b).Pairwise (· < ·) :=
  (daysG_up _ _ _).sublist (pickL_sub _ _)

theorem perL_len (fr : Int) (mo da : List Int) (we : List (Int × Int)) (pk : List Int) (n0 a b : Int) (hb : b ≤ a + 400) : (perL fr mo da we pk n0 a b).length ≤ 401 :=
  Nat.le_trans (pickL_sub _ _).length_le (Nat.le_trans (daysG_len _ _ _) (by omega))

theorem monFrom_succ (n : Int) (h0 : 0 ≤ n) (h1 : n < 3599) : monFrom (n + 1) = monFrom n + monSize n := by
  obtain ⟨hm, _⟩ := mon_date n h0 (by omega)
  have hdb := Cal.dim_bd (1900 + n / 12) (n % 12 + 1)
  have hd : Cal.dateB (1900 + n / 12) (n % 12 + 1) (Cal.dim (1900 + n / 12) (n % 12 + 1)) = true := Cal.date_mk hm (by omega) (Int.le_refl _)
  unfold monFrom monSize
  by_cases hc : n % 12 < 11
  · have := (Cal.next_month hd rfl (by omega)).2
    rw [show (n + 1) / 12 = n / 12 by omega, show (n + 1) % 12 + 1 = n % 12 + 1 + 1 by omega, this]
    unfold Cal.num; omega
  · have e : n % 12 + 1 = 12 := by omega
    rw [e] at hd ⊢
    have := (Cal.next_year hd rfl (by omega)).2
    rw [show 1900 + (n + 1) / 12 = 1900 + n / 12 + 1 by omega, show (n + 1) % 12 + 1 = 1 by omega, this]
    unfold Cal.num; omega

theorem monFrom_le (n : Int) (h0 : 0 ≤ n) : ∀ (j : Nat), n + j < 3600 → monFrom n ≤ monFrom (n + j)
  | 0, _ => by simp
  | j + 1, h => by
    have h1 := monFrom_le n h0 j (by omega)
    have h2 := monFrom_succ (n + j) (by omega) (by omega)
    have h3 := Cal.dim_bd (1900 + (n + j) / 12) ((n + j) % 12 + 1)
    have e : monSize (n + j) = Cal.dim (1900 + (n + j) / 12) ((n + j) % 12 + 1) := rfl
    rw [show n + ((j + 1 : Nat) : Int) = n + j + 1 by omega, h2]
    omega

theorem perS_next {fr ev y m d k a b a' b' : Int} (hd : Cal.dateB y m d = true) (he : 1 ≤ ev ∧ ev ≤ 50) (h : perS fr ev y m d k = some (a, b)) (h' : perS fr ev y m d (k + 1) = some (a', b')) : b < a' := by
  obtain ⟨_, _, b1, b2⟩ := Cal.num_bd hd
  obtain ⟨hm, _, _⟩ := Cal.date_yes hd
  obtain ⟨y1, y2, m1, m2⟩ := Cal.month_yes hm
  unfold perS at h h'
  split at h
  · cases h
  rename_i hk
  have hke : 0 ≤ k * ev := Int.mul_nonneg (by omega) (by omega)
  have e : (k + 1) * ev = k * ev + ev := by rw [Int.add_mul, Int.one_mul]
  rw [e] at h'
  split at h'
  · cases h'
  by_cases f1 : fr = 1
  · rw [if_pos f1] at h h'
    split at h
    · split at h'
      · cases h; cases h'; omega
      · cases h'
    · cases h
  rw [if_neg f1] at h h'
  by_cases f2 : fr = 2
  · rw [if_pos f2] at h h'
    split at h
    · split at h'
      · cases h; cases h'; omega
      · cases h'
    · cases h
  rw [if_neg f2] at h h'
  by_cases f3 : fr = 3
  · rw [if_pos f3] at h h'
    split at h
    · split at h'
      · rename_i c1 c2
        cases h; cases h'
        have s1 := monFrom_succ ((y - 1900) * 12 + m - 1 + k * ev) (by omega) (by omega)
        have s2 := monFrom_le ((y - 1900) * 12 + m - 1 + k * ev + 1) (by omega) (ev - 1).toNat (by omega)
        rw [show (y - 1900) * 12 + m - 1 + k * ev + 1 + ((ev - 1).toNat : Int) = (y - 1900) * 12 + m - 1 + (k * ev + ev) by omega] at s2
        omega
      · cases h'
    · cases h
  rw [if_neg f3] at h h'
  split at h
  · split at h'
    · cases h; cases h'
      have q2 := year_end (y + k * ev)
      have q1 := Cal.ahead_mono (y + k * ev + 1) (y + (k * ev + ev)) (by omega)
      have q3 := Cal.ahead_succ (y + k * ev)
      have n1 : Cal.num (y + k * ev) 1 1 = Cal.ahead (y + k * ev) + 1 := by unfold Cal.num; rw [Cal.cum_1]; omega
      have n2 : Cal.num (y + (k * ev + ev)) 1 1 = Cal.ahead (y + (k * ev + ev)) + 1 := by unfold Cal.num; rw [Cal.cum_1]; omega
      omega
    · cases h'
  · cases h

end Go.Proofs.YtgelojhpanbnaaaGreatDoor

namespace Go.Proofs.YtgelojhpanbnaaaGreatDoor
open Go.RowKit
set_option linter.unusedSimpArgs false
set_option linter.unusedVariables false

noncomputable def perD (fr ev y m d : Int) (mo da : List Int) (we : List (Int × Int)) (pk : List Int) (st k : Int) : Option (List Int) :=
  (perS fr ev y m d k).map fun p => perL fr mo da we pk st p.1 p.2

def restG (per : Int → Option (List Int)) (st : Int) : Nat → Int → List Int
  | 0, _ => []
  | c + 1, k => match per k with
    | none => []
    | some l => (l.filter fun n => decide (st < n)) ++ restG per st c (k + 1)

def restL (per : Int → Option (List Int)) (st k : Int) : List Int := restG per st (109574 - k).toNat k

theorem restL_none {per : Int → Option (List Int)} {st k : Int} (h : per k = none) : restL per st k = [] := by
  unfold restL
  cases (109574 - k).toNat with
  | zero => rfl
  | succ c => rw [restG, h]

theorem restL_some {per : Int → Option (List Int)} {st k : Int} {l : List Int} (h : per k = some l) (hk : k ≤ 109573) : restL per st k = (l.filter fun n => decide (st < n)) ++ restL per st (k + 1) := by
  unfold restL
  obtain ⟨c, hc⟩ : ∃ c, (109574 - k).toNat = c + 1 := ⟨(109574 - k).toNat - 1, by omega⟩
  rw [hc, restG, h, show (109574 - (k + 1)).toNat = c by omega]

def okT (ti n : Int) : Bool := ti == 0 || decide (n ≤ ti)

def okC (ct : Int) (j : Nat) : Bool := ct == 0 || decide ((j : Int) + 1 ≤ ct)

def eachG (ti ct : Int) : Nat → List Int → List Int
  | _, [] => []
  | j, x :: r => if (okT ti x && okC ct j) = true then x :: eachG ti ct (j + 1) r else []

theorem eachG_yes {ti ct x : Int} {j : Nat} {r : List Int} (h : (okT ti x && okC ct j) = true) : eachG ti ct j (x :: r) = x :: eachG ti ct (j + 1) r := by rw [eachG, if_pos h]
theorem eachG_no {ti ct x : Int} {j : Nat} {r : List Int} (h : (okT ti x && okC ct j) = false) : eachG ti ct j (x :: r) = [] := by rw [eachG, if_neg (by rw [h]; simp)]

theorem eachG_sub (ti ct : Int) : ∀ (j : Nat) (l : List Int), (eachG ti ct j l).Sublist l
  | _, [] => List.Sublist.refl _
  | j, x :: r => by
    rw [eachG]
    split
    · exact (eachG_sub ti ct (j + 1) r).cons_cons x
    · exact List.nil_sublist _

noncomputable def eachL (fr ev ct ti y m d : Int) (mo da : List Int) (we : List (Int × Int)) (pk : List Int) (st : Int) : List Int :=
  eachG ti ct 0 (st :: restL (perD fr ev y m d mo da we pk st) st 0)

theorem perD_none {fr ev y m d st k : Int} {mo da : List Int} {we : List (Int × Int)} {pk : List Int} (h : perS fr ev y m d k = none) : perD fr ev y m d mo da we pk st k = none := by rw [perD, h]; rfl
theorem perD_some {fr ev y m d st k a b : Int} {mo da : List Int} {we : List (Int × Int)} {pk : List Int} (h : perS fr ev y m d k = some (a, b)) : perD fr ev y m d mo da we pk st k = some (perL fr mo da we pk st a b) := by rw [perD, h]; rfl

theorem restG_up {fr ev y m d st : Int} {mo da : List Int} {we : List (Int × Int)} {pk : List Int} (hd : Cal.dateB y m d = true) (he : 1 ≤ ev ∧ ev ≤ 50) : ∀ (c : Nat) (k : Int),
    (restG (perD fr ev y m d mo da we pk st) st c k).Pairwise (· < ·) ∧ ∀ x ∈ restG (perD fr ev y m d mo da we pk st) st c k, st < x ∧ x ≤ 109573 ∧ ∃ a b, perS fr ev y m d k = some (a, b) ∧ a ≤ x
  | 0, k => ⟨by simp [restG], by simp [restG]⟩
  | c + 1, k => by
    cases h : perS fr ev y m d k with
    | none => rw [restG, perD_none h]; simp
    | some p =>
      obtain ⟨a, b⟩ := p
      rw [restG, perD_some h]
      obtain ⟨h1, h2⟩ := restG_up hd he c (k + 1) (fr := fr) (st := st) (mo := mo) (da := da) (we := we) (pk := pk)
      have ha := (perS_bd hd he.1 h).1.1
      constructor
      · rw [List.pairwise_append]
        refine ⟨(perL_up _ _ _ _ _ _ _ _).sublist List.filter_sublist, h1, fun x hx z hz => ?_⟩
        obtain ⟨_, _, a', b', h', hz'⟩ := h2 z hz
        have := perS_next hd he h h'
        have := (perL_bd ha x (List.mem_filter.1 hx).1).2.1
        omega
      · intro x hx
        rcases List.mem_append.1 hx with hx | hx
        · have h3 := List.mem_filter.1 hx
          have := perL_bd ha x h3.1
          exact ⟨of_decide_eq_true h3.2, by omega, a, b, rfl, by omega⟩
        · obtain ⟨q1, q2, a', b', h', hz'⟩ := h2 x hx
          have := perS_next hd he h h'
          have := perS_bd hd he.1 h
          exact ⟨q1, q2, a, b, rfl, by omega⟩

theorem all_up {fr ev y m d st : Int} {mo da : List Int} {we : List (Int × Int)} {pk : List Int} (hd : Cal.dateB y m d = true) (hst : Cal.num y m d = st) (he : 1 ≤ ev ∧ ev ≤ 50) :
    (st :: restL (perD fr ev y m d mo da we pk st) st 0).Pairwise (· < ·) ∧ ∀ x ∈ st :: restL (perD fr ev y m d mo da we pk st) st 0, 1 ≤ x ∧ x ≤ 109573 := by
  obtain ⟨h1, h2⟩ := restG_up hd he (109574 - 0 : Int).toNat 0 (fr := fr) (st := st) (mo := mo) (da := da) (we := we) (pk := pk)
  have hb := Cal.num_bd hd
  rw [hst] at hb
  refine ⟨List.pairwise_cons.2 ⟨fun x hx => (h2 x hx).1, h1⟩, fun x hx => ?_⟩
  rcases List.mem_cons.1 hx with rfl | hx
  · omega
  · have := h2 x hx; omega

theorem eachL_up {fr ev ct ti y m d st : Int} {mo da : List Int} {we : List (Int × Int)} {pk : List Int} (hd : Cal.dateB y m d = true) (hst : Cal.num y m d = st) (he : 1 ≤ ev ∧ ev ≤ 50) :
    (eachL fr ev ct ti y m d mo da we pk st).Pairwise (· < ·) ∧ ∀ x ∈ eachL fr ev ct ti y m d mo da we pk st, 1 ≤ x ∧ x ≤ 109573 := by
  obtain ⟨h1, h2⟩ := all_up hd hst he (fr := fr) (mo := mo) (da := da) (we := we) (pk := pk)
  exact ⟨h1.sublist (eachG_sub _ _ _ _), fun x hx => h2 x ((eachG_sub _ _ _ _).subset hx)⟩

theorem up_len : ∀ (l : List Int) (a b : Int), l.Pairwise (· < ·) → (∀ x ∈ l, a ≤ x ∧ x ≤ b) → (l.length : Int) ≤ max 0 (b + 1 - a)
  | [], a, b, _, _ => by simp; omega
  | x :: r, a, b, h, hb => by
    have h1 := List.pairwise_cons.1 h
    have h2 := hb x (by simp)
    have h3 := up_len r (x + 1) b h1.2 (fun z hz => ⟨by have := h1.1 z hz; omega, (hb z (by simp [hz])).2⟩)
    simp only [List.length_cons]
    omega

theorem eachL_len {fr ev ct ti y m d st : Int} {mo da : List Int} {we : List (Int × Int)} {pk : List Int} (hd : Cal.dateB y m d = true) (hst : Cal.num y m d = st) (he : 1 ≤ ev ∧ ev ≤ 50) :
    (eachL fr ev ct ti y m d mo da we pk st).length ≤ 109573 := by
  obtain ⟨h1, h2⟩ := eachL_up hd hst he (fr := fr) (ct := ct) (ti := ti) (mo := mo) (da := da) (we := we) (pk := pk)
  have := up_len _ 1 109573 h1 h2
  omega

end Go.Proofs.YtgelojhpanbnaaaGreatDoor

namespace Go.Proofs.YtgelojhpanbnaaaGreatDoor
open Go.RowKit
set_option linter.unusedSimpArgs false
set_option linter.unusedVariables false

set_option maxRecDepth 100000 in
set_option maxHeartbeats 8000000 in
theorem pof_no (fr ev ct ti k y m d n : Int) (vm vd vw vp : Value) (mo da : List Int) (we : List (Int × Int)) (pk : List Int) (w : World) (hw : Months w)
    (h1 : IntsR w vm mo) (h2 : IntsR w vd da) (h3 : PairsR w vw we) (h4 : IntsR w vp pk) (hd : Cal.dateB y m d = true) (hn : Cal.num y m d = n) (hF : ruleF fr ev ct ti mo da we pk = 0) (ho : perS fr ev y m d k = none) :
    Calls Tryz.prog 146 #[.agg #[.int .i64 fr, .int .i64 ev, .int .i64 ct, .int .i64 ti, vm, vd, vw, vp], .int .i64 n, .int .i64 k] w
      fun e w' => e = .returned (.tuple #[.slice none 0 0, .bool false]) ∧ Below w.heap.size w w' := by
  obtain ⟨am, km, rfl, _, _, _⟩ := intsR_open h1
  obtain ⟨ad, kd, rfl, _, _, _⟩ := intsR_open h2
  obtain ⟨aw, kw, rfl, _, _, _⟩ := pairsR_open h3
  obtain ⟨ap, kp, rfl, _, _, _⟩ := intsR_open h4
  have r0 := ruleF_0 hF
  have hR := rlAt_new w 25 fr ev ct ti _ _ _ _ mo da we pk h1 h2 h3 h4
  have hb0 : Below w.heap.size w (w.alloc (.cells #[.int .i64 fr, .int .i64 ev, .int .i64 ct, .int .i64 ti, .slice am mo.length km, .slice ad da.length kd, .slice aw we.length kw, .slice ap pk.length kp] 25)) := (Below.refl _ _).alloc (Nat.le_refl _) _
  have hw0 := hw.below hb0
  have F1 := Lib.hid r0.1; have F2 := Lib.hid r0.2.1; have PO := Lib.hid (show PerO fr ev n k none from .inr ⟨y, m, d, hd, hn, ho.symm⟩)
  obtain ⟨⟨c0, c1, c2, c3, c4, c5, c6, c7⟩, _, hl0⟩ := id hR
  clear r0 hF ho hd hn h1 h2 h3 h4 hw hR c0 c1 c2 c3 c4 c5 c6 c7 hl0
  go_enter Tryz.func146, Tryz.ntmps146
  go_wp2_with fail
  refine (of_any fr ev ct ti k am ad aw ap mo.length km da.length kd we.length kw pk.length kp n none _ hw0 F1.out F2.out PO.out).mono ?_
  rintro e w1 ⟨a, b, ⟨rfl, _⟩, hb1⟩
  simp only [Option.isSome_none]
  have hbb := hb0.trans (hb1.mono hb0.size)
  clear hb1 hb0 hw0
  go_wp2
  go_ret2
  exact ⟨rfl, hbb.alloc hbb.size _⟩

set_option maxRecDepth 100000 in
set_option maxHeartbeats 8000000 in
theorem pof_yes (fr ev ct ti k a b y m d n : Int) (vm vd vw vp : Value) (mo da : List Int) (we : List (Int × Int)) (pk : List Int) (w : World) (hw : Months w)
    (h1 : IntsR w vm mo) (h2 : IntsR w vd da) (h3 : PairsR w vw we) (h4 : IntsR w vp pk) (hd : Cal.dateB y m d = true) (hn : Cal.num y m d = n) (hF : ruleF fr ev ct ti mo da we pk = 0) (ho : perS fr ev y m d k = some (a, b)) :
    Calls Tryz.prog 146 #[.agg #[.int .i64 fr, .int .i64 ev, .int .i64 ct, .int .i64 ti, vm, vd, vw, vp], .int .i64 n, .int .i64 k] w
      fun e w' => ∃ r, e = .returned (.tuple #[r, .bool true]) ∧ (IntsR w' r (perL fr mo da we pk n a b) ∧ FreshV w.heap.size r) ∧ Below w.heap.size w w' := by
  obtain ⟨am, km, rfl, _, _, _⟩ := intsR_open h1
  obtain ⟨ad, kd, rfl, _, _, _⟩ := intsR_open h2
  obtain ⟨aw, kw, rfl, _, _, _⟩ := pairsR_open h3
  obtain ⟨ap, kp, rfl, _, _, _⟩ := intsR_open h4
  have r0 := ruleF_0 hF
  have hbd := perS_bd hd r0.2.1.1 ho
  have hfull := r0.2.2.2.1
  have hln : mo.length ≤ 12 ∧ da.length ≤ 31 ∧ we.length ≤ 20 := by simp [fullB] at hfull; omega
  have hR := rlAt_new w 25 fr ev ct ti _ _ _ _ mo da we pk h1 h2 h3 h4
  have hb0 : Below w.heap.size w (w.alloc (.cells #[.int .i64 fr, .int .i64 ev, .int .i64 ct, .int .i64 ti, .slice am mo.length km, .slice ad da.length kd, .slice aw we.length kw, .slice ap pk.length kp] 25)) := (Below.refl _ _).alloc (Nat.le_refl _) _
  have hw0 := hw.below hb0
  have F1 := Lib.hid r0.1; have F2 := Lib.hid r0.2.1; have PO := Lib.hid (show PerO fr ev n k (some (a, b)) from .inr ⟨y, m, d, hd, hn, ho.symm⟩)
  have D := Lib.hid hd; have N := Lib.hid hn; have BD := Lib.hid hbd; have LN := Lib.hid hln
  have RR := Lib.hid hR; have W := Lib.hid hw0; have B := Lib.hid hb0
  clear r0 hF ho hd hn h1 h2 h3 h4 hw hR hbd hfull hln hw0 hb0
  go_enter Tryz.func146, Tryz.ntmps146
  go_wp2_with fail
  refine (of_any fr ev ct ti k am ad aw ap mo.length km da.length kd we.length kw pk.length kp n (some (a, b)) _ W.out F1.out F2.out PO.out).mono ?_
  rintro e w1 ⟨a', b', ⟨rfl, hab⟩, hb1⟩
  obtain ⟨rfl, rfl⟩ : a = a' ∧ b = b' := by have := hab _ rfl; exact ⟨congrArg Prod.fst this, congrArg Prod.snd this⟩
  simp only [Option.isSome_some]
  clear hab
  have hS : Below w1.heap.size w1 (w1.alloc (.cells #[.int .i64 a, .int .i64 b] 244)) := (Below.refl _ _).alloc (Nat.le_refl _) _
  have RR := Lib.hid ((RR.out.below hb1).below hS); have W := Lib.hid ((W.out.below hb1).below hS)
  have B := Lib.hid (B.out.trans (hb1.mono B.out.size))
  have B := Lib.hid (B.out.alloc B.out.size (.cells #[.int .i64 a, .int .i64 b] 244))
  clear hb1 hS
  obtain ⟨⟨c0, c1, c2, c3, c4, c5, c6, c7⟩, _, hl0⟩ := id RR.out
  go_wp2_with fail
  rw [← N.out]
  refine (days_own fr ev ct ti a b _ _ _ _ mo da we pk y m d _ W.out RR.out.2.1.1 RR.out.2.1.2.1 RR.out.2.1.2.2.1 RR.out.2.1.2.2.2 D.out LN.out BD.out.1 BD.out.2).mono ?_; rintro e w2 ⟨r, rfl, ⟨hr, hf⟩, hb2⟩
  have B2 := Lib.hid (B.out.trans (hb2.mono B.out.size)); have HR := Lib.hid hr
  have FV := Lib.hid (show FreshV w.heap.size r from fun g hg => Nat.le_trans B.out.size (hf g hg))
  clear hb2 hr hf c0 c1 c2 c3 c4 c5 c6 c7 hl0
  go_wp2
  go_ret2
  exact ⟨r, rfl, ⟨by rw [perL, ← N.out]; exact HR.out, FV.out⟩, B2.out⟩

end Go.Proofs.YtgelojhpanbnaaaGreatDoor

namespace Go.Proofs.YtgelojhpanbnaaaGreatDoor
open Go.RowKit Go.Shelf
set_option linter.unusedSimpArgs false
set_option linter.unusedVariables false
attribute [local go_sem] Oper.semAt_some

theorem yield_any {m : Nat} (m' : Nat) {P : Program} {l : Nat} {args : Array Value} {W : World} {R : Ending → World → Prop} (h : YieldAt Fence.wide m P l args W R) : YieldAt Fence.wide m' P l args W R := by
  obtain ⟨fn, tmps, assign, body, hy, h1, h2⟩ := h
  exact ⟨fn, tmps, assign, body, hy, h1, fun c cs _ => h2 c cs (fun d hd => by cases hd)⟩

theorem cell_block {w w' : World} {k i : Nat} (h : w'.heap[k]? = w.heap[k]?) : w'.cell? ⟨k, i, none⟩ = w.cell? ⟨k, i, none⟩ := by simp only [World.cell?, h]
theorem frozen_block {w w' : World} {k i : Nat} (h : w'.heap[k]? = w.heap[k]?) : w'.frozen? ⟨k, i, none⟩ = w.frozen? ⟨k, i, none⟩ := by simp only [World.frozen?, h]

def TellAt (W : World) (r rb yb l j : Nat) (ti ct : Int) : Prop :=
  (W.cell? ⟨r, 0, none⟩ = some (.int .i64 j) ∧ W.frozen? ⟨r, 0, none⟩ = false) ∧ (W.cell? ⟨rb, 3, none⟩ = some (.int .i64 ti) ∧ W.cell? ⟨rb, 2, none⟩ = some (.int .i64 ct)) ∧ W.cell? ⟨yb, 0, none⟩ = some (.func (.yield l) #[] #[]) ∧ (rb ≠ r ∧ yb ≠ r) ∧ j ≤ 200000

theorem ok_cases {ti ct x : Int} {j : Nat} (h : (okT ti x && okC ct j) = true) : ((ti == 0) = true ∨ ((ti == 0) = false ∧ decide (x ≤ ti) = true)) ∧ ((ct == 0) = true ∨ ((ct == 0) = false ∧ decide ((j : Int) + 1 ≤ ct) = true)) := by
  unfold okT okC at h
  revert h
  cases (ti == 0) <;> cases decide (x ≤ ti) <;> cases (ct == 0) <;> cases decide ((j : Int) + 1 ≤ ct) <;> simp

theorem ok_no {ti ct x : Int} {j : Nat} (h : (okT ti x && okC ct j) = false) : ((ti == 0) = false ∧ decide (x ≤ ti) = false) ∨ (((ti == 0) = true ∨ ((ti == 0) = false ∧ decide (x ≤ ti) = true)) ∧ (ct == 0) = false ∧ decide ((j : Int) + 1 ≤ ct) = false) := by
  unfold okT okC at h
  revert h
  cases (ti == 0) <;> cases decide (x ≤ ti) <;> cases (ct == 0) <;> cases decide ((j : Int) + 1 ≤ ct) <;> simp

set_option maxRecDepth 100000 in
set_option maxHeartbeats 4000000 in
theorem tell_no (n : Nat) (x ti ct : Int) (r rb yb l j : Nat) (W : World) (hT : TellAt W r rb yb l j ti ct) (hk : (okT ti x && okC ct j) = false) :
    CallsIn Fence.wide n Tryz.prog 145 #[.int .i64 x, .pointer (some ⟨r, 0, none⟩), .pointer (some ⟨rb, 0, none⟩), .pointer (some ⟨yb, 0, none⟩)] W fun e W' => e = .returned (.bool false) ∧ W.setCell ⟨r, 0, none⟩ (.int .i64 ((j : Int) + 1)) = W' := by
  obtain ⟨⟨c0, cf⟩, ⟨c3, c2⟩, cy, ⟨n1, n2⟩, hj⟩ := hT
  rcases ok_no hk with ⟨b1, b2⟩ | ⟨b1 | ⟨b1, b2⟩, b3, b4⟩
  · clear hk
    refine callsIn_of_wp Tryz.func145 rfl trivial ?_ rfl
    simp only [Tryz.ntmps145, List.size_toArray, List.length_cons, List.length_nil, Nat.reduceAdd, Nat.reduceSub, Array.replicate_succ, Array.replicate_zero, List.push_toArray, List.append_toArray, List.nil_append, List.cons_append]
    gi_wp2
    refine ⟨fun _ h => (by cases h), ?_⟩
    gi_wp2
    go_ret
    exact ⟨rfl, rfl⟩
  · clear hk
    refine callsIn_of_wp Tryz.func145 rfl trivial ?_ rfl
    simp only [Tryz.ntmps145, List.size_toArray, List.length_cons, List.length_nil, Nat.reduceAdd, Nat.reduceSub, Array.replicate_succ, Array.replicate_zero, List.push_toArray, List.append_toArray, List.nil_append, List.cons_append]
    gi_wp2
    refine ⟨fun _ h => (by cases h), ?_⟩
    gi_wp2
    go_ret
    exact ⟨rfl, rfl⟩
  · clear hk
    refine callsIn_of_wp Tryz.func145 rfl trivial ?_ rfl
    simp only [Tryz.ntmps145, List.size_toArray, List.length_cons, List.length_nil, Nat.reduceAdd, Nat.reduceSub, Array.replicate_succ, Array.replicate_zero, List.push_toArray, List.append_toArray, List.nil_append, List.cons_append]
    gi_wp2
    refine ⟨fun _ h => (by cases h), ?_⟩
    gi_wp2
    go_ret
    exact ⟨rfl, rfl⟩

set_option maxRecDepth 100000 in
set_option maxHeartbeats 4000000 in
theorem tell_yes (n : Nat) (x ti ct : Int) (r rb yb l j : Nat) (W : World) (hT : TellAt W r rb yb l j ti ct) (hk : (okT ti x && okC ct j) = true) (R : Bool → World → Prop)
    (hY : YieldAt Fence.wide (n - 1) Tryz.prog l #[.int .i64 x] (W.setCell ⟨r, 0, none⟩ (.int .i64 ((j : Int) + 1))) fun e W' => ∃ b, e = .returned (.bool b) ∧ R b W') :
    CallsIn Fence.wide n Tryz.prog 145 #[.int .i64 x, .pointer (some ⟨r, 0, none⟩), .pointer (some ⟨rb, 0, none⟩), .pointer (some ⟨yb, 0, none⟩)] W fun e W' => ∃ b, e = .returned (.bool b) ∧ R b W' := by
  obtain ⟨⟨c0, cf⟩, ⟨c3, c2⟩, cy, ⟨n1, n2⟩, hj⟩ := hT
  obtain ⟨fn, tmps, assign, body, hy, hR⟩ := hY
  obtain ⟨h1, h2⟩ := ok_cases hk
  clear hk
  rcases h1 with b1 | ⟨b1, b2⟩ <;> rcases h2 with b3 | ⟨b3, b4⟩
  · refine callsIn_of_wp Tryz.func145 rfl trivial ?_ rfl
    simp only [Tryz.ntmps145, List.size_toArray, List.length_cons, List.length_nil, Nat.reduceAdd, Nat.reduceSub, Array.replicate_succ, Array.replicate_zero, List.push_toArray, List.append_toArray, List.nil_append, List.cons_append]
    gi_wp2
    refine ⟨fun h => (by cases h), hR.mono ?_⟩
    rintro e W2 ⟨b, rfl, h2⟩
    gi_wp2
    go_ret
    exact ⟨b, rfl, h2⟩
  · refine callsIn_of_wp Tryz.func145 rfl trivial ?_ rfl
    simp only [Tryz.ntmps145, List.size_toArray, List.length_cons, List.length_nil, Nat.reduceAdd, Nat.reduceSub, Array.replicate_succ, Array.replicate_zero, List.push_toArray, List.append_toArray, List.nil_append, List.cons_append]
    gi_wp2
    refine ⟨fun h => (by cases h), hR.mono ?_⟩
    rintro e W2 ⟨b, rfl, h2⟩
    gi_wp2
    go_ret
    exact ⟨b, rfl, h2⟩
  · refine callsIn_of_wp Tryz.func145 rfl trivial ?_ rfl
    simp only [Tryz.ntmps145, List.size_toArray, List.length_cons, List.length_nil, Nat.reduceAdd, Nat.reduceSub, Array.replicate_succ, Array.replicate_zero, List.push_toArray, List.append_toArray, List.nil_append, List.cons_append]
    gi_wp2
    refine ⟨fun h => (by cases h), hR.mono ?_⟩
    rintro e W2 ⟨b, rfl, h2⟩
    gi_wp2
    go_ret
    exact ⟨b, rfl, h2⟩
  · refine callsIn_of_wp Tryz.func145 rfl trivial ?_ rfl
    simp only [Tryz.ntmps145, List.size_toArray, List.length_cons, List.length_nil, Nat.reduceAdd, Nat.reduceSub, Array.replicate_succ, Array.replicate_zero, List.push_toArray, List.append_toArray, List.nil_append, List.cons_append]
    gi_wp2
    refine ⟨fun h => (by cases h), hR.mono ?_⟩
    rintro e W2 ⟨b, rfl, h2⟩
    gi_wp2
    go_ret
    exact ⟨b, rfl, h2⟩

end Go.Proofs.YtgelojhpanbnaaaGreatDoor
