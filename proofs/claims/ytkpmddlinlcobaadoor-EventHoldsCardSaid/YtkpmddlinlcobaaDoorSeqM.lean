/- The days of a rule, plainly: the first one, then those of its periods behind it, till it is told to stop. No program in sight. -/
import Derived.Test.YtkpmddlinlcobaaDoorPerH
namespace Go.Proofs.YtkpmddlinlcobaaDoor
open Go.RowKit
set_option linter.unusedSimpArgs false
set_option linter.unusedVariables false

/-- the days of a period; none: there is no such. -/
noncomputable def perD (fr ev y m d : Int) (mo da : List Int) (we : List (Int × Int)) (pk : List Int) (st k : Int) : Option (List Int) :=
  (perS fr ev y m d k).map fun p => perL fr mo da we pk st p.1 p.2

/-- those behind a day, of so many periods from the k-th one on. -/
def restG (per : Int → Option (List Int)) (st : Int) : Nat → Int → List Int
  | 0, _ => []
  | c + 1, k => match per k with
    | none => []
    | some l => (l.filter fun n => decide (st < n)) ++ restG per st c (k + 1)

/-- those behind a day, of all periods from the k-th one on. -/
def restL (per : Int → Option (List Int)) (st k : Int) : List Int := restG per st (109574 - k).toNat k

theorem restL_none {per : Int → Option (List Int)} {st k : Int} (h : per k = none) : restL per st k = [] := by
  unfold restL
  cases (109574 - k).toNat with
  | zero => rfl
  | succ c => rw [restG, h]

theorem restL_some {per : Int → Option (List Int)} {st k : Int} {l : List Int} (h : per k = some l) (hk : k ≤ 109573) : restL per st k = (l.filter fun n => decide (st < n)) ++ restL per st (k + 1) := by
  unfold restL
  obtain ⟨c, hc⟩ : ∃ c, (109574 - k).toNat = c + 1 := ⟨(109574 - k).toNat - 1, by omega⟩
  rw [hc, restG, h, show (109574 - (k + 1)).toNat = c by omega]

/-- is a day not behind a rule's end? -/
def okT (ti n : Int) : Bool := ti == 0 || decide (n ≤ ti)

/-- .. when so many have come: may one more? -/
def okC (ct : Int) (j : Nat) : Bool := ct == 0 || decide ((j : Int) + 1 ≤ ct)

/-- what is told of days, when so many have come. -/
def eachG (ti ct : Int) : Nat → List Int → List Int
  | _, [] => []
  | j, x :: r => if (okT ti x && okC ct j) = true then x :: eachG ti ct (j + 1) r else []

theorem eachG_yes {ti ct x : Int} {j : Nat} {r : List Int} (h : (okT ti x && okC ct j) = true) : eachG ti ct j (x :: r) = x :: eachG ti ct (j + 1) r := by rw [eachG, if_pos h]
theorem eachG_no {ti ct x : Int} {j : Nat} {r : List Int} (h : (okT ti x && okC ct j) = false) : eachG ti ct j (x :: r) = [] := by rw [eachG, if_neg (by rw [h]; simp)]

theorem eachG_sub (ti ct : Int) : ∀ (j : Nat) (l : List Int), (eachG ti ct j l).Sublist l
  | _, [] => List.Sublist.refl _
  | j, x :: r => by
    rw [eachG]
    split
    · exact (eachG_sub ti ct (j + 1) r).cons_cons x
    · exact List.nil_sublist _

/-- the days of a rule. -/
noncomputable def eachL (fr ev ct ti y m d : Int) (mo da : List Int) (we : List (Int × Int)) (pk : List Int) (st : Int) : List Int :=
  eachG ti ct 0 (st :: restL (perD fr ev y m d mo da we pk st) st 0)

theorem perD_none {fr ev y m d st k : Int} {mo da : List Int} {we : List (Int × Int)} {pk : List Int} (h : perS fr ev y m d k = none) : perD fr ev y m d mo da we pk st k = none := by rw [perD, h]; rfl
theorem perD_some {fr ev y m d st k a b : Int} {mo da : List Int} {we : List (Int × Int)} {pk : List Int} (h : perS fr ev y m d k = some (a, b)) : perD fr ev y m d mo da we pk st k = some (perL fr mo da we pk st a b) := by rw [perD, h]; rfl

/-- the days of periods rise, from one period to the next. -/
theorem restG_up {fr ev y m d st : Int} {mo da : List Int} {we : List (Int × Int)} {pk : List Int} (hd : Cal.dateB y m d = true) (he : 1 ≤ ev ∧ ev ≤ 50) : ∀ (c : Nat) (k : Int),
    (restG (perD fr ev y m d mo da we pk st) st c k).Pairwise (· < ·) ∧ ∀ x ∈ restG (perD fr ev y m d mo da we pk st) st c k, st < x ∧ x ≤ 109573 ∧ ∃ a b, perS fr ev y m d k = some (a, b) ∧ a ≤ x
  | 0, k => ⟨by simp [restG], by simp [restG]⟩
  | c + 1, k => by
    cases h : perS fr ev y m d k with
    | none => rw [restG, perD_none h]; simp
    | some p =>
      obtain ⟨a, b⟩ := p
      rw [restG, perD_some h]
      obtain ⟨h1, h2⟩ := restG_up hd he c (k + 1) (fr := fr) (st := st) (mo := mo) (da := da) (we := we) (pk := pk)
      have ha := (perS_bd hd he.1 h).1.1
      constructor
      · rw [List.pairwise_append]
        refine ⟨(perL_up _ _ _ _ _ _ _ _).sublist List.filter_sublist, h1, fun x hx z hz => ?_⟩
        obtain ⟨_, _, a', b', h', hz'⟩ := h2 z hz
        have := perS_next hd he h h'
        have := (perL_bd ha x (List.mem_filter.1 hx).1).2.1
        omega
      · intro x hx
        rcases List.mem_append.1 hx with hx | hx
        · have h3 := List.mem_filter.1 hx
          have := perL_bd ha x h3.1
          exact ⟨of_decide_eq_true h3.2, by omega, a, b, rfl, by omega⟩
        · obtain ⟨q1, q2, a', b', h', hz'⟩ := h2 x hx
          have := perS_next hd he h h'
          have := perS_bd hd he.1 h
          exact ⟨q1, q2, a, b, rfl, by omega⟩

theorem all_up {fr ev y m d st : Int} {mo da : List Int} {we : List (Int × Int)} {pk : List Int} (hd : Cal.dateB y m d = true) (hst : Cal.num y m d = st) (he : 1 ≤ ev ∧ ev ≤ 50) :
    (st :: restL (perD fr ev y m d mo da we pk st) st 0).Pairwise (· < ·) ∧ ∀ x ∈ st :: restL (perD fr ev y m d mo da we pk st) st 0, 1 ≤ x ∧ x ≤ 109573 := by
  obtain ⟨h1, h2⟩ := restG_up hd he (109574 - 0 : Int).toNat 0 (fr := fr) (st := st) (mo := mo) (da := da) (we := we) (pk := pk)
  have hb := Cal.num_bd hd
  rw [hst] at hb
  refine ⟨List.pairwise_cons.2 ⟨fun x hx => (h2 x hx).1, h1⟩, fun x hx => ?_⟩
  rcases List.mem_cons.1 hx with rfl | hx
  · omega
  · have := h2 x hx; omega

theorem eachL_up {fr ev ct ti y m d st : Int} {mo da : List Int} {we : List (Int × Int)} {pk : List Int} (hd : Cal.dateB y m d = true) (hst : Cal.num y m d = st) (he : 1 ≤ ev ∧ ev ≤ 50) :
    (eachL fr ev ct ti y m d mo da we pk st).Pairwise (· < ·) ∧ ∀ x ∈ eachL fr ev ct ti y m d mo da we pk st, 1 ≤ x ∧ x ≤ 109573 := by
  obtain ⟨h1, h2⟩ := all_up hd hst he (fr := fr) (mo := mo) (da := da) (we := we) (pk := pk)
  exact ⟨h1.sublist (eachG_sub _ _ _ _), fun x hx => h2 x ((eachG_sub _ _ _ _).subset hx)⟩

theorem up_len : ∀ (l : List Int) (a b : Int), l.Pairwise (· < ·) → (∀ x ∈ l, a ≤ x ∧ x ≤ b) → (l.length : Int) ≤ max 0 (b + 1 - a)
  | [], a, b, _, _ => by simp; omega
  | x :: r, a, b, h, hb => by
    have h1 := List.pairwise_cons.1 h
    have h2 := hb x (by simp)
    have h3 := up_len r (x + 1) b h1.2 (fun z hz => ⟨by have := h1.1 z hz; omega, (hb z (by simp [hz])).2⟩)
    simp only [List.length_cons]
    omega

theorem eachL_len {fr ev ct ti y m d st : Int} {mo da : List Int} {we : List (Int × Int)} {pk : List Int} (hd : Cal.dateB y m d = true) (hst : Cal.num y m d = st) (he : 1 ≤ ev ∧ ev ≤ 50) :
    (eachL fr ev ct ti y m d mo da we pk st).length ≤ 109573 := by
  obtain ⟨h1, h2⟩ := eachL_up hd hst he (fr := fr) (ct := ct) (ti := ti) (mo := mo) (da := da) (we := we) (pk := pk)
  have := up_len _ 1 109573 h1 h2
  omega

end Go.Proofs.YtkpmddlinlcobaaDoor
