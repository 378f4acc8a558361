/- Texts joined into one (a claim has at most 60 files): Slices as values: what a slice reads as; plain lemmas on worlds, no program in sight; Plain calendar arithmetic (no program in sight): years, months, days by number; Contracts of day.ahead, day.Last, clock.Valid, clock.Add, clock.Split: they only compute; Contracts of day.Leap, day.Year, day.Day, day.Days: they read the table of months alone; Contracts of day.Of: the day of a date, and its error; Contracts of day.Date: the date of a day, and its error. -/
import Derived.WalkKit
import Derived.Below
import Derived.Lib.Hide
import Derived.Deep.AppendLies
import Derived.OwnWalk
import Derived.Lib.Strings
import Derived.Lib.SmallJoins
import Derived.Test.YtgelojhpanbnaaaGreatDoorProg
import Derived.WalkSpells
import Derived.WalkLawsBesides
import Derived.Deep.QuietTactic
import Derived.BigQuiet
import Derived.Deep.LoopGhost
namespace Go.Proofs.YtgelojhpanbnaaaGreatDoor
open Go.RowKit

theorem cell_below {w w' : World} {p : Addr} {u : Value} (hb : Below w.heap.size w w') (h : w.cell? p = some u) : w'.cell? p = some u := (hb.cell (World.block_lt_of_cell? w p h)).trans h

def Reads (w : World) (v : Value) (size n : Nat) (xs : List Value) : Prop :=
  ∃ a cap, v = .slice a n cap ∧ xs.length = n * size ∧ n ≤ cap ∧ cap ≤ maxLen ∧ (0 < n → ∃ b off, a = some ⟨b, off, none⟩ ∧ ∀ j u, xs[j]? = some u → w.cell? ⟨b, off + j, none⟩ = some u)

theorem Reads.below {w w' : World} {v : Value} {size n : Nat} {xs : List Value} (h : Reads w v size n xs) (hb : Below w.heap.size w w') : Reads w' v size n xs := by
  obtain ⟨a, cap, h1, h2, h3, h4, h5⟩ := h
  refine ⟨a, cap, h1, h2, h3, h4, fun hn => ?_⟩
  obtain ⟨b, off, h6, h7⟩ := h5 hn
  exact ⟨b, off, h6, fun j u hj => cell_below hb (h7 j u hj)⟩

theorem reads_nil (w : World) (size : Nat) : Reads w (.slice none 0 0) size 0 [] := ⟨none, 0, rfl, by simp, Nat.le_refl _, Nat.zero_le _, fun h => absurd h (by omega)⟩

theorem ownsRow_reads {w : World} {base : Nat} {e : TypeId} {size : Nat} {v : Value} {n : Nat} {xs : List Value} (h : w.ownsRow base e size v n xs) : Reads w v size n xs := by
  obtain ⟨hl, h2⟩ := h
  rcases h2 with ⟨rfl, rfl⟩ | ⟨g, cap, cur, rfl, hb, hg, hn, hc, hs, ht⟩
  · have : xs = [] := List.length_eq_zero_iff.1 (by simpa using hl)
    subst this
    exact reads_nil w size
  · refine ⟨_, cap, rfl, hl, hn, hc, fun _ => ⟨g, 0, rfl, fun j u hj => ?_⟩⟩
    have h3 : (cur.toList.take (n * size))[j]? = some u := by rw [ht]; exact hj
    rw [List.getElem?_take] at h3
    split at h3
    · simp [World.cell?, hg]
      simpa using h3
    · cases h3

theorem owns_one (w : World) (e : TypeId) (x : Value) : (w.alloc (.cells #[x] e)).ownsRow w.heap.size e 1 (.slice (some ⟨w.heap.size, 0, none⟩) 1 1) 1 [x] :=
  ⟨by simp, .inr ⟨w.heap.size, 1, #[x], rfl, Nat.le_refl _, heap_alloc_new w _, Nat.le_refl _, by decide, by simp, by simp⟩⟩

theorem ownBlock_ge {w : World} {base : Nat} {e : TypeId} {size : Nat} {v : Value} {n : Nat} {xs : List Value} (h : w.ownsRow base e size v n xs) : ∀ k, v.ownBlock = some k → base ≤ k := fun k hk => (h.lt k hk).1

def IntsR (w : World) (v : Value) (L : List Int) : Prop := Reads w v 1 L.length (L.map (Value.int .i64))

theorem IntsR.below {w w' : World} {v : Value} {L : List Int} (h : IntsR w v L) (hb : Below w.heap.size w w') : IntsR w' v L := Reads.below h hb

theorem intsR_open {w : World} {v : Value} {L : List Int} (h : IntsR w v L) : ∃ a cap, v = .slice a L.length cap ∧ L.length ≤ cap ∧ cap ≤ maxLen ∧
    (0 < L.length → ∃ b off, a = some ⟨b, off, none⟩ ∧ ∀ j (hj : j < L.length), w.cell? ⟨b, off + j, none⟩ = some (.int .i64 L[j])) := by
  obtain ⟨a, cap, h1, _, h3, h4, h5⟩ := h
  refine ⟨a, cap, h1, h3, h4, fun hn => ?_⟩
  obtain ⟨b, off, h6, h7⟩ := h5 hn
  exact ⟨b, off, h6, fun j hj => h7 j _ (by simp [hj])⟩

theorem intsR_nil (w : World) : IntsR w (.slice none 0 0) [] := reads_nil w 1

theorem intsR_of_owns {w : World} {base : Nat} {e : TypeId} {v : Value} {L : List Int} (h : w.ownsRow base e 1 v L.length (L.map (Value.int .i64))) : IntsR w v L := ownsRow_reads h

def pairsV (L : List (Int × Int)) : List Value := L.flatMap fun p => [.int .i64 p.1, .int .i64 p.2]

def PairsR (w : World) (v : Value) (L : List (Int × Int)) : Prop := Reads w v 2 L.length (pairsV L)

theorem PairsR.below {w w' : World} {v : Value} {L : List (Int × Int)} (h : PairsR w v L) (hb : Below w.heap.size w w') : PairsR w' v L := Reads.below h hb

theorem pairsV_len (L : List (Int × Int)) : (pairsV L).length = L.length * 2 := by
  induction L with
  | nil => rfl
  | cons p r ih => simp only [pairsV, List.flatMap_cons, List.length_append, List.length_cons, List.length_nil] at *; omega

theorem pairsV_at (L : List (Int × Int)) : ∀ (i : Nat) (h : i < L.length), (pairsV L)[i * 2]? = some (.int .i64 L[i].1) ∧ (pairsV L)[i * 2 + 1]? = some (.int .i64 L[i].2) := by
  induction L with
  | nil => intro i h; simp at h
  | cons p r ih =>
    intro i h
    cases i with
    | zero => simp [pairsV]
    | succ i =>
      have := ih i (by simpa using h)
      simp only [pairsV, List.flatMap_cons, List.cons_append, List.nil_append, List.getElem_cons_succ] at *
      rw [show (i + 1) * 2 = i * 2 + 1 + 1 by omega]
      simpa using this

theorem pairsR_open {w : World} {v : Value} {L : List (Int × Int)} (h : PairsR w v L) : ∃ a cap, v = .slice a L.length cap ∧ L.length ≤ cap ∧ cap ≤ maxLen ∧
    (0 < L.length → ∃ b off, a = some ⟨b, off, none⟩ ∧ ∀ i (hi : i < L.length), w.cell? ⟨b, off + i * 2, none⟩ = some (.int .i64 L[i].1) ∧ w.cell? ⟨b, off + i * 2 + 1, none⟩ = some (.int .i64 L[i].2)) := by
  obtain ⟨a, cap, h1, _, h3, h4, h5⟩ := h
  refine ⟨a, cap, h1, h3, h4, fun hn => ?_⟩
  obtain ⟨b, off, h6, h7⟩ := h5 hn
  exact ⟨b, off, h6, fun i hi => ⟨h7 _ _ (pairsV_at L i hi).1, by have := h7 _ _ (pairsV_at L i hi).2; rwa [← Nat.add_assoc] at this⟩⟩

def bs (l : List UInt8) : ByteArray := ⟨l.toArray⟩

theorem bs_size (l : List UInt8) : (bs l).size = l.length := by simp [bs, ByteArray.size]

theorem bs_data (s : ByteArray) : bs s.data.toList = s := by cases s; simp [bs]

theorem bs_toList (l : List UInt8) : (bs l).toList = l := by simp [bs]

end Go.Proofs.YtgelojhpanbnaaaGreatDoor

namespace Go.Proofs.YtgelojhpanbnaaaGreatDoor.Cal

def lp (y : Int) : Int := if y % 4 = 0 ∧ (y % 100 ≠ 0 ∨ y % 400 = 0) then 1 else 0
def ahead (y : Int) : Int := 365 * (y - 1) + (y - 1) / 4 - (y - 1) / 100 + (y - 1) / 400 - 693595
def dim (y m : Int) : Int := if m = 2 then 28 + lp y else if m = 4 ∨ m = 6 ∨ m = 9 ∨ m = 11 then 30 else 31
def mon (m : Int) : Int := if m = 2 then 28 else if m = 4 ∨ m = 6 ∨ m = 9 ∨ m = 11 then 30 else 31
def monthB (y m : Int) : Bool := decide (1900 ≤ y) && decide (y ≤ 2199) && decide (1 ≤ m) && decide (m ≤ 12)
def dateB (y m d : Int) : Bool := monthB y m && decide (1 ≤ d) && decide (d ≤ dim y m)
def leapB (y : Int) : Bool := decide (lp y = 1)
def cum (y m : Int) : Int :=
  if m ≤ 1 then 0 else if m = 2 then 31 else
    (if m = 3 then 59 else if m = 4 then 90 else if m = 5 then 120 else if m = 6 then 151 else if m = 7 then 181 else if m = 8 then 212
      else if m = 9 then 243 else if m = 10 then 273 else if m = 11 then 304 else if m = 12 then 334 else 365) + lp y
def num (y m d : Int) : Int := ahead y + cum y m + d
def last : Int := 109573

theorem lp_01 (y : Int) : 0 ≤ lp y ∧ lp y ≤ 1 := by unfold lp; split <;> omega
theorem ahead_succ (y : Int) : ahead (y + 1) = ahead y + 365 + lp y := by unfold ahead lp; split <;> omega
theorem ahead_1900 : ahead 1900 = 0 := by decide
theorem ahead_2200 : ahead 2200 = 109573 := by decide
theorem ahead_mono (a b : Int) (h : a ≤ b) : ahead a ≤ ahead b := by unfold ahead; omega
theorem ahead_bd (y : Int) (h1 : 1900 ≤ y) (h2 : y ≤ 2200) : 0 ≤ ahead y ∧ ahead y ≤ 109573 := by unfold ahead; omega
theorem ahead_guess (n : Int) (h1 : 1 ≤ n) (h2 : n ≤ 109573) : ahead (1900 + (n - 1) / 366) < n ∧ 1900 + (n - 1) / 366 ≤ 2199 := by unfold ahead; omega
theorem dim_bd (y m : Int) : 28 ≤ dim y m ∧ dim y m ≤ 31 := by
  have := lp_01 y; unfold dim; split <;> (try split) <;> omega
theorem cum_succ (y m : Int) (h1 : 1 ≤ m) (h2 : m ≤ 12) : cum y (m + 1) = cum y m + dim y m := by
  obtain h | h | h | h | h | h | h | h | h | h | h | h : m = 1 ∨ m = 2 ∨ m = 3 ∨ m = 4 ∨ m = 5 ∨ m = 6 ∨ m = 7 ∨ m = 8 ∨ m = 9 ∨ m = 10 ∨ m = 11 ∨ m = 12 := by omega
  all_goals (subst h; simp [cum, dim]; try omega)
theorem cum_1 (y : Int) : cum y 1 = 0 := by simp [cum]
theorem cum_13 (y : Int) : cum y 13 = 365 + lp y := by simp [cum]
theorem cum_bd (y m : Int) : 0 ≤ cum y m ∧ cum y m ≤ 366 := by
  have := lp_01 y; unfold cum; repeat' split
  all_goals omega
theorem mon_bd (m : Int) : 28 ≤ mon m ∧ mon m ≤ 31 := by unfold mon; split <;> (try split) <;> omega
theorem dim_2 (y : Int) : dim y 2 = mon 2 + lp y := by simp [dim, mon]
theorem dim_mon (y m : Int) (h : m ≠ 2) : dim y m = mon m := by simp [dim, mon, h]
theorem leap_yes {y : Int} (h : leapB y = true) : lp y = 1 := by simpa [leapB] using h
theorem leap_no {y : Int} (h : leapB y = false) : lp y = 0 := by have := lp_01 y; simp [leapB] at h; omega
theorem month_yes {y m : Int} (h : monthB y m = true) : 1900 ≤ y ∧ y ≤ 2199 ∧ 1 ≤ m ∧ m ≤ 12 := by simpa [monthB, and_assoc] using h
theorem month_no {y m : Int} (h : monthB y m = false) : y < 1900 ∨ 2199 < y ∨ m < 1 ∨ 12 < m := by simp [monthB] at h; omega
theorem month_mk {y m : Int} (h1 : 1900 ≤ y) (h2 : y ≤ 2199) (h3 : 1 ≤ m) (h4 : m ≤ 12) : monthB y m = true := by simp [monthB, h1, h2, h3, h4]
theorem month_mk_no {y m : Int} (h : y < 1900 ∨ 2199 < y ∨ m < 1 ∨ 12 < m) : monthB y m = false := by simp [monthB]; omega
theorem date_yes {y m d : Int} (h : dateB y m d = true) : monthB y m = true ∧ 1 ≤ d ∧ d ≤ dim y m := by simpa [dateB, and_assoc] using h
theorem date_mk {y m d : Int} (h : monthB y m = true) (h1 : 1 ≤ d) (h2 : d ≤ dim y m) : dateB y m d = true := by simp [dateB, h, h1, h2]
theorem date_mk_no {y m d : Int} (h : d < 1 ∨ dim y m < d) : dateB y m d = false := by simp [dateB]; omega
theorem date_mk_no' {y m d : Int} (h : monthB y m = false) : dateB y m d = false := by simp [dateB, h]
theorem leap_mod {y : Int} (h4 : y % 4 = 0) (h : y % 100 ≠ 0 ∨ y % 400 = 0) : leapB y = true := by simp [leapB, lp, h4]; omega
theorem leap_mod_no {y : Int} (h : ¬ (y % 4 = 0 ∧ (y % 100 ≠ 0 ∨ y % 400 = 0))) : leapB y = false := by
  simp only [leapB, lp, if_neg h]; decide

theorem cum_le (y m : Int) (h1 : 1 ≤ m) (h2 : m ≤ 12) : cum y (m + 1) ≤ 365 + lp y := by
  have hl := lp_01 y
  obtain h | h | h | h | h | h | h | h | h | h | h | h : m = 1 ∨ m = 2 ∨ m = 3 ∨ m = 4 ∨ m = 5 ∨ m = 6 ∨ m = 7 ∨ m = 8 ∨ m = 9 ∨ m = 10 ∨ m = 11 ∨ m = 12 := by omega
  all_goals (subst h; simp [cum]; try omega)

theorem cum_mono (y m k : Int) (h1 : 1 ≤ m) (h2 : m < k) (h3 : k ≤ 12) : cum y (m + 1) ≤ cum y k := by
  have hl := lp_01 y
  obtain h | h | h | h | h | h | h | h | h | h | h : m = 1 ∨ m = 2 ∨ m = 3 ∨ m = 4 ∨ m = 5 ∨ m = 6 ∨ m = 7 ∨ m = 8 ∨ m = 9 ∨ m = 10 ∨ m = 11 := by omega
  all_goals
    subst h
    obtain h | h | h | h | h | h | h | h | h | h | h : k = 2 ∨ k = 3 ∨ k = 4 ∨ k = 5 ∨ k = 6 ∨ k = 7 ∨ k = 8 ∨ k = 9 ∨ k = 10 ∨ k = 11 ∨ k = 12 := by omega
    all_goals (subst h; first | omega | (simp [cum]; omega) | simp [cum])

theorem num_bd {y m d : Int} (h : dateB y m d = true) : ahead y < num y m d ∧ num y m d ≤ ahead (y + 1) ∧ 1 ≤ num y m d ∧ num y m d ≤ 109573 := by
  obtain ⟨hm, h1, h2⟩ := date_yes h
  obtain ⟨a, b, c, e⟩ := month_yes hm
  have k1 := cum_bd y m
  have k2 := cum_succ y m c e
  have k3 := cum_le y m c e
  have k4 := ahead_succ y
  have k5 := ahead_bd y a (by omega)
  have k6 := ahead_mono (y + 1) 2200 (by omega)
  rw [ahead_2200] at k6
  unfold num
  omega

theorem num_inj {y m d y' m' d' : Int} (h : dateB y m d = true) (h' : dateB y' m' d' = true) (he : num y m d = num y' m' d') : y = y' ∧ m = m' ∧ d = d' := by
  have b1 := num_bd h
  have b2 := num_bd h'
  have hy : y = y' := by
    rcases Int.lt_or_le y y' with c | c
    · have := ahead_mono (y + 1) y' (by omega); omega
    · rcases Int.lt_or_le y' y with e | e
      · have := ahead_mono (y' + 1) y (by omega); omega
      · omega
  subst hy
  obtain ⟨hm, h1, h2⟩ := date_yes h
  obtain ⟨hm', h1', h2'⟩ := date_yes h'
  obtain ⟨_, _, c1, c2⟩ := month_yes hm
  obtain ⟨_, _, c1', c2'⟩ := month_yes hm'
  have s1 := cum_succ y m c1 c2
  have s2 := cum_succ y m' c1' c2'
  have hmm : m = m' := by
    rcases Int.lt_or_le m m' with c | c
    · have := cum_mono y m m' c1 c c2'; unfold num at he; omega
    · rcases Int.lt_or_le m' m with e | e
      · have := cum_mono y m' m c1' e c2; unfold num at he; omega
      · omega
  subst hmm
  exact ⟨rfl, rfl, by unfold num at he; omega⟩

theorem ex_year (n : Int) (h1 : 1 ≤ n) (h2 : n ≤ 109573) : ∃ y : Int, 1900 ≤ y ∧ y ≤ 2199 ∧ ahead y < n ∧ n ≤ ahead (y + 1) := by
  obtain ⟨g0, g1⟩ := ahead_guess n h1 h2
  rcases Int.lt_or_le (ahead (1900 + (n - 1) / 366 + 1)) n with c | c
  · refine ⟨1900 + (n - 1) / 366 + 1, by omega, ?_, c, ?_⟩
    · rcases Int.lt_or_le 2199 (1900 + (n - 1) / 366 + 1) with e | e
      · have := ahead_mono 2200 (1900 + (n - 1) / 366 + 1) (by omega); rw [ahead_2200] at this; omega
      · exact e
    · unfold ahead; omega
  · exact ⟨_, by omega, g1, g0, c⟩

theorem ex_month (y r : Int) (h1 : 1 ≤ r) (h2 : r ≤ 365 + lp y) : ∃ m : Int, 1 ≤ m ∧ m ≤ 12 ∧ cum y m < r ∧ r ≤ cum y m + dim y m := by
  have step : ∀ k : Nat, k ≤ 11 → (∃ m : Int, 1 ≤ m ∧ m ≤ 12 ∧ cum y m < r ∧ r ≤ cum y m + dim y m) ∨ cum y (k + 1 : Int) < r := by
    intro k
    induction k with
    | zero => intro _; right; have := cum_1 y; simpa [this] using (by omega : 0 < r)
    | succ k ih =>
      intro hk
      rcases ih (by omega) with h | h
      · exact .inl h
      · rcases Int.lt_or_le (cum y (k + 1 : Int) + dim y (k + 1 : Int)) r with c | c
        · right
          have := cum_succ y (k + 1 : Int) (by omega) (by omega)
          rw [show ((k + 1 : Nat) : Int) + 1 = (k : Int) + 1 + 1 by omega, this]; exact c
        · exact .inl ⟨k + 1, by omega, by omega, h, c⟩
  rcases step 11 (by omega) with h | h
  · exact h
  · refine ⟨12, by omega, by omega, by simpa using h, ?_⟩
    have := cum_succ y 12 (by omega) (by omega)
    have h13 := cum_13 y
    rw [show (12 : Int) + 1 = 13 from rfl, h13] at this
    omega

theorem ex_date (n : Int) (h1 : 1 ≤ n) (h2 : n ≤ 109573) : ∃ y m d : Int, dateB y m d = true ∧ num y m d = n := by
  obtain ⟨y, a, b, c, e⟩ := ex_year n h1 h2
  have hs := ahead_succ y
  obtain ⟨m, f, g, i, j⟩ := ex_month y (n - ahead y) (by omega) (by omega)
  exact ⟨y, m, n - ahead y - cum y m, date_mk (month_mk a b f g) (by omega) (by omega), by unfold num; omega⟩

theorem next_month {y m d : Int} (h : dateB y m d = true) (hd : d = dim y m) (hm : m < 12) : dateB y (m + 1) 1 = true ∧ num y (m + 1) 1 = num y m d + 1 := by
  obtain ⟨hm', h1, h2⟩ := date_yes h
  obtain ⟨a, b, c, e⟩ := month_yes hm'
  have := dim_bd y (m + 1)
  have k := cum_succ y m c e
  exact ⟨date_mk (month_mk a b (by omega) (by omega)) (by omega) (by omega), by unfold num; omega⟩

theorem next_year {y d : Int} (h : dateB y 12 d = true) (hd : d = dim y 12) (hy : y < 2199) : dateB (y + 1) 1 1 = true ∧ num (y + 1) 1 1 = num y 12 d + 1 := by
  obtain ⟨hm', h1, h2⟩ := date_yes h
  obtain ⟨a, b, c, e⟩ := month_yes hm'
  have := dim_bd (y + 1) 1
  have k := cum_succ y 12 c e
  have h13 := cum_13 y
  rw [show (12 : Int) + 1 = 13 from rfl, h13] at k
  have hs := ahead_succ y
  exact ⟨date_mk (month_mk (by omega) (by omega) (by omega) (by omega)) (by omega) (by omega), by unfold num; rw [cum_1]; omega⟩

def mondayI (n : Int) : Int := n - (n - 1) % 7
def wk1 (y : Int) : Int := mondayI (num y 1 4)
def weeksI (y : Int) : Int := (num y 12 28 - wk1 y) / 7 + 1

theorem monday_bd (n : Int) : n - 6 ≤ mondayI n ∧ mondayI n ≤ n := by unfold mondayI; omega

theorem monday_mod (n : Int) : (mondayI n - 1) % 7 = 0 := by unfold mondayI; omega

theorem monday_pos (n : Int) (h : 1 ≤ n) : 1 ≤ mondayI n := by unfold mondayI; omega

theorem num_j4 (y : Int) : num y 1 4 = ahead y + 4 := by unfold num; rw [cum_1]; omega

theorem num_d28 (y : Int) : num y 12 28 = ahead y + 362 + lp y := by unfold num; simp [cum]; omega

theorem wk1_bd {y : Int} (h1 : 1900 ≤ y) (h2 : y ≤ 2199) : 1 ≤ wk1 y ∧ ahead y - 2 ≤ wk1 y ∧ wk1 y ≤ ahead y + 4 ∧ (wk1 y - 1) % 7 = 0 := by
  have a := ahead_bd y h1 (by omega)
  have b := num_j4 y
  unfold wk1 mondayI
  omega

theorem week_in {y m d n : Int} (h : dateB y m d = true) (hn : num y m d = mondayI n + 3) : wk1 y ≤ mondayI n ∧ (n - wk1 y) / 7 + 1 ≤ weeksI y ∧ 1 ≤ (n - wk1 y) / 7 + 1 ∧ wk1 y + ((n - wk1 y) / 7 + 1 - 1) * 7 = mondayI n := by
  obtain ⟨hm, _, _⟩ := date_yes h
  obtain ⟨a1, a2, _, _⟩ := month_yes hm
  obtain ⟨b1, b2, _, _⟩ := num_bd h
  obtain ⟨c0, c1, c2, c3⟩ := wk1_bd a1 a2
  have d1 := monday_bd n
  have d2 := monday_mod n
  have e1 := num_d28 y
  have e2 := ahead_succ y
  have e3 := lp_01 y
  unfold weeksI
  have k : (n - wk1 y) / 7 = (mondayI n - wk1 y) / 7 := by unfold mondayI at *; omega
  omega
end Go.Proofs.YtgelojhpanbnaaaGreatDoor.Cal

namespace Go.Proofs.YtgelojhpanbnaaaGreatDoor
open Go.RowKit

theorem ret_int {k : IntKind} {a b : Int} (h : a = b) : Ending.returned (.int k a) = .returned (.int k b) := by rw [h]

theorem ret_bool {a b : Bool} (h : a = b) : Ending.returned (.bool a) = .returned (.bool b) := by rw [h]

def errV (c : Int) : Value := if c = 0 then .nilIface else .iface 124 (.int .i64 c)

theorem errV_0 : errV 0 = .nilIface := rfl

theorem quiet_l {P : Program} {f : FuncId} {args : Array Value} {w : World} {n : Nat} {v : Value}
    (h : Calls P f args (w.drewN n) fun e w' => e = .returned v ∧ w.drewN n = w') : Calls P f args (w.drewN n) fun e w'' => e = .returned v ∧ ∃ m, w'' = w.drewN m :=
  h.mono fun _ _ ⟨he, hm⟩ => ⟨he, n, hm.symm⟩

theorem below_drewN {B : Nat} {a w : World} (h : Below B a w) (n : Nat) : Below B a (w.drewN n) := ⟨h.os, h.tape, h.output, h.size, h.block⟩

theorem ahead_any (y : Int) (w : World) (h0 : 1 ≤ y) (h1 : y ≤ 10000) :
    Calls Tryz.prog 71 #[.int .i64 y] w fun e w' => e = .returned (.int .i64 (Cal.ahead y)) ∧ w = w' := by
  go_enter Tryz.func71, Tryz.ntmps71
  go_wp2
  go_ret
  exact ⟨by rfl, rfl⟩

theorem last_any (w : World) :
    Calls Tryz.prog 23 #[] w fun e w' => e = .returned (.int .i64 109573) ∧ w = w' := by
  go_enter Tryz.func23, Tryz.ntmps23
  go_wp2_with (go_at_call 71; refine (ahead_any 2200 _ (by omega) (by omega)).mono ?_; rintro e w' ⟨rfl, rfl⟩)
  go_ret
  exact ⟨ret_int (by decide), rfl⟩

end Go.Proofs.YtgelojhpanbnaaaGreatDoor

namespace Go.Proofs.YtgelojhpanbnaaaGreatDoor
open Go.RowKit

def Months (w : World) : Prop := ∀ m : Int, 1 ≤ m → m ≤ 12 → w.cell? ⟨0, m.toNat - 1, none⟩ = some (.int .i64 (Cal.mon m))

theorem Months.keep {w w' : World} {B : Nat} (h : Months w) (hb : Below B w w') (hB : 0 < B) : Months w' := fun m h1 h2 => (hb.cell (p := ⟨0, m.toNat - 1, none⟩) hB).trans (h m h1 h2)

theorem Months.pos {w : World} (h : Months w) : 0 < w.heap.size := by
  have h1 := h 1 (by omega) (by omega)
  rcases Nat.lt_or_ge 0 w.heap.size with h0 | h0
  · exact h0
  · simp [World.cell?, Array.getElem?_eq_none h0] at h1

theorem Months.below {w w' : World} (h : Months w) (hb : Below w.heap.size w w') : Months w' := h.keep hb h.pos

theorem Months.alloc {w : World} (h : Months w) (o : Obj) : Months (w.alloc o) := h.below ((Below.refl _ _).alloc (Nat.le_refl _) _)

theorem Months.drew {w : World} (h : Months w) : Months w.drew := h

theorem Months.drewN {w : World} (h : Months w) (n : Nat) : Months (w.drewN n) := h

theorem Months.setCell {w : World} (h : Months w) {p : Addr} (hp : 0 < p.block) (u : Value) : Months (w.setCell p u) := h.keep ((Below.refl (0 + 1) w).setCell (by omega) u) (by omega)

theorem leap_any (y : Int) (w : World) :
    Calls Tryz.prog 73 #[.int .i64 y] w fun e w' => e = .returned (.bool (Cal.leapB y)) ∧ w = w' := by
  have f4 : y.tmod 4 = 0 ↔ y % 4 = 0 := by rw [← Int.dvd_iff_tmod_eq_zero, Int.dvd_iff_emod_eq_zero]
  have f1 : y.tmod 100 = 0 ↔ y % 100 = 0 := by rw [← Int.dvd_iff_tmod_eq_zero, Int.dvd_iff_emod_eq_zero]
  have f0 : y.tmod 400 = 0 ↔ y % 400 = 0 := by rw [← Int.dvd_iff_tmod_eq_zero, Int.dvd_iff_emod_eq_zero]
  by_cases hy : 0 ≤ y
  · clear f4 f1 f0
    by_cases h4 : y % 4 = 0
    · have e4 : (y % 4 == 0) = true := by simp [h4]
      by_cases h1 : y % 100 = 0
      · have e1 : (y % 100 != 0) = false := by simp [h1]
        by_cases h0 : y % 400 = 0
        · have e0 : (y % 400 == 0) = true := by simp [h0]
          have L := Lib.hid (Cal.leap_mod h4 (.inr h0)); clear h4 h1 h0
          go_enter Tryz.func73, Tryz.ntmps73
          go_wp2
          go_ret
          exact ⟨ret_bool L.out.symm, rfl⟩
        · have e0 : (y % 400 == 0) = false := by simp [h0]
          have L := Lib.hid (Cal.leap_mod_no (y := y) (by omega)); clear h4 h1 h0
          go_enter Tryz.func73, Tryz.ntmps73
          go_wp2
          go_ret
          exact ⟨ret_bool L.out.symm, rfl⟩
      · have e1 : (y % 100 != 0) = true := by simp [h1]
        have L := Lib.hid (Cal.leap_mod h4 (.inl h1)); clear h4 h1
        go_enter Tryz.func73, Tryz.ntmps73
        go_wp2
        go_ret
        exact ⟨ret_bool L.out.symm, rfl⟩
    · have e4 : (y % 4 == 0) = false := by simp [h4]
      have L := Lib.hid (Cal.leap_mod_no (y := y) (by omega)); clear h4
      go_enter Tryz.func73, Tryz.ntmps73
      go_wp2
      go_ret
      exact ⟨ret_bool L.out.symm, rfl⟩
  · by_cases h4 : y % 4 = 0
    · have e4 : (y.tmod 4 == 0) = true := by simp [f4.2 h4]
      by_cases h1 : y % 100 = 0
      · have e1 : (y.tmod 100 != 0) = false := by simp [f1.2 h1]
        by_cases h0 : y % 400 = 0
        · have e0 : (y.tmod 400 == 0) = true := by simp [f0.2 h0]
          have L := Lib.hid (Cal.leap_mod h4 (.inr h0)); clear h4 h1 h0 f4 f1 f0
          go_enter Tryz.func73, Tryz.ntmps73
          go_wp2
          go_ret
          exact ⟨ret_bool L.out.symm, rfl⟩
        · have e0 : (y.tmod 400 == 0) = false := by simp [f0, h0]
          have L := Lib.hid (Cal.leap_mod_no (y := y) (by omega)); clear h4 h1 h0 f4 f1 f0
          go_enter Tryz.func73, Tryz.ntmps73
          go_wp2
          go_ret
          exact ⟨ret_bool L.out.symm, rfl⟩
      · have e1 : (y.tmod 100 != 0) = true := by simp [f1, h1]
        have L := Lib.hid (Cal.leap_mod h4 (.inl h1)); clear h4 h1 f4 f1 f0
        go_enter Tryz.func73, Tryz.ntmps73
        go_wp2
        go_ret
        exact ⟨ret_bool L.out.symm, rfl⟩
    · have e4 : (y.tmod 4 == 0) = false := by simp [f4, h4]
      have L := Lib.hid (Cal.leap_mod_no (y := y) (by omega)); clear h4 f4 f1 f0
      go_enter Tryz.func73, Tryz.ntmps73
      go_wp2
      go_ret
      exact ⟨ret_bool L.out.symm, rfl⟩

theorem day_any (n : Int) (w : World) :
    Calls Tryz.prog 135 #[.int .i64 n] w fun e w' => e = .returned (.bool (decide (1 ≤ n) && decide (n ≤ 109573))) ∧ w = w' := by
  by_cases h : 1 ≤ n
  · go_enter Tryz.func135, Tryz.ntmps135
    go_wp2_with (go_at_call 23; refine (last_any _).mono ?_; rintro e w' ⟨rfl, rfl⟩)
    go_ret
    exact ⟨ret_bool (by simp [h]), rfl⟩
  · go_enter Tryz.func135, Tryz.ntmps135
    go_wp2_with (go_at_call 23; refine (last_any _).mono ?_; rintro e w' ⟨rfl, rfl⟩)
    go_ret
    exact ⟨ret_bool (by simp; omega), rfl⟩

theorem day_yes (n : Int) (w : World) (h1 : 1 ≤ n) (h2 : n ≤ 109573) :
    Calls Tryz.prog 135 #[.int .i64 n] w fun e w' => e = .returned (.bool true) ∧ w = w' :=
  (day_any n w).mono fun _ _ ⟨he, hw⟩ => ⟨he.trans (ret_bool (by simp [h1, h2])), hw⟩

theorem day_no (n : Int) (w : World) (h : n < 1 ∨ 109573 < n) :
    Calls Tryz.prog 135 #[.int .i64 n] w fun e w' => e = .returned (.bool false) ∧ w = w' :=
  (day_any n w).mono fun _ _ ⟨he, hw⟩ => ⟨he.trans (ret_bool (by simp; omega)), hw⟩

theorem days_yes (y m : Int) (w : World) (hw : Months w) (h : Cal.monthB y m = true) :
    Calls Tryz.prog 14 #[.int .i64 y, .int .i64 m] w fun e w' => e = .returned (.tuple #[.int .i64 (Cal.dim y m), .nilIface]) ∧ w = w' := by
  obtain ⟨h1, h2, h3, h4⟩ := Cal.month_yes h
  have hc := hw m h3 h4
  have hb := Cal.mon_bd m
  clear hw h
  by_cases hm : m = 2
  · subst hm
    have hd := Cal.dim_2 y
    have hc2 : w.cell? ⟨0, 1, none⟩ = some (.int .i64 (Cal.mon 2)) := hc
    clear hc
    by_cases hl : Cal.leapB y = true
    · have L := Lib.hid (hd.trans (by rw [Cal.leap_yes hl])); clear hd
      go_enter Tryz.func14, Tryz.ntmps14
      go_wp2_with (first | (go_at_call 73; refine (leap_any _ _).mono ?_; rintro e w' ⟨rfl, rfl⟩) | go_in)
      go_ret2
      exact ⟨by rw [L.out]; rfl, rfl⟩
    · have hl' : Cal.leapB y = false := by simpa using hl
      have L := Lib.hid (hd.trans (by rw [Cal.leap_no hl'])); clear hd hl
      go_enter Tryz.func14, Tryz.ntmps14
      go_wp2_with (first | (go_at_call 73; refine (leap_any _ _).mono ?_; rintro e w' ⟨rfl, rfl⟩) | go_in)
      go_ret2
      exact ⟨by rw [L.out]; rfl, rfl⟩
  · have e2 : (m == 2) = false := by simp [hm]
    have L := Lib.hid (Cal.dim_mon y m hm); clear hm
    go_enter Tryz.func14, Tryz.ntmps14
    go_wp2
    go_ret2
    exact ⟨by rw [L.out]; rfl, rfl⟩

theorem days_no (y m : Int) (w : World) (h : Cal.monthB y m = false) :
    Calls Tryz.prog 14 #[.int .i64 y, .int .i64 m] w fun e w' => e = .returned (.tuple #[.int .i64 0, .iface 124 (.int .i64 1)]) ∧ w = w' := by
  have hn := Cal.month_no h
  clear h
  by_cases h1 : y < 1900
  · go_enter Tryz.func14, Tryz.ntmps14
    go_wp2
    go_ret2
    exact ⟨rfl, rfl⟩
  by_cases h2 : 2199 < y
  · go_enter Tryz.func14, Tryz.ntmps14
    go_wp2
    go_ret2
    exact ⟨rfl, rfl⟩
  by_cases h3 : m < 1
  · go_enter Tryz.func14, Tryz.ntmps14
    go_wp2
    go_ret2
    exact ⟨rfl, rfl⟩
  · have h4 : 12 < m := by omega
    clear hn
    go_enter Tryz.func14, Tryz.ntmps14
    go_wp2
    go_ret2
    exact ⟨rfl, rfl⟩

end Go.Proofs.YtgelojhpanbnaaaGreatDoor

namespace Go.Proofs.YtgelojhpanbnaaaGreatDoor
open Go.RowKit

set_option maxHeartbeats 1000000 in
theorem of_yes (y m d : Int) (w : World) (hw : Months w) (h : Cal.dateB y m d = true) :
    Calls Tryz.prog 13 #[.agg #[.int .i64 y, .int .i64 m, .int .i64 d]] w fun e w' => e = .returned (.tuple #[.int .i64 (Cal.num y m d), .nilIface]) ∧ Below w.heap.size w w' := by
  obtain ⟨hm, hd1, hd2⟩ := Cal.date_yes h
  obtain ⟨h1, h2, h3, h4⟩ := Cal.month_yes hm
  have hdb := Cal.dim_bd y m
  have hab := Cal.ahead_bd y h1 (by omega)
  have hm1 : ((1 : Int) < m) = ((1 : Int) < m) := rfl
  clear h hm1
  go_enter Tryz.func13, Tryz.ntmps13
  go_wp2_with (go_at_call 14; refine (days_yes y m _ (hw.alloc _) hm).mono ?_; rintro e w' ⟨rfl, rfl⟩)
  go_quiet ((go_at_call 71; exact quiet_l (ahead_any _ _ (by omega) (by omega))))
  go_wp2
  go_loop [6, 7] (fun s i => ∃ k : Int, 1 ≤ k ∧ k ≤ m ∧ i = .int .i64 k ∧ s = .int .i64 (Cal.ahead y + d + Cal.cum y k)) (fun _ i => (12 - intOf i).toNat)
  case atStart => exact ⟨1, by omega, by omega, rfl, by rw [Cal.cum_1]; simp⟩
  case round =>
    obtain ⟨k, hk1, hk2, rfl, rfl⟩ := hrel
    have hcb := Cal.cum_bd y k
    by_cases hlt : k < m
    · have hcs := Cal.cum_succ y k hk1 (by omega)
      have hkb := Cal.dim_bd y k
      have hmk := Cal.month_mk h1 h2 hk1 (by omega)
      have Hcs := Lib.hid hcs; clear hcs
      go_wp2_with (go_at_call 14; refine (days_yes y k _ ((hw.alloc _).drewN _) hmk).mono ?_; rintro e w' ⟨rfl, rfl⟩)
      go_round
      case rel => exact ⟨k + 1, by omega, by omega, rfl, by rw [Hcs.out]; go_num⟩
      case measure => simp [intOf]; omega
    · obtain rfl : k = m := by omega
      go_wp2
      go_ret2
      exact ⟨by rw [show Cal.num y k d = Cal.ahead y + d + Cal.cum y k from by unfold Cal.num; omega]; rfl, below_drewN ((Below.refl _ _).alloc (Nat.le_refl _) _) _⟩

set_option maxHeartbeats 1000000 in
theorem of_no (y m d : Int) (w : World) (hw : Months w) (h : Cal.dateB y m d = false) :
    Calls Tryz.prog 13 #[.agg #[.int .i64 y, .int .i64 m, .int .i64 d]] w fun e w' => e = .returned (.tuple #[.int .i64 0, .iface 124 (.int .i64 1)]) ∧ Below w.heap.size w w' := by
  by_cases hm : Cal.monthB y m = true
  · have hd : d < 1 ∨ Cal.dim y m < d := by
      rcases Int.lt_or_le d 1 with h1 | h1
      · exact .inl h1
      · rcases Int.lt_or_le (Cal.dim y m) d with h2 | h2
        · exact .inr h2
        · rw [Cal.date_mk hm h1 h2] at h; cases h
    have hdb := Cal.dim_bd y m
    clear h
    by_cases hd1 : d < 1
    · clear hd
      go_enter Tryz.func13, Tryz.ntmps13
      go_wp2_with (go_at_call 14; refine (days_yes y m _ (hw.alloc _) hm).mono ?_; rintro e w' ⟨rfl, rfl⟩)
      go_ret2
      exact ⟨rfl, (Below.refl _ _).alloc (Nat.le_refl _) _⟩
    · have hd2 : Cal.dim y m < d := by omega
      clear hd
      go_enter Tryz.func13, Tryz.ntmps13
      go_wp2_with (go_at_call 14; refine (days_yes y m _ (hw.alloc _) hm).mono ?_; rintro e w' ⟨rfl, rfl⟩)
      go_ret2
      exact ⟨rfl, (Below.refl _ _).alloc (Nat.le_refl _) _⟩
  · have hm' : Cal.monthB y m = false := by simpa using hm
    clear hm h
    go_enter Tryz.func13, Tryz.ntmps13
    go_wp2_with (go_at_call 14; refine (days_no y m _ hm').mono ?_; rintro e w' ⟨rfl, rfl⟩)
    go_ret2
    exact ⟨rfl, (Below.refl _ _).alloc (Nat.le_refl _) _⟩
end Go.Proofs.YtgelojhpanbnaaaGreatDoor

namespace Go.Proofs.YtgelojhpanbnaaaGreatDoor
open Go.RowKit

set_option maxHeartbeats 1000000 in
theorem date_no (n : Int) (w : World) (h : n < 1 ∨ 109573 < n) :
    Calls Tryz.prog 234 #[.int .i64 n] w fun e w' => e = .returned (.tuple #[.agg #[.int .i64 0, .int .i64 0, .int .i64 0], .iface 124 (.int .i64 1)]) ∧ Below w.heap.size w w' := by
  go_enter Tryz.func234, Tryz.ntmps234
  go_wp2_with (go_at_call 135; refine (day_no n _ h).mono ?_; rintro e w' ⟨rfl, rfl⟩)
  exact bodyPost_ret (v := .tuple #[.agg #[.int .i64 0, .int .i64 0, .int .i64 0], .iface 124 (.int .i64 1)]) (by simp [results, Tryz.results234, go_sem]) rfl ⟨rfl, (Below.refl _ _).alloc (Nat.le_refl _) _⟩

set_option maxHeartbeats 1000000 in
theorem date_yes (n : Int) (w : World) (hw : Months w) (h1 : 1 ≤ n) (h2 : n ≤ 109573) :
    Calls Tryz.prog 234 #[.int .i64 n] w fun e w' => ∃ y m d : Int, e = .returned (.tuple #[.agg #[.int .i64 y, .int .i64 m, .int .i64 d], .nilIface]) ∧ Cal.dateB y m d = true ∧ Cal.num y m d = n ∧ Below w.heap.size w w' := by
  obtain ⟨g0, g1⟩ := Cal.ahead_guess n h1 h2
  go_enter Tryz.func234, Tryz.ntmps234
  go_wp2_with (go_at_call 135; refine (day_yes n _ h1 h2).mono ?_; rintro e w' ⟨rfl, rfl⟩)
  go_loopg [] ((2199 - (1900 + (n - 1) / 366)).toNat) (fun k wr => ∃ y : Int, 1900 ≤ y ∧ y ≤ 2199 ∧ Cal.ahead y < n ∧ k = (2199 - y).toNat ∧
    wr = (w.alloc (.cells #[.int .i64 0, .int .i64 0, .int .i64 0] 41)).alloc (.cells #[.int .i64 y, .int .i64 1, .int .i64 0] 41))
  case atStart => exact ⟨_, by omega, g1, g0, rfl, rfl⟩
  case round =>
    obtain ⟨y, hy1, hy2, hy3, hgk, rfl⟩ := hrel
    have G := Lib.hid hgk; clear hgk
    by_cases hc : Cal.ahead (y + 1) < n
    · have hy4 : y + 1 ≤ 2199 := by
        rcases Int.lt_or_le 2199 (y + 1) with h | h
        · have e : y = 2199 := by omega
          subst e; have := Cal.ahead_2200; simp at hc; omega
        · exact h
      go_wp2_with (go_at_call 71; refine (ahead_any _ _ (by omega) (by omega)).mono ?_; rintro e w' ⟨rfl, rfl⟩)
      go_roundg ((2199 - (y + 1)).toNat)
      case measure => rw [G.out]; omega
      case rel => exact ⟨y + 1, by omega, hy4, hc, rfl, rfl⟩
    · have hy5 : n ≤ Cal.ahead (y + 1) := by omega
      have hs := Cal.ahead_succ y
      have hl := Cal.lp_01 y
      have hab := Cal.ahead_bd y hy1 (by omega)
      have hn' : n - Cal.ahead y ≤ 365 + Cal.lp y := by omega
      have HS := Lib.hid hs; clear hs
      go_wp2_with (go_at_call 71; refine (ahead_any _ _ (by omega) (by omega)).mono ?_; rintro e w' ⟨rfl, rfl⟩)
      go_loopg [] 11 (fun k wr => ∃ m : Int, 1 ≤ m ∧ m ≤ 12 ∧ Cal.cum y m < n - Cal.ahead y ∧ k = (12 - m).toNat ∧
        wr = (w.alloc (.cells #[.int .i64 0, .int .i64 0, .int .i64 0] 41)).alloc (.cells #[.int .i64 y, .int .i64 m, .int .i64 (n - Cal.ahead y - Cal.cum y m)] 41))
      case atStart => exact ⟨1, by omega, by omega, by rw [Cal.cum_1]; omega, rfl, by rw [Cal.cum_1]; simp⟩
      case round =>
        obtain ⟨m, hm1, hm2, hm3, hgk, rfl⟩ := hrel
        have G := Lib.hid hgk; clear hgk
        have cb := Cal.cum_bd y m
        have db := Cal.dim_bd y m
        have cs := Lib.hid (Cal.cum_succ y m hm1 hm2)
        have hmk := Cal.month_mk hy1 hy2 hm1 hm2
        by_cases hle : n - Cal.ahead y - Cal.cum y m ≤ Cal.dim y m
        · have hd := Lib.hid (Cal.date_mk hmk (by omega) hle)
          have hnum : Cal.num y m (n - Cal.ahead y - Cal.cum y m) = n := by unfold Cal.num; omega
          have HN := Lib.hid hnum; clear hnum
          go_wp2_with (go_at_call 14; refine (days_yes y m _ ((hw.alloc _).alloc _) hmk).mono ?_; rintro e w' ⟨rfl, rfl⟩)
          refine bodyPost_ret (v := .tuple #[.agg #[.int .i64 y, .int .i64 m, .int .i64 (n - Cal.ahead y - Cal.cum y m)], .nilIface]) (by simp [results, Tryz.results234, go_sem]) rfl ⟨y, m, _, rfl, hd.out, HN.out, ?_⟩
          exact ((Below.refl _ _).alloc (Nat.le_refl _) _).alloc (by simp) _
        · have hm12 : m < 12 := by
            rcases Int.lt_or_le m 12 with h | h
            · exact h
            · obtain rfl : m = 12 := by omega
              have := Cal.cum_succ y 12 (by omega) (by omega); have h13 := Cal.cum_13 y; rw [show (12 : Int) + 1 = 13 from rfl] at this; omega
          go_wp2_with (go_at_call 14; refine (days_yes y m _ ((hw.alloc _).alloc _) hmk).mono ?_; rintro e w' ⟨rfl, rfl⟩)
          go_roundg ((12 - (m + 1)).toNat)
          case measure => rw [G.out]; omega
          case rel => exact ⟨m + 1, by omega, by omega, by rw [cs.out]; omega, rfl, by rw [cs.out, show n - Cal.ahead y - (Cal.cum y m + Cal.dim y m) = n - Cal.ahead y - Cal.cum y m - Cal.dim y m from by omega]⟩

theorem date_num (y m d : Int) (w : World) (hw : Months w) (h : Cal.dateB y m d = true) :
    Calls Tryz.prog 234 #[.int .i64 (Cal.num y m d)] w fun e w' => e = .returned (.tuple #[.agg #[.int .i64 y, .int .i64 m, .int .i64 d], .nilIface]) ∧ Below w.heap.size w w' := by
  obtain ⟨_, _, b1, b2⟩ := Cal.num_bd h
  refine (date_yes (Cal.num y m d) w hw b1 b2).mono ?_
  rintro e w' ⟨y', m', d', he, h', hn, hb⟩
  obtain ⟨rfl, rfl, rfl⟩ := Cal.num_inj h' h hn
  exact ⟨he, hb⟩