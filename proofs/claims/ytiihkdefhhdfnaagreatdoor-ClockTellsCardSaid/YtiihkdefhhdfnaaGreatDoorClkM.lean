/- Times and spans of minutes as texts, plainly: what a text of each form says, and that it is read as it was written. No condition. -/
import Derived.Test.YtiihkdefhhdfnaaGreatDoorNum
import Derived.Test.YtiihkdefhhdfnaaGreatDoorCal
namespace Go.Proofs.YtiihkdefhhdfnaaGreatDoor
open Go.Lib
set_option linter.unusedVariables false
set_option linter.unusedSimpArgs false

/-- two digits. -/
def d2 (n : Nat) : List UInt8 := [UInt8.ofNat (48 + n / 10), UInt8.ofNat (48 + n % 10)]
def dateT (y m d : Nat) : List UInt8 := d2 (y / 100) ++ d2 (y % 100) ++ 45 :: (d2 m ++ 45 :: d2 d)
def timeT (y m d h i : Nat) : List UInt8 := dateT y m d ++ 32 :: (d2 h ++ 58 :: d2 i)

theorem dgn {a : Nat} (h : a < 10) : (UInt8.ofNat (48 + a)).toNat = 48 + a := by rw [UInt8.toNat_ofNat']; omega

theorem two_dec {n : Nat} (h : n < 100) : decDigits (n / 10) ++ decDigits (n % 10) = d2 n := by
  rw [decDigits_one (by omega), decDigits_one (by omega)]; rfl

theorem year_dec {y : Nat} (h : 1000 ≤ y) (h2 : y < 10000) : decDigits y = d2 (y / 100) ++ d2 (y % 100) := by
  rw [decDigits_big (by omega), decDigits_big (n := y / 10) (by omega), decDigits_big (n := y / 10 / 10) (by omega), decDigits_one (i := y / 10 / 10 / 10) (by omega)]
  simp only [d2, List.cons_append, List.nil_append, List.append_assoc]
  rw [show y / 10 / 10 / 10 = y / 100 / 10 by omega, show y / 10 / 10 % 10 = y / 100 % 10 by omega, show y / 10 % 10 = y % 100 / 10 by omega, show y % 10 = y % 100 % 10 by omega]

theorem d2_val {n : Nat} (h : n < 100) (acc : Nat) (r : List UInt8) : decFrom acc (d2 n ++ r) = decFrom (acc * 100 + n) r := by
  simp only [d2, List.cons_append, List.nil_append, decFrom]
  rw [digitVal_of (by omega), digitVal_of (by omega)]
  simp only []
  congr 1; omega

theorem d2_num {n : Nat} (h : n < 100) : decFrom 0 (d2 n) = some n := by
  have := d2_val h 0 []
  rw [List.append_nil] at this; rw [this, decFrom]; congr 1; omega

theorem d4_num {y : Nat} (h : y < 10000) : decFrom 0 (d2 (y / 100) ++ d2 (y % 100)) = some y := by
  rw [d2_val (by omega)]
  have := d2_val (n := y % 100) (by omega) (0 * 100 + y / 100) []
  rw [List.append_nil] at this; rw [this, decFrom]; congr 1; omega

/-- is a text of a form: digits where the form has 0, and else just what it has? -/
def shB : List UInt8 → List UInt8 → Bool
  | [], [] => true
  | c :: s, f :: r => (if f = 48 then decide (48 ≤ c.toNat ∧ c.toNat ≤ 57) else decide (c = f)) && shB s r
  | [], _ :: _ => false
  | _ :: _, [] => false

theorem shB_len : ∀ (s f : List UInt8), shB s f = true → s.length = f.length
  | [], [], _ => rfl
  | c :: s, f :: r, h => by
    simp only [shB, Bool.and_eq_true] at h
    have := shB_len s r h.2
    simp only [List.length_cons, this]
  | [], _ :: _, h => by cases h
  | _ :: _, [], h => by cases h

theorem shB_drop (s f : List UInt8) (k : Nat) (h : k < s.length) (h2 : k < f.length) :
    shB (s.drop k) (f.drop k) = ((if f[k] = 48 then decide (48 ≤ s[k].toNat ∧ s[k].toNat ≤ 57) else decide (s[k] = f[k])) && shB (s.drop (k + 1)) (f.drop (k + 1))) := by
  rw [List.drop_eq_getElem_cons h, List.drop_eq_getElem_cons h2, shB]

theorem sh_dig {l r : List UInt8} (h : shB l (48 :: r) = true) : ∃ a t, a < 10 ∧ l = UInt8.ofNat (48 + a) :: t ∧ shB t r = true := by
  match l, h with
  | c :: t, h =>
    simp only [shB, if_true, Bool.and_eq_true, decide_eq_true_eq] at h
    refine ⟨c.toNat - 48, t, by omega, ?_, h.2⟩
    congr 1
    rw [← UInt8.toNat_inj, dgn (by omega)]; omega

theorem sh_chr {l r : List UInt8} {f : UInt8} (hf : f ≠ 48) (h : shB l (f :: r) = true) : ∃ t, l = f :: t ∧ shB t r = true := by
  match l, h with
  | c :: t, h =>
    simp only [shB, if_neg hf, Bool.and_eq_true, decide_eq_true_eq] at h
    exact ⟨t, by rw [h.1], h.2⟩

theorem sh_nil {l : List UInt8} (h : shB l [] = true) : l = [] := by
  match l, h with
  | [], _ => rfl

def form10 : List UInt8 := [48, 48, 48, 48, 45, 48, 48, 45, 48, 48]
def form16 : List UInt8 := [48, 48, 48, 48, 45, 48, 48, 45, 48, 48, 32, 48, 48, 58, 48, 48]

theorem d2_mk {a b : Nat} (ha : a < 10) (hb : b < 10) : d2 (a * 10 + b) = [UInt8.ofNat (48 + a), UInt8.ofNat (48 + b)] := by
  rw [d2, show (a * 10 + b) / 10 = a by omega, show (a * 10 + b) % 10 = b by omega]

theorem sh16 {l : List UInt8} (h : shB l form16 = true) : ∃ y m d hh i : Nat, y < 10000 ∧ m < 100 ∧ d < 100 ∧ hh < 100 ∧ i < 100 ∧ l = timeT y m d hh i := by
  obtain ⟨a1, l1, q1, rfl, h1⟩ := sh_dig h
  obtain ⟨a2, l2, q2, rfl, h2⟩ := sh_dig h1
  obtain ⟨a3, l3, q3, rfl, h3⟩ := sh_dig h2
  obtain ⟨a4, l4, q4, rfl, h4⟩ := sh_dig h3
  obtain ⟨l5, rfl, h5⟩ := sh_chr (by decide) h4
  obtain ⟨b1, l6, r1, rfl, h6⟩ := sh_dig h5
  obtain ⟨b2, l7, r2, rfl, h7⟩ := sh_dig h6
  obtain ⟨l8, rfl, h8⟩ := sh_chr (by decide) h7
  obtain ⟨c1, l9, s1, rfl, h9⟩ := sh_dig h8
  obtain ⟨c2, l10, s2, rfl, h10⟩ := sh_dig h9
  obtain ⟨l11, rfl, h11⟩ := sh_chr (by decide) h10
  obtain ⟨e1, l12, t1, rfl, h12⟩ := sh_dig h11
  obtain ⟨e2, l13, t2, rfl, h13⟩ := sh_dig h12
  obtain ⟨l14, rfl, h14⟩ := sh_chr (by decide) h13
  obtain ⟨f1, l15, u1, rfl, h15⟩ := sh_dig h14
  obtain ⟨f2, l16, u2, rfl, h16⟩ := sh_dig h15
  obtain rfl := sh_nil h16
  refine ⟨(a1 * 10 + a2) * 100 + (a3 * 10 + a4), b1 * 10 + b2, c1 * 10 + c2, e1 * 10 + e2, f1 * 10 + f2, by omega, by omega, by omega, by omega, by omega, ?_⟩
  rw [timeT, dateT, show ((a1 * 10 + a2) * 100 + (a3 * 10 + a4)) / 100 = a1 * 10 + a2 by omega, show ((a1 * 10 + a2) * 100 + (a3 * 10 + a4)) % 100 = a3 * 10 + a4 by omega,
    d2_mk q1 q2, d2_mk q3 q4, d2_mk r1 r2, d2_mk s1 s2, d2_mk t1 t2, d2_mk u1 u2]
  rfl

theorem sh_cons_dig {a : Nat} (h : a < 10) (t r : List UInt8) : shB (UInt8.ofNat (48 + a) :: t) (48 :: r) = shB t r := by
  simp only [shB, if_true]
  rw [decide_eq_true (by rw [dgn h]; omega), Bool.true_and]

theorem sh_cons_chr {f : UInt8} (h : f ≠ 48) (t r : List UInt8) : shB (f :: t) (f :: r) = shB t r := by
  simp [shB, h]

theorem sh_d2 {n : Nat} (h : n < 100) (t r : List UInt8) : shB (d2 n ++ t) (48 :: 48 :: r) = shB t r := by
  rw [d2, List.cons_append, List.cons_append, List.nil_append, sh_cons_dig (by omega), sh_cons_dig (by omega)]

theorem sh_date {y m d : Nat} (hy : y < 10000) (hm : m < 100) (hd : d < 100) (t r : List UInt8) : shB (dateT y m d ++ t) (form10 ++ r) = shB t r := by
  simp only [dateT, form10, List.append_assoc, List.cons_append, List.nil_append]
  rw [sh_d2 (by omega), sh_d2 (by omega), sh_cons_chr (by decide), sh_d2 hm, sh_cons_chr (by decide), sh_d2 hd]

theorem sh_date10 {y m d : Nat} (hy : y < 10000) (hm : m < 100) (hd : d < 100) : shB (dateT y m d) form10 = true := by
  have := sh_date hy hm hd [] []
  rw [List.append_nil, List.append_nil] at this; rw [this]; rfl

theorem sh_time {y m d h i : Nat} (hy : y < 10000) (hm : m < 100) (hd : d < 100) (hh : h < 100) (hi : i < 100) : shB (timeT y m d h i) form16 = true := by
  rw [timeT, show form16 = form10 ++ [32, 48, 48, 58, 48, 48] from rfl, sh_date hy hm hd, sh_cons_chr (by decide), sh_d2 hh, sh_cons_chr (by decide)]
  have := sh_d2 hi [] []
  rw [List.append_nil] at this; rw [this]; rfl

/-- what a text of a time says: the time, or the fault. -/
def timeR (y m d h i : Nat) : Int × Int :=
  if Cal.dateB y m d = true ∧ h ≤ 23 ∧ i ≤ 59 ∧ 1 ≤ (Cal.num y m d - 1) * 1440 + (h * 60 + i : Nat) then ((Cal.num y m d - 1) * 1440 + (h * 60 + i : Nat), 0) else (0, 1)

theorem d2_len (n : Nat) : (d2 n).length = 2 := rfl

theorem d2_inj {a b : Nat} (ha : a < 100) (hb : b < 100) (h : d2 a = d2 b) : a = b := by
  have h1 := d2_num ha
  rw [h, d2_num hb] at h1
  exact (Option.some.inj h1).symm

/-- the letter of a part of a span: days, hours, minutes. -/
def letC (k : Nat) : UInt8 := if k = 0 then 100 else if k = 1 then 104 else 109
def unitN (k : Nat) : Nat := if k = 0 then 1440 else if k = 1 then 60 else 1
def limB (k n : Nat) : Bool := decide (k = 0 ∨ (k = 1 ∧ n < 24) ∨ (k = 2 ∧ n < 60))

/-- the next part of a span: so many of the k-th kind, and what is behind it. -/
def StepS (next : Nat) (s : List UInt8) (k n : Nat) (r : List UInt8) : Prop :=
  s = decDigits n ++ letC k :: r ∧ 1 ≤ n ∧ (decDigits n).length ≤ 9 ∧ next ≤ k ∧ k ≤ 2 ∧ limB k n = true

/-- the parts of a span, one behind the other: how far it went, how many minutes. -/
inductive RdS : Nat → Nat → List UInt8 → Option (Nat × Nat) → Prop
  | done (next acc : Nat) : RdS next acc [] (some (next, acc))
  | bad (next acc : Nat) (s : List UInt8) (h : s ≠ []) (hb : ∀ k n r, ¬ StepS next s k n r) : RdS next acc s none
  | go (next acc : Nat) (s : List UInt8) (k n : Nat) (r : List UInt8) (x : Option (Nat × Nat)) (h : StepS next s k n r) (hr : RdS (k + 1) (acc + n * unitN k) r x) : RdS next acc s x

def isDg (c : UInt8) : Bool := decide (48 ≤ c.toNat) && decide (c.toNat ≤ 57)

theorem dec_isDg (n : Nat) : ∀ c ∈ decDigits n, isDg c = true := by
  induction n using Nat.strongRecOn with
  | _ n ih =>
    intro c hc
    by_cases h : n < 10
    · rw [decDigits_one h] at hc
      simp only [List.mem_singleton] at hc
      subst hc; rw [isDg, dgn h]; simp; omega
    · rw [decDigits_big h, List.mem_append] at hc
      rcases hc with hc | hc
      · exact ih (n / 10) (by omega) c hc
      · simp only [List.mem_singleton] at hc
        subst hc; rw [isDg, dgn (by omega)]; simp; omega

theorem let_isDg (k : Nat) : isDg (letC k) = false := by
  unfold letC; split
  · rfl
  · split <;> rfl

theorem letC_inj {k j : Nat} (hk : k ≤ 2) (hj : j ≤ 2) (h : letC k = letC j) : k = j := by
  have : k = 0 ∨ k = 1 ∨ k = 2 := by omega
  have : j = 0 ∨ j = 1 ∨ j = 2 := by omega
  rcases ‹k = 0 ∨ _› with rfl | rfl | rfl <;> rcases ‹j = 0 ∨ _› with rfl | rfl | rfl <;> first | rfl | (exact absurd h (by decide))

/-- digits ahead of what is none: the two parts are known. -/
theorem split_dg : ∀ (p q : List UInt8) (b c : UInt8) (s t : List UInt8), (∀ x ∈ p, isDg x = true) → (∀ x ∈ q, isDg x = true) → isDg b = false → isDg c = false →
    p ++ b :: s = q ++ c :: t → p = q ∧ b = c ∧ s = t
  | [], [], b, c, s, t, _, _, _, _, h => by
    simp only [List.nil_append, List.cons.injEq] at h
    exact ⟨rfl, h.1, h.2⟩
  | [], y :: q, b, c, s, t, _, hq, hb, _, h => by
    simp only [List.nil_append, List.cons_append, List.cons.injEq] at h
    have := hq y List.mem_cons_self
    rw [← h.1, hb] at this; cases this
  | x :: p, [], b, c, s, t, hp, _, _, hc, h => by
    simp only [List.nil_append, List.cons_append, List.cons.injEq] at h
    have := hp x List.mem_cons_self
    rw [h.1, hc] at this; cases this
  | x :: p, y :: q, b, c, s, t, hp, hq, hb, hc, h => by
    simp only [List.cons_append, List.cons.injEq] at h
    obtain ⟨e1, e2, e3⟩ := split_dg p q b c s t (fun z hz => hp z (List.mem_cons_of_mem _ hz)) (fun z hz => hq z (List.mem_cons_of_mem _ hz)) hb hc h.2
    exact ⟨by rw [h.1, e1], e2, e3⟩

theorem dec_inj {a b : Nat} (h : decDigits a = decDigits b) : a = b := by
  have h1 := decDigits_val a
  rw [h, decDigits_val] at h1
  exact (Option.some.inj h1).symm

theorem stepS_one {next : Nat} {s : List UInt8} {k n k' n' : Nat} {r r' : List UInt8} (h : StepS next s k n r) (h' : StepS next s k' n' r') : k = k' ∧ n = n' ∧ r = r' := by
  obtain ⟨e, -, -, -, hk, -⟩ := h
  obtain ⟨e', -, -, -, hk', -⟩ := h'
  obtain ⟨a, b, c⟩ := split_dg _ _ _ _ _ _ (dec_isDg n) (dec_isDg n') (let_isDg k) (let_isDg k') (e.symm.trans e')
  exact ⟨letC_inj hk hk' b, dec_inj a, c⟩

theorem stepS_ne {next : Nat} {s : List UInt8} {k n : Nat} {r : List UInt8} (h : StepS next s k n r) : s ≠ [] := by
  rw [h.1]; simp

theorem rdS_one {next acc : Nat} {s : List UInt8} {x y : Option (Nat × Nat)} (h : RdS next acc s x) (h' : RdS next acc s y) : x = y := by
  induction h with
  | done next acc =>
    cases h' with
    | done => rfl
    | bad _ _ _ h => exact absurd rfl h
    | go _ _ _ _ _ _ _ h => exact absurd rfl (stepS_ne h)
  | bad next acc s h hb =>
    cases h' with
    | done => exact absurd rfl h
    | bad => rfl
    | go _ _ _ _ _ _ _ h2 => exact absurd h2 (hb _ _ _)
  | go next acc s k n r x h hr ih =>
    cases h' with
    | done => exact absurd rfl (stepS_ne h)
    | bad _ _ _ _ hb => exact absurd h (hb _ _ _)
    | go _ _ _ k2 n2 r2 _ h2 hr2 =>
      obtain ⟨rfl, rfl, rfl⟩ := stepS_one h h2
      exact ih hr2

/-- what a text of a span says: the minutes, or the fault. -/
def finS (less : Bool) : Option (Nat × Nat) → Int × Int
  | none => (0, 2)
  | some (next, tot) => if next = 0 then (0, 2) else if 1000000 < tot then (0, 1) else (if less then -(tot : Int) else tot, 0)

def lessB (l : List UInt8) : Bool := decide (l.head? = some 45)
def bodyS (l : List UInt8) : List UInt8 := if lessB l then l.tail else l

def SpanR (l : List UInt8) (v : Int × Int) : Prop :=
  (l = [48, 109] ∧ v = (0, 0)) ∨ (l ≠ [48, 109] ∧ ∃ x, RdS 0 0 (bodyS l) x ∧ v = finS (lessB l) x)

theorem spanR_one {l : List UInt8} {v u : Int × Int} (h : SpanR l v) (h' : SpanR l u) : v = u := by
  rcases h with ⟨h1, rfl⟩ | ⟨h1, x, hx, rfl⟩
  · rcases h' with ⟨_, rfl⟩ | ⟨h2, _⟩
    · rfl
    · exact absurd h1 h2
  · rcases h' with ⟨h2, _⟩ | ⟨_, y, hy, rfl⟩
    · exact absurd h2 h1
    · rw [rdS_one hx hy]

/-- a part of a span's text. -/
def pc (k n : Nat) : List UInt8 := if n = 0 then [] else decDigits n ++ [letC k]
def pcs (a b c : Nat) : List UInt8 := pc 0 a ++ (pc 1 b ++ pc 2 c)
def spanT (n : Int) : List UInt8 :=
  if n = 0 then [48, 109] else (if n < 0 then [45] else []) ++ pcs (n.natAbs / 1440) (n.natAbs % 1440 / 60) (n.natAbs % 60)

theorem pc_zero (k : Nat) : pc k 0 = [] := by rw [pc, if_pos rfl]
theorem pc_pos {k n : Nat} (h : n ≠ 0) : pc k n = decDigits n ++ [letC k] := by rw [pc, if_neg h]

theorem pc_go {next acc k n : Nat} {t : List UInt8} {x : Option (Nat × Nat)} (h1 : next ≤ k) (h2 : k ≤ 2) (h3 : limB k n = true) (h4 : (decDigits n).length ≤ 9)
    (h : RdS (if n = 0 then next else k + 1) (acc + n * unitN k) t x) : RdS next acc (pc k n ++ t) x := by
  by_cases h0 : n = 0
  · subst h0
    rw [pc_zero, List.nil_append]; simpa using h
  · rw [if_neg h0] at h
    refine .go _ _ _ k n t _ ⟨?_, by omega, h4, h1, h2, h3⟩ h
    rw [pc_pos h0]; simp

theorem pcs_rd {a b c : Nat} (ha : (decDigits a).length ≤ 9) (hb : b < 24) (hc : c < 60) (h : a + b + c ≠ 0) : ∃ nx, nx ≠ 0 ∧ RdS 0 0 (pcs a b c) (some (nx, a * 1440 + b * 60 + c)) := by
  have l1 : (decDigits b).length ≤ 9 := by have := decDigits_le 1 b (by omega); omega
  have l2 : (decDigits c).length ≤ 9 := by have := decDigits_le 1 c (by omega); omega
  refine ⟨if c = 0 then (if b = 0 then (if a = 0 then 0 else 0 + 1) else 1 + 1) else 2 + 1, ?_, ?_⟩
  · split
    · split
      · split
        · omega
        · omega
      · omega
    · omega
  · rw [pcs]
    refine pc_go (Nat.le_refl _) (by omega) (by simp [limB]) ha ?_
    refine pc_go (by split <;> omega) (by omega) (by simp [limB]; omega) l1 ?_
    have e := pc_go (next := if b = 0 then (if a = 0 then 0 else 0 + 1) else 1 + 1) (acc := 0 + a * unitN 0 + b * unitN 1) (k := 2) (n := c) (t := []) (x := some (if c = 0 then (if b = 0 then (if a = 0 then 0 else 0 + 1) else 1 + 1) else 2 + 1, a * 1440 + b * 60 + c)) (by split <;> (try split) <;> omega) (by omega) (by simp [limB]; omega) l2 (by
        have : 0 + a * unitN 0 + b * unitN 1 + c * unitN 2 = a * 1440 + b * 60 + c := by simp [unitN]
        rw [this]; exact .done _ _)
    rwa [List.append_nil] at e

theorem pcs_head (a b c : Nat) (h : a + b + c ≠ 0) : ∃ x t, pcs a b c = x :: t ∧ 49 ≤ x.toNat ∧ x.toNat ≤ 57 := by
  have key : ∀ (k n : Nat) (t : List UInt8), n ≠ 0 → ∃ x r, pc k n ++ t = x :: r ∧ 49 ≤ x.toNat ∧ x.toNat ≤ 57 := by
    intro k n t hn
    obtain ⟨x, r, e, h1, h2, h3⟩ := decDigits_head n
    refine ⟨x, r ++ [letC k] ++ t, by rw [pc_pos hn, e]; rfl, ?_, h2⟩
    have := h3 (by omega)
    rw [Ne, ← UInt8.toNat_inj] at this
    have e48 : (48 : UInt8).toNat = 48 := rfl
    omega
  rw [pcs]
  by_cases ha : a = 0
  · subst ha; rw [pc_zero, List.nil_append]
    by_cases hb : b = 0
    · subst hb; rw [pc_zero, List.nil_append]
      have := key 2 c [] (by omega)
      rwa [List.append_nil] at this
    · exact key 1 b _ hb
  · exact key 0 a _ ha

/-- a span is read as it was written. -/
theorem span_back {n : Int} (h1 : -1000000 ≤ n) (h2 : n ≤ 1000000) : SpanR (spanT n) (n, 0) := by
  by_cases h0 : n = 0
  · subst h0; exact .inl ⟨rfl, rfl⟩
  · right
    obtain ⟨a, ha⟩ : ∃ a, a = n.natAbs / 1440 := ⟨_, rfl⟩
    obtain ⟨b, hb⟩ : ∃ b, b = n.natAbs % 1440 / 60 := ⟨_, rfl⟩
    obtain ⟨c, hc⟩ : ∃ c, c = n.natAbs % 60 := ⟨_, rfl⟩
    have e : spanT n = (if n < 0 then [45] else []) ++ pcs a b c := by rw [spanT, if_neg h0, ha, hb, hc]
    have hs : a * 1440 + b * 60 + c = n.natAbs := by omega
    obtain ⟨nx, hnx, hr⟩ := pcs_rd (a := a) (b := b) (c := c) (by have := decDigits_le 2 a (by omega); omega) (by omega) (by omega) (by omega)
    obtain ⟨x, t, ex, x1, x2⟩ := pcs_head a b c (by omega)
    have e45 : (45 : UInt8).toNat = 45 := rfl
    have e48 : (48 : UInt8).toNat = 48 := rfl
    have fin : ∀ less : Bool, finS less (some (nx, a * 1440 + b * 60 + c)) = (if less then -((n.natAbs : Nat) : Int) else (n.natAbs : Int), 0) := by
      intro less; rw [finS, hs]; rw [if_neg hnx, if_neg (by omega)]
    by_cases hn : n < 0
    · rw [if_pos hn] at e
      have el : lessB (spanT n) = true := by rw [e]; rfl
      refine ⟨?_, some (nx, a * 1440 + b * 60 + c), ?_, ?_⟩
      · rw [e]; intro h; simp at h
      · rw [bodyS, el, e]; exact hr
      · rw [el, fin]; simp; omega
    · rw [if_neg hn, List.nil_append] at e
      have el : lessB (spanT n) = false := by
        rw [e, ex, lessB]; simp; intro h; rw [← UInt8.toNat_inj] at h; omega
      refine ⟨?_, some (nx, a * 1440 + b * 60 + c), ?_, ?_⟩
      · rw [e, ex]; intro h; simp at h; have := h.1; rw [← UInt8.toNat_inj] at this; omega
      · rw [bodyS, el, e]; exact hr
      · rw [el, fin]; simp; omega

theorem rdS_pcs {next acc : Nat} {s : List UInt8} {x : Option (Nat × Nat)} (h : RdS next acc s x) : ∀ nx tot, x = some (nx, tot) →
    ∃ a b c, s = pcs a b c ∧ b < 24 ∧ c < 60 ∧ tot = acc + (a * 1440 + b * 60 + c) ∧ (0 < next → a = 0) ∧ (1 < next → b = 0) ∧ (2 < next → c = 0) ∧ (nx = next ∨ a + b + c ≠ 0) := by
  induction h with
  | done next acc =>
    intro nx tot e
    cases e
    exact ⟨0, 0, 0, rfl, by omega, by omega, by omega, fun _ => rfl, fun _ => rfl, fun _ => rfl, .inl rfl⟩
  | bad => intro nx tot e; cases e
  | go next acc s k n r x h hr ih =>
    intro nx tot e
    obtain ⟨a, b, c, es, hb, hc, ht, z0, z1, z2, -⟩ := ih nx tot e
    obtain ⟨e1, hn, hl, hnk, hk, hlim⟩ := h
    have hk3 : k = 0 ∨ k = 1 ∨ k = 2 := by omega
    rcases hk3 with rfl | rfl | rfl
    · obtain rfl := z0 (by omega)
      refine ⟨n, b, c, ?_, hb, hc, by rw [ht]; simp [unitN]; omega, fun h => absurd hnk (by omega), fun h => absurd hnk (by omega), fun h => absurd hnk (by omega), .inr (by omega)⟩
      rw [e1, es]; simp only [pcs, pc_zero, List.nil_append]; rw [pc_pos (n := n) (by omega)]; simp
    · obtain rfl := z0 (by omega)
      obtain rfl := z1 (by omega)
      simp [limB] at hlim
      refine ⟨0, n, c, ?_, hlim, hc, by rw [ht]; simp [unitN]; omega, fun h => rfl, fun h => absurd hnk (by omega), fun h => absurd hnk (by omega), .inr (by omega)⟩
      rw [e1, es]; simp only [pcs, pc_zero, List.nil_append]; rw [pc_pos (n := n) (by omega)]; simp
    · obtain rfl := z0 (by omega)
      obtain rfl := z1 (by omega)
      obtain rfl := z2 (by omega)
      simp [limB] at hlim
      refine ⟨0, 0, n, ?_, by omega, hlim, by rw [ht]; simp [unitN], fun h => rfl, fun h => rfl, fun h => absurd hnk (by omega), .inr (by omega)⟩
      rw [e1, es]; simp only [pcs, pc_zero, List.nil_append]; rw [pc_pos (n := n) (by omega)]

/-- what is read as a span is written so. -/
theorem span_print {l : List UInt8} {n : Int} (h : SpanR l (n, 0)) : -1000000 ≤ n ∧ n ≤ 1000000 ∧ spanT n = l := by
  rcases h with ⟨rfl, e⟩ | ⟨h0, x, hx, e⟩
  · cases e; exact ⟨by omega, by omega, rfl⟩
  · cases x with
    | none => rw [finS] at e; simp at e
    | some p =>
      obtain ⟨nx, tot⟩ := p
      rw [finS] at e
      by_cases h1 : nx = 0
      · rw [if_pos h1] at e; simp at e
      · rw [if_neg h1] at e
        by_cases h2 : 1000000 < tot
        · rw [if_pos h2] at e; simp at e
        · rw [if_neg h2] at e
          obtain ⟨a, b, c, es, hb, hc, ht, -, -, -, hor⟩ := rdS_pcs hx nx tot rfl
          have hp : a + b + c ≠ 0 := by rcases hor with h | h <;> omega
          have e' : n = if lessB l = true then -(tot : Int) else tot := by
            have := congrArg Prod.fst e; simpa using this
          by_cases hl : lessB l = true
          · rw [if_pos hl] at e'
            refine ⟨by omega, by omega, ?_⟩
            have q1 : n.natAbs / 1440 = a := by omega
            have q2 : n.natAbs % 1440 / 60 = b := by omega
            have q3 : n.natAbs % 60 = c := by omega
            rw [spanT, if_neg (by omega), if_pos (by omega), q1, q2, q3, ← es, bodyS, if_pos hl]
            rw [lessB, decide_eq_true_eq] at hl
            cases l with
            | nil => cases hl
            | cons y t => simp at hl; rw [hl]; rfl
          · rw [if_neg hl] at e'
            refine ⟨by omega, by omega, ?_⟩
            have q1 : n.natAbs / 1440 = a := by omega
            have q2 : n.natAbs % 1440 / 60 = b := by omega
            have q3 : n.natAbs % 60 = c := by omega
            rw [spanT, if_neg (by omega), if_neg (by omega), q1, q2, q3, ← es, bodyS, if_neg hl]; rfl

end Go.Proofs.YtiihkdefhhdfnaaGreatDoor
