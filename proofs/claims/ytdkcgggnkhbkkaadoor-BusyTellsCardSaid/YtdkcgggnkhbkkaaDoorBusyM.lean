/- Plain laws of what is taken: lists of stretches, in as few as may be, what is free between them. No conditions. -/
import Derived.WalkKit
namespace Go.Proofs.YtdkcgggnkhbkkaaDoor
set_option linter.unusedSimpArgs false
set_option linter.unusedVariables false

/-- is a minute in one of them? -/
def covB (l : List (Int × Int)) (t : Int) : Bool := l.any fun b => decide (b.1 ≤ t) && decide (t < b.2)

/-- none is empty; one behind the other, with room between. -/
def Sep (l : List (Int × Int)) : Prop := (∀ b ∈ l, b.1 < b.2) ∧ l.Pairwise (fun a b => a.2 < b.1)

theorem sep_nil : Sep [] := ⟨by simp, List.Pairwise.nil⟩

theorem sep_cons {b : Int × Int} {r : List (Int × Int)} : Sep (b :: r) ↔ b.1 < b.2 ∧ (∀ c ∈ r, b.2 < c.1) ∧ Sep r := by
  simp only [Sep, List.pairwise_cons, List.mem_cons, forall_eq_or_imp]
  constructor
  · rintro ⟨⟨h1, h2⟩, h3, h4⟩; exact ⟨h1, h3, h2, h4⟩
  · rintro ⟨h1, h3, h2, h4⟩; exact ⟨⟨h1, h2⟩, h3, h4⟩

theorem covB_cons (b : Int × Int) (r : List (Int × Int)) (t : Int) : covB (b :: r) t = ((decide (b.1 ≤ t) && decide (t < b.2)) || covB r t) := rfl

theorem covB_append (l r : List (Int × Int)) (t : Int) : covB (l ++ r) t = (covB l t || covB r t) := by simp [covB]

theorem covB_iff {l : List (Int × Int)} {t : Int} : covB l t = true ↔ ∃ b ∈ l, b.1 ≤ t ∧ t < b.2 := by simp [covB]

theorem covB_no {l : List (Int × Int)} {t : Int} (h : ∀ c ∈ l, t < c.1 ∨ c.2 ≤ t) : covB l t = false := by
  rw [Bool.eq_false_iff]; intro hc
  obtain ⟨b, hb, h1, h2⟩ := covB_iff.1 hc
  have := h b hb; omega

theorem covB_perm {l r : List (Int × Int)} (h : l.Perm r) (t : Int) : covB l t = covB r t := by
  rw [Bool.eq_iff_iff, covB_iff, covB_iff]
  exact ⟨fun ⟨b, hb, h1⟩ => ⟨b, h.mem_iff.1 hb, h1⟩, fun ⟨b, hb, h1⟩ => ⟨b, h.mem_iff.2 hb, h1⟩⟩

theorem sep_uniq : ∀ (l m : List (Int × Int)), Sep l → Sep m → (∀ t, covB l t = covB m t) → l = m
  | [], [], _, _, _ => rfl
  | [], c :: m, _, hm, h => by
    have h1 := (sep_cons.1 hm).1
    have h2 := h c.1
    rw [covB_cons] at h2
    simp [covB] at h2
    omega
  | b :: l, [], hl, _, h => by
    have h1 := (sep_cons.1 hl).1
    have h2 := h b.1
    rw [covB_cons] at h2
    simp [covB] at h2
    omega
  | (a, b) :: l, (c, d) :: m, hl, hm, h => by
    obtain ⟨l1, l2, l3⟩ := sep_cons.1 hl
    obtain ⟨m1, m2, m3⟩ := sep_cons.1 hm
    simp only at l1 l2 m1 m2
    have lo : ∀ t, covB l t = true → b < t := fun t ht => by
      obtain ⟨x, hx, h1, h2⟩ := covB_iff.1 ht; have := l2 x hx; omega
    have mo : ∀ t, covB m t = true → d < t := fun t ht => by
      obtain ⟨x, hx, h1, h2⟩ := covB_iff.1 ht; have := m2 x hx; omega
    have key : ∀ t, (a ≤ t ∧ t < b) ∨ covB l t = true ↔ (c ≤ t ∧ t < d) ∨ covB m t = true := by
      intro t
      have := h t
      rw [covB_cons, covB_cons, Bool.eq_iff_iff] at this
      simpa using this
    have e1 : a = c := by
      have p := (key a).1 (.inl ⟨Int.le_refl _, l1⟩)
      have q := (key c).2 (.inl ⟨Int.le_refl _, m1⟩)
      rcases p with p | p
      · rcases q with q | q
        · omega
        · have := lo _ q; omega
      · have := mo _ p
        rcases q with q | q
        · omega
        · have := lo _ q; omega
    subst e1
    have e2 : b = d := by
      have p := fun h' => (key b).2 h'
      have q := fun h' => (key d).1 h'
      rcases Int.lt_trichotomy b d with h1 | h1 | h1
      · rcases p (.inl ⟨by omega, h1⟩) with p | p
        · omega
        · have := lo _ p; omega
      · exact h1
      · rcases q (.inl ⟨by omega, h1⟩) with q | q
        · omega
        · have := mo _ q; omega
    subst e2
    rw [sep_uniq l m l3 m3 fun t => by
      rw [Bool.eq_iff_iff]
      constructor
      · intro ht
        rcases (key t).1 (.inr ht) with p | p
        · have := lo t ht; omega
        · exact p
      · intro ht
        rcases (key t).2 (.inr ht) with p | p
        · have := mo t ht; omega
        · exact p]

/-- one more, of a list in order: it is joined to the last one, or stands behind it. -/
def stepL (out : List (Int × Int)) (b : Int × Int) : List (Int × Int) :=
  if b.1 = b.2 then out
  else match out.getLast? with
    | none => [b]
    | some k => if b.1 ≤ k.2 then out.dropLast ++ [(k.1, max k.2 b.2)] else out ++ [b]

theorem getLast_split {α : Type} {l : List α} {k : α} (h : l.getLast? = some k) : l = l.dropLast ++ [k] := by
  have hne : l ≠ [] := by rintro rfl; simp at h
  rw [List.getLast?_eq_some_getLast hne] at h
  have h2 := List.dropLast_concat_getLast hne
  injection h with h
  rw [h] at h2; exact h2.symm

theorem sep_snoc {l : List (Int × Int)} {b : Int × Int} : Sep (l ++ [b]) ↔ Sep l ∧ b.1 < b.2 ∧ ∀ c ∈ l, c.2 < b.1 := by
  simp only [Sep, List.pairwise_append, List.mem_append, List.mem_singleton]
  constructor
  · rintro ⟨h1, h2, _, h3⟩; exact ⟨⟨fun x hx => h1 x (.inl hx), h2⟩, h1 b (.inr rfl), fun c hc => h3 c hc b rfl⟩
  · rintro ⟨⟨h1, h2⟩, h3, h4⟩
    exact ⟨fun x hx => hx.elim (h1 x) (fun e => by rw [e]; exact h3), h2, List.pairwise_singleton _ _, fun c hc x hx => by rw [hx]; exact h4 c hc⟩

theorem step_ok {out done : List (Int × Int)} {b : Int × Int} (hs : Sep out) (hf : ∀ c ∈ out, c.1 ≤ b.1) (hb : b.1 ≤ b.2) (hc : ∀ t, covB out t = covB done t) :
    Sep (stepL out b) ∧ (∀ x : Int, b.1 ≤ x → ∀ c ∈ stepL out b, c.1 ≤ x) ∧ ∀ t, covB (stepL out b) t = covB (done ++ [b]) t := by
  unfold stepL
  by_cases he : b.1 = b.2
  · rw [if_pos he]
    refine ⟨hs, fun x hx c h => by have := hf c h; omega, fun t => ?_⟩
    rw [covB_append, ← hc t, covB_no (l := [b]) (fun c h => by rw [List.mem_singleton.1 h]; omega), Bool.or_false]
  · rw [if_neg he]
    cases hl : out.getLast? with
    | none =>
      have : out = [] := by simpa using hl
      subst this
      refine ⟨sep_cons.2 ⟨by omega, by simp, sep_nil⟩, fun x hx c h => by rw [List.mem_singleton.1 h]; exact hx, fun t => ?_⟩
      rw [covB_append, ← hc t]; rfl
    | some k =>
      have hk := getLast_split hl
      obtain ⟨o, ho⟩ : ∃ o, o = out.dropLast := ⟨_, rfl⟩
      rw [← ho] at hk ⊢
      subst hk
      obtain ⟨s1, s2, s3⟩ := sep_snoc.1 hs
      have hfk := hf k (by simp)
      by_cases h1 : b.1 ≤ k.2
      · simp only [if_pos h1]
        refine ⟨sep_snoc.2 ⟨s1, by simp only; omega, s3⟩, fun x hx c h => ?_, fun t => ?_⟩
        · rcases List.mem_append.1 h with h | h
          · have := hf c (List.mem_append.2 (.inl h)); omega
          · rw [List.mem_singleton.1 h]; simp only; omega
        · rw [covB_append, covB_append, ← hc t, covB_append, Bool.or_assoc]
          congr 1
          rw [Bool.eq_iff_iff]
          simp [covB]
          omega
      · simp only [if_neg h1]
        refine ⟨sep_snoc.2 ⟨hs, by omega, fun c h => ?_⟩, fun x hx c h => ?_, fun t => ?_⟩
        · rcases List.mem_append.1 h with h | h
          · have := s3 c h; omega
          · rw [List.mem_singleton.1 h]; omega
        · rcases List.mem_append.1 h with h | h
          · have := hf c h; omega
          · rw [List.mem_singleton.1 h]; exact hx
        · rw [covB_append, hc t, covB_append]

/-- all of a list that is in order. -/
theorem fold_ok : ∀ (l out done : List (Int × Int)), Sep out → (∀ c ∈ out, ∀ b ∈ l, c.1 ≤ b.1) → l.Pairwise (fun a b => a.1 ≤ b.1) → (∀ b ∈ l, b.1 ≤ b.2) → (∀ t, covB out t = covB done t) →
    Sep (l.foldl stepL out) ∧ ∀ t, covB (l.foldl stepL out) t = covB (done ++ l) t
  | [], out, done, h1, _, _, _, h5 => ⟨h1, fun t => by rw [List.append_nil]; exact h5 t⟩
  | b :: l, out, done, h1, h2, h3, h4, h5 => by
    obtain ⟨p1, p2⟩ := List.pairwise_cons.1 h3
    obtain ⟨q1, q2, q3⟩ := step_ok h1 (fun c hc => h2 c hc b (by simp)) (h4 b (by simp)) h5
    have h := fold_ok l (stepL out b) (done ++ [b]) q1 (fun c hc x hx => q2 x.1 (p1 x hx) c hc) p2 (fun x hx => h4 x (by simp [hx])) q3
    rw [List.append_assoc] at h
    exact h

/-- one more, of any list: what it touches becomes one. -/
def insL (b : Int × Int) : List (Int × Int) → List (Int × Int)
  | [] => [b]
  | o :: r => if o.2 < b.1 then o :: insL b r else if b.2 < o.1 then b :: o :: r else insL (min o.1 b.1, max o.2 b.2) r

theorem ins_lo (x : Int) : ∀ (l : List (Int × Int)) (b : Int × Int), x < b.1 → (∀ c ∈ l, x < c.1) → ∀ c ∈ insL b l, x < c.1
  | [], b, h1, _, c, h => by rw [insL, List.mem_singleton] at h; rw [h]; exact h1
  | o :: r, b, h1, h2, c, h => by
    rw [insL] at h
    have ho := h2 o (by simp)
    split at h
    · rcases List.mem_cons.1 h with h | h
      · rw [h]; exact ho
      · exact ins_lo x r b h1 (fun c hc => h2 c (by simp [hc])) c h
    · split at h
      · rcases List.mem_cons.1 h with h | h
        · rw [h]; exact h1
        · exact h2 c h
      · exact ins_lo x r _ (by simp only; omega) (fun c hc => h2 c (by simp [hc])) c h

theorem ins_ok : ∀ (l : List (Int × Int)) (b : Int × Int), b.1 < b.2 → Sep l → Sep (insL b l) ∧ ∀ t, covB (insL b l) t = covB (b :: l) t
  | [], b, h1, _ => ⟨sep_cons.2 ⟨h1, by simp, sep_nil⟩, fun _ => rfl⟩
  | o :: r, b, h1, h2 => by
    obtain ⟨s1, s2, s3⟩ := sep_cons.1 h2
    rw [insL]
    split
    · next h =>
      obtain ⟨p1, p2⟩ := ins_ok r b h1 s3
      refine ⟨sep_cons.2 ⟨s1, ins_lo o.2 r b h s2, p1⟩, fun t => ?_⟩
      rw [covB_cons, p2 t, covB_cons, covB_cons, covB_cons, ← Bool.or_assoc, ← Bool.or_assoc, Bool.or_comm (decide (o.1 ≤ t) && decide (t < o.2))]
    · next h =>
      split
      · next h' =>
        exact ⟨sep_cons.2 ⟨h1, fun c hc => by rcases List.mem_cons.1 hc with hc | hc; · rw [hc]; exact h'
                                              · have := s2 c hc; omega, h2⟩, fun _ => rfl⟩
      · next h' =>
        obtain ⟨p1, p2⟩ := ins_ok r (min o.1 b.1, max o.2 b.2) (by simp only; omega) s3
        refine ⟨p1, fun t => ?_⟩
        rw [p2 t, covB_cons, covB_cons, covB_cons, ← Bool.or_assoc]
        congr 1
        rw [Bool.eq_iff_iff]
        simp
        omega

/-- in as few as may be. -/
def normL (l : List (Int × Int)) : List (Int × Int) := l.foldl (fun out b => if b.1 = b.2 then out else insL b out) []

theorem norm_fold : ∀ (l out done : List (Int × Int)), Sep out → (∀ b ∈ l, b.1 ≤ b.2) → (∀ t, covB out t = covB done t) →
    Sep (l.foldl (fun out b => if b.1 = b.2 then out else insL b out) out) ∧ ∀ t, covB (l.foldl (fun out b => if b.1 = b.2 then out else insL b out) out) t = covB (done ++ l) t
  | [], out, done, h1, _, h5 => ⟨h1, fun t => by rw [List.append_nil]; exact h5 t⟩
  | b :: l, out, done, h1, h4, h5 => by
    have hb := h4 b (by simp)
    have key : Sep (if b.1 = b.2 then out else insL b out) ∧ ∀ t, covB (if b.1 = b.2 then out else insL b out) t = covB (done ++ [b]) t := by
      split
      · next h =>
        refine ⟨h1, fun t => ?_⟩
        rw [covB_append, ← h5 t, covB_no (l := [b]) (fun c h' => by rw [List.mem_singleton.1 h']; omega), Bool.or_false]
      · next h =>
        obtain ⟨p1, p2⟩ := ins_ok out b (by omega) h1
        refine ⟨p1, fun t => ?_⟩
        rw [p2 t, covB_append, ← h5 t, covB_cons, Bool.or_comm]
        simp [covB]
    have h := norm_fold l _ (done ++ [b]) key.1 (fun x hx => h4 x (by simp [hx])) key.2
    rw [List.append_assoc] at h
    exact h

theorem norm_sep {l : List (Int × Int)} (h : ∀ b ∈ l, b.1 ≤ b.2) : Sep (normL l) := (norm_fold l [] [] sep_nil h (fun _ => rfl)).1

theorem norm_cov {l : List (Int × Int)} (h : ∀ b ∈ l, b.1 ≤ b.2) (t : Int) : covB (normL l) t = covB l t := (norm_fold l [] [] sep_nil h (fun _ => rfl)).2 t

/-- any order that rises, joined one by one, is in as few as may be. -/
theorem norm_sorted {l d : List (Int × Int)} (hp : d.Perm l) (ho : d.Pairwise (fun a b => a.1 ≤ b.1)) (h : ∀ b ∈ l, b.1 ≤ b.2) : d.foldl stepL [] = normL l := by
  have hd : ∀ b ∈ d, b.1 ≤ b.2 := fun b hb => h b (hp.mem_iff.1 hb)
  obtain ⟨p1, p2⟩ := fold_ok d [] [] sep_nil (by simp) ho hd (fun _ => rfl)
  exact sep_uniq _ _ p1 (norm_sep h) fun t => by rw [p2 t, List.nil_append, covB_perm hp, norm_cov h]

/-- what is free of a stretch, between those that are in order. -/
def freeL (to_ : Int) : List (Int × Int) → Int → List (Int × Int)
  | [], at_ => if at_ < to_ then [(at_, to_)] else []
  | b :: r, at_ => (if at_ < b.1 ∧ at_ < to_ then [(at_, min b.1 to_)] else []) ++ freeL to_ r (max at_ b.2)

theorem free_lo (to_ : Int) : ∀ (l : List (Int × Int)) (a : Int), ∀ c ∈ freeL to_ l a, a ≤ c.1
  | [], a, c, h => by
    rw [freeL] at h
    split at h
    · rw [List.mem_singleton.1 h]; exact Int.le_refl _
    · simp at h
  | b :: r, a, c, h => by
    rw [freeL, List.mem_append] at h
    rcases h with h | h
    · split at h
      · rw [List.mem_singleton.1 h]; exact Int.le_refl _
      · simp at h
    · have := free_lo to_ r _ c h; omega

theorem free_ok (to_ : Int) : ∀ (l : List (Int × Int)) (a : Int), Sep l → Sep (freeL to_ l a) ∧ ∀ t, covB (freeL to_ l a) t = (decide (a ≤ t) && decide (t < to_) && !covB l t)
  | [], a, _ => by
    rw [freeL]
    split
    · exact ⟨sep_cons.2 ⟨by assumption, by simp, sep_nil⟩, fun t => by simp [covB]⟩
    · refine ⟨sep_nil, fun t => ?_⟩
      rw [Bool.eq_iff_iff]; simp [covB]; omega
  | b :: r, a, h => by
    obtain ⟨s1, s2, s3⟩ := sep_cons.1 h
    obtain ⟨p1, p2⟩ := free_ok to_ r (max a b.2) s3
    have hr : ∀ t, covB r t = true → b.2 < t := fun t ht => by
      obtain ⟨x, hx, h1, h2⟩ := covB_iff.1 ht; have := s2 x hx; omega
    rw [freeL]
    constructor
    · split
      · next hc =>
        rw [List.singleton_append]
        refine sep_cons.2 ⟨by simp only; omega, fun c hc' => ?_, p1⟩
        have := free_lo to_ r _ c hc'; simp only; omega
      · simpa using p1
    · intro t
      rw [covB_append, p2 t, covB_cons]
      have hrt := hr t
      cases hct : covB r t
      · split
        · rw [Bool.eq_iff_iff]; simp [covB]; omega
        · rw [Bool.eq_iff_iff]; simp [covB]; omega
      · have := hrt hct
        split
        · rw [Bool.eq_iff_iff]; simp [covB]; omega
        · rw [Bool.eq_iff_iff]; simp [covB]

/-- all minutes of them. -/
def totL : List (Int × Int) → Int
  | [] => 0
  | b :: r => b.2 - b.1 + totL r

/-- how many of so many, from a on, are so. -/
def cntB (p : Int → Bool) (a : Int) : Nat → Int
  | 0 => 0
  | n + 1 => cntB p a n + if p (a + n) then 1 else 0

theorem cnt_congr {p q : Int → Bool} (a : Int) : ∀ n : Nat, (∀ t, a ≤ t → t < a + n → p t = q t) → cntB p a n = cntB q a n
  | 0, _ => rfl
  | n + 1, h => by rw [cntB, cntB, cnt_congr a n (fun t h1 h2 => h t h1 (by omega)), h (a + n) (by omega) (by omega)]

theorem cnt_or {p q : Int → Bool} (a : Int) : ∀ n : Nat, (∀ t, ¬ (p t = true ∧ q t = true)) → cntB (fun t => p t || q t) a n = cntB p a n + cntB q a n
  | 0, _ => rfl
  | n + 1, h => by
    rw [cntB, cntB, cntB, cnt_or a n h]
    have := h (a + n)
    cases hp : p (a + n) <;> cases hq : q (a + n) <;> simp [hp, hq] at this ⊢ <;> omega

theorem cnt_not (p : Int → Bool) (a : Int) : ∀ n : Nat, cntB p a n + cntB (fun t => !p t) a n = n
  | 0 => rfl
  | n + 1 => by
    have := cnt_not p a n
    rw [cntB, cntB]
    cases hp : p (a + n) <;> simp [hp] <;> omega

theorem cnt_mono {p q : Int → Bool} (a : Int) : ∀ n : Nat, (∀ t, p t = true → q t = true) → cntB p a n ≤ cntB q a n
  | 0, _ => Int.le_refl _
  | n + 1, h => by
    have h1 := cnt_mono a n h
    have h2 := h (a + n)
    rw [cntB, cntB]
    cases hp : p (a + n) <;> cases hq : q (a + n) <;> simp [hp, hq] at h2 ⊢ <;> omega

theorem cnt_none {p : Int → Bool} (a : Int) : ∀ n : Nat, (∀ t, a ≤ t → t < a + n → p t = false) → cntB p a n = 0
  | 0, _ => rfl
  | n + 1, h => by rw [cntB, cnt_none a n (fun t h1 h2 => h t h1 (by omega)), h (a + n) (by omega) (by omega)]; rfl

theorem cnt_one (x y a : Int) (hx : a ≤ x) (hxy : x ≤ y) : ∀ n : Nat, cntB (fun t => decide (x ≤ t) && decide (t < y)) a n = max 0 (min y (a + n) - x)
  | 0 => by rw [cntB]; omega
  | n + 1 => by
    rw [cntB, cnt_one x y a hx hxy n]
    by_cases h : x ≤ a + n ∧ a + n < y
    · rw [if_pos (by simp; omega)]; omega
    · rw [if_neg (by simp; omega)]; omega

/-- all minutes are just so many. -/
theorem tot_cnt (a : Int) (n : Nat) : ∀ l : List (Int × Int), Sep l → (∀ b ∈ l, a ≤ b.1 ∧ b.2 ≤ a + n) → totL l = cntB (covB l) a n
  | [], _, _ => by rw [totL]; exact (cnt_none (p := covB []) a n (fun _ _ _ => rfl)).symm
  | b :: r, h, hin => by
    obtain ⟨s1, s2, s3⟩ := sep_cons.1 h
    have hb := hin b (by simp)
    rw [totL, tot_cnt a n r s3 (fun c hc => hin c (by simp [hc]))]
    have e : cntB (covB (b :: r)) a n = cntB (fun t => (decide (b.1 ≤ t) && decide (t < b.2)) || covB r t) a n := cnt_congr a n fun t _ _ => covB_cons b r t
    rw [e, cnt_or a n (fun t ⟨h1, h2⟩ => by
      obtain ⟨x, hx, h3, h4⟩ := covB_iff.1 h2
      have := s2 x hx
      simp at h1; omega), cnt_one b.1 b.2 a hb.1 (by omega) n]
    omega

theorem sep_tot : ∀ l : List (Int × Int), Sep l → 0 ≤ totL l
  | [], _ => Int.le_refl _
  | b :: r, h => by
    obtain ⟨s1, _, s3⟩ := sep_cons.1 h
    have := sep_tot r s3
    rw [totL]; omega

/-- the ends of what is in as few as may be are ends of what came in. -/
theorem norm_in {l : List (Int × Int)} {lo hi : Int} (h : ∀ b ∈ l, b.1 ≤ b.2) (hin : ∀ b ∈ l, lo ≤ b.1 ∧ b.2 ≤ hi) : ∀ b ∈ normL l, lo ≤ b.1 ∧ b.2 ≤ hi := by
  intro b hb
  have hs := norm_sep h
  have h1 := hs.1 b hb
  have c1 : covB (normL l) b.1 = true := covB_iff.2 ⟨b, hb, Int.le_refl _, h1⟩
  have c2 : covB (normL l) (b.2 - 1) = true := covB_iff.2 ⟨b, hb, by omega, by omega⟩
  rw [norm_cov h] at c1 c2
  obtain ⟨x, hx, x1, x2⟩ := covB_iff.1 c1
  obtain ⟨y, hy, y1, y2⟩ := covB_iff.1 c2
  have := hin x hx; have := hin y hy
  omega

theorem insL_len : ∀ (l : List (Int × Int)) (b : Int × Int), (insL b l).length ≤ l.length + 1
  | [], b => by simp [insL]
  | o :: r, b => by
    rw [insL]
    split
    · have := insL_len r b; simp; omega
    · split
      · simp
      · have := insL_len r (min o.1 b.1, max o.2 b.2); simp; omega

theorem normF_len : ∀ (l out : List (Int × Int)), (l.foldl (fun out b => if b.1 = b.2 then out else insL b out) out).length ≤ out.length + l.length
  | [], out => by simp
  | b :: l, out => by
    rw [List.foldl_cons]
    have h := normF_len l (if b.1 = b.2 then out else insL b out)
    have : (if b.1 = b.2 then out else insL b out).length ≤ out.length + 1 := by
      split
      · omega
      · exact insL_len out b
    simp only [List.length_cons]; omega

theorem norm_len (l : List (Int × Int)) : (normL l).length ≤ l.length := by have := normF_len l []; simpa [normL] using this

end Go.Proofs.YtdkcgggnkhbkkaaDoor
