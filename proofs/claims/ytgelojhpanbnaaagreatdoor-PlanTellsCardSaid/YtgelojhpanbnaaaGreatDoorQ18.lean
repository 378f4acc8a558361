/- Texts joined into one (a claim has at most 60 files): Plain laws of what is taken: lists of stretches, in as few as may be, what is free between them; Contracts of busy.Of and what it calls: the order, the sort, the clone; busy.Check, busy.stretch; Contracts of busy.Check, Norm, Total, stretch, free, Free; Plain laws of what is taken and free together; a literal of stretches as a list; Contracts of busy.first, busy.Slot, chimelaw2.within; What plan says of lists of times, plainly; Times of lists, one behind the other; what they take; What plan.Meet finds, plainly: at a time that is free for all none is on its way; A slice that is written out, of one or two structs: where it lies. -/
import Derived.WalkKit
import Derived.Test.YtgelojhpanbnaaaGreatDoorQ08
import Derived.Test.YtgelojhpanbnaaaGreatDoorShBusy
import Derived.Test.YtgelojhpanbnaaaGreatDoorQ06
import Derived.Deep.RegionHeld3
import Derived.Deep.AppendLies
import Derived.Deep.LoopGhost
import Derived.Deep.DeepCutAuto
import Derived.Laws.OwnMore
import Derived.RegionTactic
import Derived.ChangeAlike
import Derived.Outline
import Derived.Test.YtgelojhpanbnaaaGreatDoorQ14
import Derived.Test.YtgelojhpanbnaaaGreatDoorQ16
import Derived.Test.YtgelojhpanbnaaaGreatDoorQ01
import Derived.Test.YtgelojhpanbnaaaGreatDoorQ05
namespace Go.Proofs.YtgelojhpanbnaaaGreatDoor
set_option linter.unusedSimpArgs false
set_option linter.unusedVariables false

def covB (l : List (Int × Int)) (t : Int) : Bool := l.any fun b => decide (b.1 ≤ t) && decide (t < b.2)

def Sep (l : List (Int × Int)) : Prop := (∀ b ∈ l, b.1 < b.2) ∧ l.Pairwise (fun a b => a.2 < b.1)

theorem sep_nil : Sep [] := ⟨by simp, List.Pairwise.nil⟩

theorem sep_cons {b : Int × Int} {r : List (Int × Int)} : Sep (b :: r) ↔ b.1 < b.2 ∧ (∀ c ∈ r, b.2 < c.1) ∧ Sep r := by
  simp only [Sep, List.pairwise_cons, List.mem_cons, forall_eq_or_imp]
  constructor
  · rintro ⟨⟨h1, h2⟩, h3, h4⟩; exact ⟨h1, h3, h2, h4⟩
  · rintro ⟨h1, h3, h2, h4⟩; exact ⟨⟨h1, h2⟩, h3, h4⟩

theorem covB_cons (b : Int × Int) (r : List (Int × Int)) (t : Int) : covB (b :: r) t = ((decide (b.1 ≤ t) && decide (t < b.2)) || covB r t) := rfl

theorem covB_append (l r : List (Int × Int)) (t : Int) : covB (l ++ r) t = (covB l t || covB r t) := by simp [covB]

theorem covB_iff {l : List (Int × Int)} {t : Int} : covB l t = true ↔ ∃ b ∈ l, b.1 ≤ t ∧ t < b.2 := by simp [covB]

theorem covB_no {l : List (Int × Int)} {t : Int} (h : ∀ c ∈ l, t < c.1 ∨ c.2 ≤ t) : covB l t = false := by
  rw [Bool.eq_false_iff]; intro hc
  obtain ⟨b, hb, h1, h2⟩ := covB_iff.1 hc
  have := h b hb; omega

theorem covB_perm {l r : List (Int × Int)} (h : l.Perm r) (t : Int) : covB l t = covB r t := by
  rw [Bool.eq_iff_iff, covB_iff, covB_iff]
  exact ⟨fun ⟨b, hb, h1⟩ => ⟨b, h.mem_iff.1 hb, h1⟩, fun ⟨b, hb, h1⟩ => ⟨b, h.mem_iff.2 hb, h1⟩⟩

theorem sep_uniq : ∀ (l m : List (Int × Int)), Sep l → Sep m → (∀ t, covB l t = covB m t) → l = m
  | [], [], _, _, _ => rfl
  | [], c :: m, _, hm, h => by
    have h1 := (sep_cons.1 hm).1
    have h2 := h c.1
    rw [covB_cons] at h2
    simp [covB] at h2
    omega
  | b :: l, [], hl, _, h => by
    have h1 := (sep_cons.1 hl).1
    have h2 := h b.1
    rw [covB_cons] at h2
    simp [covB] at h2
    omega
  | (a, b) :: l, (c, d) :: m, hl, hm, h => by
    obtain ⟨l1, l2, l3⟩ := sep_cons.1 hl
    obtain ⟨m1, m2, m3⟩ := sep_cons.1 hm
    simp only at l1 l2 m1 m2
    have lo : ∀ t, covB l t = true → b < t := fun t ht => by
      obtain ⟨x, hx, h1, h2⟩ := covB_iff.1 ht; have := l2 x hx; omega
    have mo : ∀ t, covB m t = true → d < t := fun t ht => by
      obtain ⟨x, hx, h1, h2⟩ := covB_iff.1 ht; have := m2 x hx; omega
    have key : ∀ t, (a ≤ t ∧ t < b) ∨ covB l t = true ↔ (c ≤ t ∧ t < d) ∨ covB m t = true := by
      intro t
      have := h t
      rw [covB_cons, covB_cons, Bool.eq_iff_iff] at this
      simpa using this
    have e1 : a = c := by
      have p := (key a).1 (.inl ⟨Int.le_refl _, l1⟩)
      have q := (key c).2 (.inl ⟨Int.le_refl _, m1⟩)
      rcases p with p | p
      · rcases q with q | q
        · omega
        · have := lo _ q; omega
      · have := mo _ p
        rcases q with q | q
        · omega
        · have := lo _ q; omega
    subst e1
    have e2 : b = d := by
      have p := fun h' => (key b).2 h'
      have q := fun h' => (key d).1 h'
      rcases Int.lt_trichotomy b d with h1 | h1 | h1
      · rcases p (.inl ⟨by omega, h1⟩) with p | p
        · omega
        · have := lo _ p; omega
      · exact h1
      · rcases q (.inl ⟨by omega, h1⟩) with q | q
        · omega
        · have := mo _ q; omega
    subst e2
    rw [sep_uniq l m l3 m3 fun t => by
      rw [Bool.eq_iff_iff]
      constructor
      · intro ht
        rcases (key t).1 (.inr ht) with p | p
        · have := lo t ht; omega
        · exact p
      · intro ht
        rcases (key t).2 (.inr ht) with p | p
        · have := mo t ht; omega
        · exact p]

def stepL (out : List (Int × Int)) (b : Int × Int) : List (Int × Int) :=
  if b.1 = b.2 then out
  else match out.getLast? with
    | none => [b]
    | some k => if b.1 ≤ k.2 then out.dropLast ++ [(k.1, max k.2 b.2)] else out ++ [b]

theorem getLast_split {α : Type} {l : List α} {k : α} (h : l.getLast? = some k) : l = l.dropLast ++ [k] := by
  have hne : l ≠ [] := by rintro rfl; simp at h
  rw [List.getLast?_eq_some_getLast hne] at h
  have h2 := List.dropLast_concat_getLast hne
  injection h with h
  rw [h] at h2; exact h2.symm

theorem sep_snoc {l : List (Int × Int)} {b : Int × Int} : Sep (l ++ [b]) ↔ Sep l ∧ b.1 < b.2 ∧ ∀ c ∈ l, c.2 < b.1 := by
  simp only [Sep, List.pairwise_append, List.mem_append, List.mem_singleton]
  constructor
  · rintro ⟨h1, h2, _, h3⟩; exact ⟨⟨fun x hx => h1 x (.inl hx), h2⟩, h1 b (.inr rfl), fun c hc => h3 c hc b rfl⟩
  · rintro ⟨⟨h1, h2⟩, h3, h4⟩
    exact ⟨fun x hx => hx.elim (h1 x) (fun e => by rw [e]; exact h3), h2, List.pairwise_singleton _ _, fun c hc x hx => by rw [hx]; exact h4 c hc⟩

theorem step_ok {out done : List (Int × Int)} {b : Int × Int} (hs : Sep out) (hf : ∀ c ∈ out, c.1 ≤ b.1) (hb : b.1 ≤ b.2) (hc : ∀ t, covB out t = covB done t) :
    Sep (stepL out b) ∧ (∀ x : Int, b.1 ≤ x → ∀ c ∈ stepL out b, c.1 ≤ x) ∧ ∀ t, covB (stepL out b) t = covB (done ++ [b]) t := by
  unfold stepL
  by_cases he : b.1 = b.2
  · rw [if_pos he]
    refine ⟨hs, fun x hx c h => by have := hf c h; omega, fun t => ?_⟩
    rw [covB_append, ← hc t, covB_no (l := [b]) (fun c h => by rw [List.mem_singleton.1 h]; omega), Bool.or_false]
  · rw [if_neg he]
    cases hl : out.getLast? with
    | none =>
      have : out = [] := by simpa using hl
      subst this
      refine ⟨sep_cons.2 ⟨by omega, by simp, sep_nil⟩, fun x hx c h => by rw [List.mem_singleton.1 h]; exact hx, fun t => ?_⟩
      rw [covB_append, ← hc t]; rfl
    | some k =>
      have hk := getLast_split hl
      obtain ⟨o, ho⟩ : ∃ o, o = out.dropLast := ⟨_, rfl⟩
      rw [← ho] at hk ⊢
      subst hk
      obtain ⟨s1, s2, s3⟩ := sep_snoc.1 hs
      have hfk := hf k (by simp)
      by_cases h1 : b.1 ≤ k.2
      · simp only [if_pos h1]
        refine ⟨sep_snoc.2 ⟨s1, by simp only; omega, s3⟩, fun x hx c h => ?_, fun t => ?_⟩
        · rcases List.mem_append.1 h with h | h
          · have := hf c (List.mem_append.2 (.inl h)); omega
          · rw [List.mem_singleton.1 h]; simp only; omega
        · rw [covB_append, covB_append, ← hc t, covB_append, Bool.or_assoc]
          congr 1
          rw [Bool.eq_iff_iff]
          simp [covB]
          omega
      · simp only [if_neg h1]
        refine ⟨sep_snoc.2 ⟨hs, by omega, fun c h => ?_⟩, fun x hx c h => ?_, fun t => ?_⟩
        · rcases List.mem_append.1 h with h | h
          · have := s3 c h; omega
          · rw [List.mem_singleton.1 h]; omega
        · rcases List.mem_append.1 h with h | h
          · have := hf c h; omega
          · rw [List.mem_singleton.1 h]; exact hx
        · rw [covB_append, hc t, covB_append]

theorem fold_ok : ∀ (l out done : List (Int × Int)), Sep out → (∀ c ∈ out, ∀ b ∈ l, c.1 ≤ b.1) → l.Pairwise (fun a b => a.1 ≤ b.1) → (∀ b ∈ l, b.1 ≤ b.2) → (∀ t, covB out t = covB done t) →
    Sep (l.foldl stepL out) ∧ ∀ t, covB (l.foldl stepL out) t = covB (done ++ l) t
  | [], out, done, h1, _, _, _, h5 => ⟨h1, fun t => by rw [List.append_nil]; exact h5 t⟩
  | b :: l, out, done, h1, h2, h3, h4, h5 => by
    obtain ⟨p1, p2⟩ := List.pairwise_cons.1 h3
    obtain ⟨q1, q2, q3⟩ := step_ok h1 (fun c hc => h2 c hc b (by simp)) (h4 b (by simp)) h5
    have h := fold_ok l (stepL out b) (done ++ [b]) q1 (fun c hc x hx => q2 x.1 (p1 x hx) c hc) p2 (fun x hx => h4 x (by simp [hx])) q3
    rw [List.append_assoc] at h
    exact h

def insL (b : Int × Int) : List (Int × Int) → List (Int × Int)
  | [] => [b]
  | o :: r => if o.2 < b.1 then o :: insL b r else if b.2 < o.1 then b :: o :: r else insL (min o.1 b.1, max o.2 b.2) r

theorem ins_lo (x : Int) : ∀ (l : List (Int × Int)) (b : Int × Int), x < b.1 → (∀ c ∈ l, x < c.1) → ∀ c ∈ insL b l, x < c.1
  | [], b, h1, _, c, h => by rw [insL, List.mem_singleton] at h; rw [h]; exact h1
  | o :: r, b, h1, h2, c, h => by
    rw [insL] at h
    have ho := h2 o (by simp)
    split at h
    · rcases List.mem_cons.1 h with h | h
      · rw [h]; exact ho
      · exact ins_lo x r b h1 (fun c hc => h2 c (by simp [hc])) c h
    · split at h
      · rcases List.mem_cons.1 h with h | h
        · rw [h]; exact h1
        · exact h2 c h
      · exact ins_lo x r _ (by simp only; omega) (fun c hc => h2 c (by simp [hc])) c h

theorem ins_ok : ∀ (l : List (Int × Int)) (b : Int × Int), b.1 < b.2 → Sep l → Sep (insL b l) ∧ ∀ t, covB (insL b l) t = covB (b :: l) t
  | [], b, h1, _ => ⟨sep_cons.2 ⟨h1, by simp, sep_nil⟩, fun _ => rfl⟩
  | o :: r, b, h1, h2 => by
    obtain ⟨s1, s2, s3⟩ := sep_cons.1 h2
    rw [insL]
    split
    · next h =>
      obtain ⟨p1, p2⟩ := ins_ok r b h1 s3
      refine ⟨sep_cons.2 ⟨s1, ins_lo o.2 r b h s2, p1⟩, fun t => ?_⟩
      rw [covB_cons, p2 t, covB_cons, covB_cons, covB_cons, ← Bool.or_assoc, ← Bool.or_assoc, Bool.or_comm (decide (o.1 ≤ t) && decide (t < o.2))]
    · next h =>
      split
      · next h' =>
        exact ⟨sep_cons.2 ⟨h1, fun c hc => by rcases List.mem_cons.1 hc with hc | hc; · rw [hc]; exact h'
                                              · have := s2 c hc; omega, h2⟩, fun _ => rfl⟩
      · next h' =>
        obtain ⟨p1, p2⟩ := ins_ok r (min o.1 b.1, max o.2 b.2) (by simp only; omega) s3
        refine ⟨p1, fun t => ?_⟩
        rw [p2 t, covB_cons, covB_cons, covB_cons, ← Bool.or_assoc]
        congr 1
        rw [Bool.eq_iff_iff]
        simp
        omega

def normL (l : List (Int × Int)) : List (Int × Int) := l.foldl (fun out b => if b.1 = b.2 then out else insL b out) []

theorem norm_fold : ∀ (l out done : List (Int × Int)), Sep out → (∀ b ∈ l, b.1 ≤ b.2) → (∀ t, covB out t = covB done t) →
    Sep (l.foldl (fun out b => if b.1 = b.2 then out else insL b out) out) ∧ ∀ t, covB (l.foldl (fun out b => if b.1 = b.2 then out else insL b out) out) t = covB (done ++ l) t
  | [], out, done, h1, _, h5 => ⟨h1, fun t => by rw [List.append_nil]; exact h5 t⟩
  | b :: l, out, done, h1, h4, h5 => by
    have hb := h4 b (by simp)
    have key : Sep (if b.1 = b.2 then out else insL b out) ∧ ∀ t, covB (if b.1 = b.2 then out else insL b out) t = covB (done ++ [b]) t := by
      split
      · next h =>
        refine ⟨h1, fun t => ?_⟩
        rw [covB_append, ← h5 t, covB_no (l := [b]) (fun c h' => by rw [List.mem_singleton.1 h']; omega), Bool.or_false]
      · next h =>
        obtain ⟨p1, p2⟩ := ins_ok out b (by omega) h1
        refine ⟨p1, fun t => ?_⟩
        rw [p2 t, covB_append, ← h5 t, covB_cons, Bool.or_comm]
        simp [covB]
    have h := norm_fold l _ (done ++ [b]) key.1 (fun x hx => h4 x (by simp [hx])) key.2
    rw [List.append_assoc] at h
    exact h

theorem norm_sep {l : List (Int × Int)} (h : ∀ b ∈ l, b.1 ≤ b.2) : Sep (normL l) := (norm_fold l [] [] sep_nil h (fun _ => rfl)).1

theorem norm_cov {l : List (Int × Int)} (h : ∀ b ∈ l, b.1 ≤ b.2) (t : Int) : covB (normL l) t = covB l t := (norm_fold l [] [] sep_nil h (fun _ => rfl)).2 t

theorem norm_sorted {l d : List (Int × Int)} (hp : d.Perm l) (ho : d.Pairwise (fun a b => a.1 ≤ b.1)) (h : ∀ b ∈ l, b.1 ≤ b.2) : d.foldl stepL [] = normL l := by
  have hd : ∀ b ∈ d, b.1 ≤ b.2 := fun b hb => h b (hp.mem_iff.1 hb)
  obtain ⟨p1, p2⟩ := fold_ok d [] [] sep_nil (by simp) ho hd (fun _ => rfl)
  exact sep_uniq _ _ p1 (norm_sep h) fun t => by rw [p2 t, List.nil_append, covB_perm hp, norm_cov h]

def freeL (to_ : Int) : List (Int × Int) → Int → List (Int × Int)
  | [], at_ => if at_ < to_ then [(at_, to_)] else []
  | b :: r, at_ => (if at_ < b.1 ∧ at_ < to_ then [(at_, min b.1 to_)] else []) ++ freeL to_ r (max at_ b.2)

theorem free_lo (to_ : Int) : ∀ (l : List (Int × Int)) (a : Int), ∀ c ∈ freeL to_ l a, a ≤ c.1
  | [], a, c, h => by
    rw [freeL] at h
    split at h
    · rw [List.mem_singleton.1 h]; exact Int.le_refl _
    · simp at h
  | b :: r, a, c, h => by
    rw [freeL, List.mem_append] at h
    rcases h with h | h
    · split at h
      · rw [List.mem_singleton.1 h]; exact Int.le_refl _
      · simp at h
    · have := free_lo to_ r _ c h; omega

theorem free_ok (to_ : Int) : ∀ (l : List (Int × Int)) (a : Int), Sep l → Sep (freeL to_ l a) ∧ ∀ t, covB (freeL to_ l a) t = (decide (a ≤ t) && decide (t < to_) && !covB l t)
  | [], a, _ => by
    rw [freeL]
    split
    · exact ⟨sep_cons.2 ⟨by assumption, by simp, sep_nil⟩, fun t => by simp [covB]⟩
    · refine ⟨sep_nil, fun t => ?_⟩
      rw [Bool.eq_iff_iff]; simp [covB]; omega
  | b :: r, a, h => by
    obtain ⟨s1, s2, s3⟩ := sep_cons.1 h
    obtain ⟨p1, p2⟩ := free_ok to_ r (max a b.2) s3
    have hr : ∀ t, covB r t = true → b.2 < t := fun t ht => by
      obtain ⟨x, hx, h1, h2⟩ := covB_iff.1 ht; have := s2 x hx; omega
    rw [freeL]
    constructor
    · split
      · next hc =>
        rw [List.singleton_append]
        refine sep_cons.2 ⟨by simp only; omega, fun c hc' => ?_, p1⟩
        have := free_lo to_ r _ c hc'; simp only; omega
      · simpa using p1
    · intro t
      rw [covB_append, p2 t, covB_cons]
      have hrt := hr t
      cases hct : covB r t
      · split
        · rw [Bool.eq_iff_iff]; simp [covB]; omega
        · rw [Bool.eq_iff_iff]; simp [covB]; omega
      · have := hrt hct
        split
        · rw [Bool.eq_iff_iff]; simp [covB]; omega
        · rw [Bool.eq_iff_iff]; simp [covB]

theorem insL_len : ∀ (l : List (Int × Int)) (b : Int × Int), (insL b l).length ≤ l.length + 1
  | [], b => by simp [insL]
  | o :: r, b => by
    rw [insL]
    split
    · have := insL_len r b; simp; omega
    · split
      · simp
      · have := insL_len r (min o.1 b.1, max o.2 b.2); simp; omega

theorem normF_len : ∀ (l out : List (Int × Int)), (l.foldl (fun out b => if b.1 = b.2 then out else insL b out) out).length ≤ out.length + l.length
  | [], out => by simp
  | b :: l, out => by
    rw [List.foldl_cons]
    have h := normF_len l (if b.1 = b.2 then out else insL b out)
    have : (if b.1 = b.2 then out else insL b out).length ≤ out.length + 1 := by
      split
      · omega
      · exact insL_len out b
    simp only [List.length_cons]; omega

theorem norm_len (l : List (Int × Int)) : (normL l).length ≤ l.length := by have := normF_len l []; simpa [normL] using this

end Go.Proofs.YtgelojhpanbnaaaGreatDoor

namespace Go.Proofs.YtgelojhpanbnaaaGreatDoor
open Go.RowKit Go.Sort
set_option linter.unusedSimpArgs false
set_option linter.unusedVariables false

def encB (x : Int × Int) : List Value := [.int .i64 x.1, .int .i64 x.2]

def busyC (x y : Int × Int) : Int := orQ [cmpQ x.1 y.1, cmpQ x.2 y.2]

theorem grow_end3 (w : World) (a b c : Obj) : ∃ q os, ((((w.alloc a).alloc b).alloc c).drew) = grow (w.drewN q) os :=
  ⟨1, #[a, b, c], by rw [alloc_eq_grow, alloc_eq_grow, alloc_eq_grow, grow_grow, grow_grow]; rfl⟩

set_option maxHeartbeats 1000000 in
theorem busyC_any (x y : Int × Int) (w : World) :
    Calls Tryz.prog 180 #[.agg #[.int .i64 x.1, .int .i64 x.2], .agg #[.int .i64 y.1, .int .i64 y.2]] w fun e w' => e = .returned (.int .i64 (busyC x y)) ∧ ∃ q os, w' = grow (w.drewN q) os := by
  obtain ⟨r, hr⟩ : ∃ r, r = busyC x y := ⟨_, rfl⟩
  have R := Lib.hid (show orQ [cmpQ x.1 y.1, cmpQ x.2 y.2] = r by rw [hr]; rfl)
  rw [← hr]
  clear hr
  obtain ⟨x1, x2⟩ := x
  obtain ⟨y1, y2⟩ := y
  simp only at R ⊢
  go_enter Tryz.func180, Tryz.ntmps180
  go_wp2_with fail
  obtain ⟨w0, hw0⟩ : ∃ w0, w0 = (w.alloc (.cells #[.int .i64 x1, .int .i64 x2] 177)).alloc (.cells #[.int .i64 y1, .int .i64 y2] 177) := ⟨_, rfl⟩
  rw [← hw0]
  have c0 : w0.cell? ⟨w.heap.size, 0, none⟩ = some (.int .i64 x1) := by rw [hw0]; simp
  have c1 : w0.cell? ⟨w.heap.size, 1, none⟩ = some (.int .i64 x2) := by rw [hw0]; simp
  have d0 : w0.cell? ⟨w.heap.size + 1, 0, none⟩ = some (.int .i64 y1) := by rw [hw0]; simp
  have d1 : w0.cell? ⟨w.heap.size + 1, 1, none⟩ = some (.int .i64 y2) := by rw [hw0]; simp
  have W0 := Lib.hid hw0
  clear hw0
  go_region_held3 (fun w' => w'.cell? ⟨w.heap.size, 0, none⟩ = some (.int .i64 x1) ∧ w'.cell? ⟨w.heap.size, 1, none⟩ = some (.int .i64 x2) ∧ w'.cell? ⟨w.heap.size + 1, 0, none⟩ = some (.int .i64 y1) ∧ w'.cell? ⟨w.heap.size + 1, 1, none⟩ = some (.int .i64 y2))
    (go_keep)
    (first
      | (go_at_call 101; refine (cmpq_any _ _ _).mono ?_; rintro e w' ⟨rfl, rfl⟩)
      | (go_at_call 100; refine (orq_any _ [cmpQ x1 y1, cmpQ x2 y2] _ ⟨_, 2, rfl, by simp, by simp, by decide, fun _ => ⟨_, 0, rfl, fun j u hj => by match j, hj with | 0, hj => (simp at hj; subst hj; simp) | 1, hj => (simp at hj; subst hj; simp)⟩⟩).mono ?_; rintro e w' ⟨rfl, rfl⟩))
  all_goals
    go_wp2
    go_ret
    exact ⟨by rw [← R.out]; rfl, by rw [W0.out]; first | exact grow_end3 w _ _ _ | exact ⟨1, #[_, _, _], by rw [alloc_eq_grow, alloc_eq_grow, alloc_eq_grow, grow_grow, drew_grow]; rfl⟩⟩

theorem busyC_lt (x y : Int × Int) : busyC x y < 0 ↔ (x.1 < y.1 ∨ (x.1 = y.1 ∧ x.2 < y.2)) := by
  unfold busyC orQ cmpQ
  by_cases h1 : x.1 < y.1
  · simp [h1]
  · by_cases h2 : y.1 < x.1
    · simp [h1, h2]; omega
    · by_cases h3 : x.2 < y.2
      · simp [h1, h2, h3]; omega
      · by_cases h4 : y.2 < x.2
        · simp [h1, h2, h3, h4]
        · simp [h1, h2, h3, h4]

theorem busyLt (x y : Int × Int) : ltOf busyC x y = true ↔ (x.1 < y.1 ∨ (x.1 = y.1 ∧ x.2 < y.2)) := by
  rw [ltOf, decide_eq_true_eq, busyC_lt]

theorem busyLt_no (x y : Int × Int) : ltOf busyC x y = false ↔ (y.1 < x.1 ∨ (x.1 = y.1 ∧ y.2 ≤ x.2)) := by
  rw [ltOf, decide_eq_false_iff_not, busyC_lt]; omega

theorem busySWO : SWO (ltOf busyC) where
  irrefl x := by rw [busyLt_no]; omega
  trans x y z h1 h2 := by rw [busyLt] at *; omega
  ntrans x y z h1 h2 := by rw [busyLt_no] at *; omega

theorem busyTot (x y : Int × Int) (h1 : ltOf busyC x y = false) (h2 : ltOf busyC y x = false) : x = y := by
  rw [busyLt_no] at h1 h2
  exact Prod.ext (by omega) (by omega)

def srtB (L : List (Int × Int)) : List (Int × Int) := L.mergeSort fun x y => !(ltOf busyC) y x

theorem srtB_len (L : List (Int × Int)) : (srtB L).length = L.length := List.length_mergeSort L

theorem srtB_perm (L : List (Int × Int)) : (srtB L).Perm L := List.mergeSort_perm L _

theorem srtB_ord (L : List (Int × Int)) : (srtB L).Pairwise (fun a b => a.1 ≤ b.1) := by
  have h := List.pairwise_mergeSort (le := fun x y => !(ltOf busyC) y x) (fun a b c h1 h2 => by
    simp only [Bool.not_eq_true', busyLt_no] at *; omega) (fun a b => by
    simp only [Bool.or_eq_true, Bool.not_eq_true', busyLt_no]; omega) L
  exact h.imp fun {a b} h => by simp only [Bool.not_eq_true', busyLt_no] at h; omega

theorem sortB_any {base : Nat} (v : Value) (L : List (Int × Int)) (w : World) (hown : w.ownsRow base 177 2 v L.length (pairsV L)) (hne : L ≠ []) (hlen : L.length < 4611686018427387904) :
    Calls Tryz.prog 179 #[v, .func (.func 180) #[] #[]] w fun e w' => e = .returned (.tuple #[]) ∧ w'.ownsRow base 177 2 v L.length (pairsV (srtB L)) ∧ w.grownBy w' v.ownBlock := by
  have hk : ∀ x : Int × Int, (encB x).length = 2 := fun _ => rfl
  rcases hown.2 with ⟨rfl, h0⟩ | ⟨g, cap, cur, rfl, hb, hg, hn, hc, hs, ht⟩
  · exact absurd (List.length_eq_zero_iff.1 h0) hne
  · have hgl : g < w.heap.size := (Array.getElem?_eq_some_iff.1 hg).1
    have hH : HoldsK encB 2 w g 0 L.toArray := holdsK_own hk L hg ht
    have eg : ∀ args w, (callFunc 180 args).run Tryz.prog w = .ok (.enter 180 args) w := enters_of Tryz.func180 (by kernel_rfl) rfl
    have hcmp : CmpLays Tryz.prog 180 #[] encB 2 busyC g 0 L.toArray.size w := fun _ _ _ _ x y => busyC_any x y _
    have h := AnyQ.slices_SortFunc_total Tryz.sortBusy 2 Tryz.isAgg177 Tryz.sizeOf177 encB hk (fun x u hu => by simp [encB] at hu; rcases hu with rfl | rfl <;> rfl) busyC busySWO 180 #[] g 0 cap L.toArray w eg hcmp hH hgl (by simpa using hlen) busyTot
    change Calls Tryz.prog 179 _ _ _ at h
    refine h.mono ?_
    rintro e w' ⟨rfl, n, os, rfl⟩
    exact ⟨rfl, ownsRow_sortedK hk (srtB L) (srtB_len L) hb hg hn hc hs, grownBy_putId _⟩

theorem sortB_none (p : Option Addr) (cap : Nat) (fv : Value) (w : World) :
    Calls Tryz.prog 179 #[.slice p 0 cap, fv] w fun e w' => e = .returned (.tuple #[]) ∧ w = w' :=
  (show Calls Tryz.prog 179 _ _ _ from AnyF.slices_SortFunc_none Tryz.sortBusy p cap fv w).mono fun e w' ⟨h1, h2⟩ => ⟨h1, h2.symm⟩

theorem busyInfo : (Tryz.prog.info? 177).map (fun i => (i.zero, i.size, i.bytes)) = some (some (.agg #[.int .i64 0, .int .i64 0]), 2, 16) := by kernel_rfl

theorem cloneB_some (v : Value) (L : List (Int × Int)) (w : World) (hL : PairsR w v L) (hne : L ≠ []) (hlen : L.length ≤ 100000) :
    Calls Tryz.prog 178 #[v] w fun e w' => ∃ u, e = .returned u ∧ w'.ownsRow w.heap.size 177 2 u L.length (pairsV L) ∧ Below w.heap.size w w' := by
  obtain ⟨i0, hi, hz0, hz1, hz2⟩ := info_parts busyInfo
  obtain ⟨a, cap, rfl, hl, hn, hm, hc⟩ := hL
  have hp := List.length_pos_iff.2 hne
  obtain ⟨b, off, rfl, hcs⟩ := hc hp
  have h := AnyE.slices_Clone Tryz.cloneBusy i0 _ 2 16 hi hz0 hz1 hz2 rfl (by decide) Tryz.sizeOf177 b off L.length cap (pairsV L) w hl (by unfold maxLen; omega) (by omega) hcs (fun u hu => by
    simp only [pairsV, List.mem_flatMap] at hu
    obtain ⟨p, _, hu⟩ := hu
    simp at hu; rcases hu with rfl | rfl <;> rfl)
  change Calls Tryz.prog 178 _ _ _ at h
  exact h.mono fun e w' ⟨u, h1, h2, _, h4⟩ => ⟨u, h1, h2, h4⟩

set_option maxRecDepth 100000 in
theorem cloneB_none (a : Option Addr) (cap : Nat) (w : World) :
    Calls Tryz.prog 178 #[.slice a 0 cap] w fun e w' => ∃ p c, e = .returned (.slice p 0 c) ∧ Below w.heap.size w w' := by
  cases a with
  | none =>
    have h := AnyE.slices_Clone_nil Tryz.cloneBusy 0 cap w
    change Calls Tryz.prog 178 _ _ _ at h
    exact h.mono fun e w' ⟨h1, h2⟩ => ⟨none, 0, h1, by rw [h2]; exact Below.refl _ _⟩
  | some a =>
    have q := fun w => Lib.run_eql_slice_nil (P := Tryz.prog) w 89 _ (some a) 0 cap 0 0 Tryz.underlying89
    go_enter Tryz.func178, Tryz.ntmps178
    go_wp2
    go_ret
    exact ⟨_, _, rfl, by first | exact Below.refl _ _ | exact (Below.refl _ _).alloc (Nat.le_refl _) _⟩

theorem pairsV_set (L : List (Int × Int)) : ∀ (i : Nat) (h : i < L.length) (u : Int), (pairsV L).set (i * 2 + 1) (.int .i64 u) = pairsV (L.set i (L[i].1, u)) := by
  induction L with
  | nil => intro i h; simp at h
  | cons p r ih =>
    intro i h u
    cases i with
    | zero => simp [pairsV]
    | succ i =>
      have := ih i (by simpa using h) u
      simp only [pairsV, List.flatMap_cons, List.cons_append, List.nil_append, List.getElem_cons_succ, List.set_cons_succ] at *
      rw [show (i + 1) * 2 = i * 2 + 1 + 1 by omega]
      simp only [List.set_cons_succ, this]

theorem stepL_same {out : List (Int × Int)} {b : Int × Int} (h : b.1 = b.2) : stepL out b = out := by rw [stepL, if_pos h]

theorem stepL_new {out : List (Int × Int)} {b : Int × Int} (h : b.1 ≠ b.2) (h2 : out = [] ∨ ∃ k : Nat, ∃ hk : k < out.length, k + 1 = out.length ∧ ¬ b.1 ≤ out[k].2) : stepL out b = out ++ [b] := by
  rw [stepL, if_neg h]
  rcases h2 with rfl | ⟨k, hk, he, hb⟩
  · rfl
  · have : out.getLast? = some out[k] := by rw [List.getLast?_eq_getElem?, show out.length - 1 = k by omega, List.getElem?_eq_getElem hk]
    rw [this]; simp only [if_neg hb]

theorem stepL_join {out : List (Int × Int)} {b : Int × Int} (h : b.1 ≠ b.2) {k : Nat} (hk : k < out.length) (he : k + 1 = out.length) (hb : b.1 ≤ out[k].2) : stepL out b = out.set k (out[k].1, max out[k].2 b.2) := by
  rw [stepL, if_neg h]
  have : out.getLast? = some out[k] := by rw [List.getLast?_eq_getElem?, show out.length - 1 = k by omega, List.getElem?_eq_getElem hk]
  rw [this]; simp only [if_pos hb]
  have e2 : out.dropLast = out.take k := by rw [List.dropLast_eq_take, show out.length - 1 = k by omega]
  rw [e2, List.set_eq_take_append_cons_drop, if_pos hk, List.drop_of_length_le (by omega)]

theorem stepL_len (out : List (Int × Int)) (b : Int × Int) : (stepL out b).length ≤ out.length + 1 := by
  by_cases h : b.1 = b.2
  · rw [stepL_same h]; omega
  · rw [stepL, if_neg h]
    cases hl : out.getLast? with
    | none => simp
    | some k => simp only; split <;> simp <;> omega

theorem foldS_len : ∀ (L out : List (Int × Int)), (L.foldl stepL out).length ≤ out.length + L.length
  | [], out => by simp
  | b :: L, out => by have h := foldS_len L (stepL out b); have h2 := stepL_len out b; simp only [List.foldl_cons, List.length_cons]; omega

theorem foldS_snoc (L : List (Int × Int)) (k : Nat) (h : k < L.length) : (L.take (k + 1)).foldl stepL [] = stepL ((L.take k).foldl stepL []) L[k] := by
  rw [List.take_succ_eq_append_getElem h, List.foldl_append]; rfl

theorem ownsRow_kept {B : Nat} {e : TypeId} {k : Nat} {v : Value} {n : Nat} {xs : List Value} {w w' : World} (h : w.ownsRow B e k v n xs) (hb : Below w.heap.size w w') : w'.ownsRow B e k v n xs := by
  refine ⟨h.1, ?_⟩
  rcases h.2 with hn | ⟨g, cap, cur, hv, hg1, hg2, rest⟩
  · exact .inl hn
  · refine .inr ⟨g, cap, cur, hv, hg1, ?_, rest⟩
    rw [hb.block g (by
      rcases Nat.lt_or_ge g w.heap.size with h' | h'
      · exact h'
      · simp [Array.getElem?_eq_none h'] at hg2)]
    exact hg2

theorem ownsRow_base {B B' : Nat} {e : TypeId} {k : Nat} {v : Value} {n : Nat} {xs : List Value} {w : World} (h : w.ownsRow B e k v n xs) (hB : B' ≤ B) : w.ownsRow B' e k v n xs := by
  refine ⟨h.1, ?_⟩
  rcases h.2 with hn | ⟨g, cap, cur, hv, hg1, rest⟩
  · exact .inl hn
  · exact .inr ⟨g, cap, cur, hv, Nat.le_trans hB hg1, rest⟩

theorem ownsRow_open {B : Nat} {e : TypeId} {v : Value} {O : List (Int × Int)} {w : World} (h : w.ownsRow B e 2 v O.length (pairsV O)) :
    ∃ oa oc, v = .slice oa O.length oc ∧ oc ≤ 9223372036854775807 ∧ (∀ k (hk : k < O.length), ∃ g, oa = some ⟨g, 0, none⟩ ∧ w.cell? ⟨g, k * 2, none⟩ = some (.int .i64 O[k].1) ∧ w.cell? ⟨g, k * 2 + 1, none⟩ = some (.int .i64 O[k].2) ∧ w.frozen? ⟨g, k * 2 + 1, none⟩ = false) := by
  have hr : PairsR w v O := ownsRow_reads h
  rcases h.2 with ⟨rfl, h0⟩ | ⟨g, cap, cur, rfl, hb, hg, hn, hc, hs, ht⟩
  · exact ⟨none, 0, by rw [h0], by omega, fun k hk => absurd hk (by omega)⟩
  · refine ⟨_, cap, rfl, by unfold maxLen at hc; omega, fun k hk => ⟨g, rfl, ?_⟩⟩
    obtain ⟨a', c', e', _, _, hcs⟩ := pairsR_open hr
    obtain ⟨b', o', e2, hcs⟩ := hcs (by omega)
    cases e'
    cases e2
    have := hcs k hk
    rw [Nat.zero_add] at this
    exact ⟨this.1, this.2, h.frozenAt _⟩

def ofL (L : List (Int × Int)) : List (Int × Int) := (srtB L).foldl stepL []

theorem ofL_len (L : List (Int × Int)) : (ofL L).length ≤ L.length := by unfold ofL; have := foldS_len (srtB L) []; rw [srtB_len] at this; simpa using this

theorem ofL_norm {L : List (Int × Int)} (h : ∀ b ∈ L, b.1 ≤ b.2) : ofL L = normL L := norm_sorted (srtB_perm L) (srtB_ord L) h

def OfP (L : List (Int × Int)) (w : World) (e : Ending) (w' : World) : Prop :=
  ∃ v, e = .returned v ∧ w'.ownsRow w.heap.size 177 2 v (ofL L).length (pairsV (ofL L)) ∧ Below w.heap.size w w'

set_option maxRecDepth 100000 in
set_option maxHeartbeats 4000000 in
theorem bof_any (v : Value) (L : List (Int × Int)) (w : World) (hL : PairsR w v L) (hlen : L.length ≤ 10000) :
    Calls Tryz.prog 108 #[v] w (OfP L w) := by
  obtain ⟨i0, hi, hz0, hz1, hz2⟩ := info_parts busyInfo
  by_cases hne : L = []
  · subst hne
    obtain ⟨a, cap, rfl, _, _, _⟩ := pairsR_open hL
    go_enter Tryz.func108, Tryz.ntmps108
    go_wp2_with fail
    refine (cloneB_none a cap _).mono ?_; rintro e w1 ⟨p, c, rfl, hb⟩
    have B := Lib.hid hb; clear hb
    go_wp2_with fail
    refine (sortB_none p c _ _).mono ?_; rintro e w2 ⟨rfl, rfl⟩
    go_wp2
    go_loopg [2, 12] 0 (fun g ov iv wr => ov = .slice none 0 0 ∧ iv = .int .i64 0 ∧ g = 0 ∧ wr = w1)
    case atStart => exact ⟨rfl, rfl, rfl, rfl⟩
    case round =>
      obtain ⟨rfl, rfl, hg, rfl⟩ := hrel
      clear hg
      go_wp2
      go_ret
      exact ⟨_, rfl, by rw [show ofL [] = [] by simp [ofL, srtB]]; exact World.ownsRow_nil _ _ _ _, B.out⟩
  · have HL := Lib.hid hL; have NE := Lib.hid hne
    obtain ⟨S, hS⟩ : ∃ S, S = srtB L := ⟨_, rfl⟩
    have hSl : S.length = L.length := by rw [hS, srtB_len]
    have SE := Lib.hid hS
    have SL := Lib.hid hSl
    have hsz : S.length ≤ 10000 := by omega
    have hpos : 0 < S.length := by rw [hSl]; exact List.length_pos_iff.2 hne
    clear hL hne hS hSl
    obtain ⟨va, vc, rfl, _, _, _⟩ := pairsR_open HL.out
    go_enter Tryz.func108, Tryz.ntmps108
    go_wp2_with fail
    refine (cloneB_some _ L _ HL.out NE.out (by omega)).mono ?_; rintro e w1 ⟨u, rfl, hown, hb⟩
    have B := Lib.hid hb
    have hsz1 := hb.size
    clear hb
    go_wp2_with fail
    refine (sortB_any u L _ hown NE.out (by omega)).mono ?_; rintro e w2 ⟨rfl, hown2, hgr⟩
    rw [← SE.out, ← SL.out] at hown2
    have B := Lib.hid ((B.out.grown hgr hsz1 (ownBlock_ge hown)))
    have PR := Lib.hid (show PairsR w2 u S from ownsRow_reads hown2)
    clear hown hown2 hgr hsz1
    obtain ⟨ua, uc, rfl, _, kc, hcell⟩ := pairsR_open PR.out
    obtain ⟨ub, uo, rfl, hcs⟩ := hcell hpos
    have CS := Lib.hid hcs
    unfold maxLen at kc
    clear hcell hcs
    go_wp2
    go_loopg [2, 12] S.length (fun g ov iv wr => ∃ (k : Nat) (O : List (Int × Int)), k ≤ S.length ∧ iv = .int .i64 k ∧ g = S.length - k ∧ Hid (O = (S.take k).foldl stepL []) ∧ wr.ownsRow w2.heap.size 177 2 ov O.length (pairsV O) ∧ Below w2.heap.size w2 wr)
    case atStart => exact ⟨0, [], Nat.zero_le _, rfl, rfl, Lib.hid rfl, World.ownsRow_nil _ _ _ _, Below.refl _ _⟩
    case round =>
      obtain ⟨k, O, hk, rfl, hg, OE, hown, hb⟩ := hrel
      have G := Lib.hid hg; clear hg
      have BW := Lib.hid hb
      have hbs := hb.size
      have OW := Lib.hid hown
      by_cases hlt : k < S.length
      · have hOl : O.length ≤ 10000 := by
          have := foldS_len (S.take k) []
          rw [OE.out]; simp at this; omega
        have u0 := cell_below hb (CS.out k hlt).1
        have u1 := cell_below hb (CS.out k hlt).2
        have FS := Lib.hid (foldS_snoc S k hlt)
        obtain ⟨b, hb0⟩ : ∃ b, b = S[k] := ⟨_, rfl⟩
        obtain ⟨x, y⟩ := b
        rw [← hb0] at u0 u1
        have BE := Lib.hid hb0
        simp only at u0 u1
        clear hb0 hb
        have i1 : (0 : Int) ≤ (k : Int) := Int.natCast_nonneg _
        have i2 : (k : Int) < (S.length : Int) := by omega
        obtain ⟨oa, oc, rfl, ko, hocell⟩ := ownsRow_open hown
        have OC := Lib.hid hocell
        clear hocell
        have l1 : (0 : Int) ≤ (O.length : Int) := Int.natCast_nonneg _
        by_cases hxy : x = y
        · have t : (x == y) = true := by simpa using hxy
          have E := Lib.hid (show O = (S.take (k + 1)).foldl stepL [] by rw [FS.out, ← OE.out, ← BE.out, stepL_same hxy])
          clear hxy hown
          go_wp2
          go_roundg (S.length - (k + 1))
          case measure => rw [G.out]; omega
          case rel => exact ⟨k + 1, O, by omega, by go_num, rfl, E, OW.out.alloc _, BW.out.alloc hbs _⟩
        · have t : (x == y) = false := by simpa using hxy
          have HX := Lib.hid hxy
          clear hxy
          obtain ⟨wb, hwb⟩ : ∃ wb, wb = wr.alloc (.cells #[.int .i64 x, .int .i64 y] 177) := ⟨_, rfl⟩
          have x0 : wb.cell? ⟨wr.heap.size, 0, none⟩ = some (.int .i64 x) := by rw [hwb]; simp
          have x1 : wb.cell? ⟨wr.heap.size, 1, none⟩ = some (.int .i64 y) := by rw [hwb]; simp
          have BB := Lib.hid (show Below wr.heap.size wr wb by rw [hwb]; exact (Below.refl _ _).alloc (Nat.le_refl _) _)
          obtain ⟨xb, hxb⟩ : ∃ xb, xb = wr.heap.size := ⟨_, rfl⟩
          rw [← hxb] at x0 x1
          have XB := Lib.hid hxb
          have WB := Lib.hid hwb
          have OWB := Lib.hid (ownsRow_kept OW.out BB.out)
          clear hwb hxb hown
          go_upto_region 9 with fail
          rw [← WB.out, ← XB.out]
          clear u0 u1
          go_cut [29] (fun s29 wx => ∃ jb : Bool, s29 = .bool jb ∧ Hid (jb = true → ∃ n : Nat, ∃ hn : n < O.length, n + 1 = O.length ∧ x ≤ O[n].2) ∧ Hid (jb = false → O = [] ∨ ∃ n : Nat, ∃ hn : n < O.length, n + 1 = O.length ∧ ¬ x ≤ O[n].2) ∧ ∃ q, wx = wb.drewN q)
          case first => as_aux_lemma =>
            by_cases hO : O.length = 0
            · have z1 : decide ((1 : Int) ≤ (O.length : Int)) = false := decide_eq_false (by omega)
              have z2 : decide ((0 : Int) ≤ (O.length : Int) - 1) = false := decide_eq_false (by omega)
              have N := Lib.hid (show O = [] from List.length_eq_zero_iff.1 hO)
              clear hO
              go_wp2
              go_quiet (fail)
              go_wp2
              go_meet
              exact ⟨false, rfl, Lib.hid (fun h => by cases h), Lib.hid (fun _ => .inl N.out), _, rfl⟩
            · obtain ⟨n, hn⟩ : ∃ n, n = O.length - 1 := ⟨_, rfl⟩
              have hn1 : n + 1 = O.length := by omega
              have hn2 : n < O.length := by omega
              obtain ⟨g, rfl, o0, o1, of⟩ := OC.out n hn2
              have o1b := cell_below BB.out o1
              have z1 : decide ((1 : Int) ≤ (O.length : Int)) = true := decide_eq_true (by omega)
              have z2 : decide ((0 : Int) ≤ (O.length : Int) - 1) = true := decide_eq_true (by omega)
              have z3 : ((O.length : Int) - 1).toNat = n := by omega
              have z4 : (O.length : Int) - 1 < (O.length : Int) := by omega
              have z5 : (1 : Int) ≤ (O.length : Int) := by omega
              have z6 : (0 : Int) ≤ (O.length : Int) - 1 := by omega
              obtain ⟨p, hp⟩ : ∃ p, p = O[n].2 := ⟨_, rfl⟩
              rw [← hp] at o1b
              have N1 := Lib.hid hn1
              have P := Lib.hid hp
              clear hn hn1 hO hp o0 o1 of
              by_cases hxp : x ≤ p
              · have z7 : decide (x ≤ p) = true := decide_eq_true hxp
                go_wp2
                go_quiet (fail)
                go_wp2
                go_meet
                exact ⟨true, rfl, Lib.hid (fun _ => ⟨n, hn2, N1.out, by rw [← P.out]; exact hxp⟩), Lib.hid (fun h => by cases h), _, rfl⟩
              · have z7 : decide (x ≤ p) = false := decide_eq_false hxp
                go_wp2
                go_quiet (fail)
                go_wp2
                go_meet
                exact ⟨false, rfl, Lib.hid (fun h => by cases h), Lib.hid (fun _ => .inr ⟨n, hn2, N1.out, by rw [← P.out]; exact hxp⟩), _, rfl⟩
          case rest =>
          obtain ⟨jb, rfl, J1, J2, q, hwd⟩ := hcut
          have BD := Lib.hid (show Below wb.heap.size wb wc by rw [hwd]; exact below_drewN (Below.refl _ _) _)
          obtain ⟨wd, rfl⟩ : ∃ wd, wd = wc := ⟨_, rfl⟩
          clear hwd
          have OWD := Lib.hid (ownsRow_kept OWB.out BD.out)
          have x0 := cell_below BD.out x0
          have x1 := cell_below BD.out x1
          have BT := Lib.hid (BW.out.trans ((BB.out.trans (BD.out.mono BB.out.size)).mono hbs))
          have hdz := BT.out.size
          cases jb
          · have E := Lib.hid (show O ++ [(x, y)] = (S.take (k + 1)).foldl stepL [] by rw [FS.out, ← OE.out, ← BE.out, stepL_new HX.out (J2.out rfl)])
            have hown := OWD.out
            go_wp2_with (at_builtin; refine wpList_append_lies _ rfl _ _ 89 rfl w2.heap.size 177 i0 _ 2 16 Tryz.underlying89 hi hz0 hz1 hz2 rfl (by decide) _ _ _ rfl (hown.alloc _) ⟨wd.heap.size, 0, none⟩ 1 1 [.int .i64 x, .int .i64 y] rfl rfl ?c1x1 ?c1x2 (by decide) (by unfold maxLen; omega) (by omega) (by simp; omega) _ rfl ?_)
            try (case c1x1 => exact World.news_of_block (cs := #[.int .i64 x, .int .i64 y]) (heap_alloc_new wd _))
            case c1x2 => first | exact ⟨rfl, rfl⟩ | (intro u hu; simp at hu; rcases hu with rfl | rfl <;> rfl)
            intro g cap1 w9 hown1 hgrow1 hat1 hlt1
            have hB1 := Lib.hid ((BT.out.alloc hdz (.cells #[.int .i64 x, .int .i64 y] 177)).grown hgrow1 (by simp; omega) (ownBlock_ge hown))
            have R := Lib.hid (show w9.ownsRow w2.heap.size 177 2 (.slice (some ⟨g, 0, none⟩) (O.length + 1) cap1) (O ++ [(x, y)]).length (pairsV (O ++ [(x, y)])) by
              rw [List.length_append, show pairsV (O ++ [(x, y)]) = pairsV O ++ [.int .i64 x, .int .i64 y] by simp [pairsV]]; exact hown1)
            clear hown1 hgrow1 hat1 hlt1 hown
            go_wp2
            go_roundg (S.length - (k + 1))
            case measure => rw [G.out]; omega
            case rel => exact ⟨k + 1, O ++ [(x, y)], by omega, by go_num, rfl, E, R.out, hB1.out⟩
          · obtain ⟨n, hn, hn1, hxp⟩ := J1.out rfl
            obtain ⟨g, rfl, o0, o1, of⟩ := OC.out n hn
            have E := Lib.hid (show O.set n (O[n].1, max O[n].2 y) = (S.take (k + 1)).foldl stepL [] by rw [FS.out, ← OE.out, ← BE.out, stepL_join HX.out hn hn1 hxp])
            have o1d := cell_below BD.out (cell_below BB.out o1)
            obtain ⟨p, hp⟩ : ∃ p, p = O[n].2 := ⟨_, rfl⟩
            rw [← hp] at o1d
            have P := Lib.hid hp
            have ofd : wd.frozen? ⟨g, n * 2 + 1, none⟩ = false := OWD.out.frozenAt _
            have z3 : ((O.length : Int) - 1).toNat = n := by omega
            have z4 : (O.length : Int) - 1 < (O.length : Int) := by omega
            have z5 : (1 : Int) ≤ (O.length : Int) := by omega
            have z6 : (0 : Int) ≤ (O.length : Int) - 1 := by omega
            have ST := Lib.hid (OWD.out.stored (n * 2 + 1) (.int .i64 (max p y)))
            have PS := Lib.hid (show (pairsV O).set (n * 2 + 1) (.int .i64 (max p y)) = pairsV (O.set n (O[n].1, max O[n].2 y)) by rw [P.out]; exact pairsV_set O n hn _)
            clear hp o0 o1 of hxp
            go_wp2
            go_region
            all_goals
              go_wp2
              go_roundg (S.length - (k + 1))
              case measure => rw [G.out]; omega
              case rel => exact ⟨k + 1, O.set n (O[n].1, max O[n].2 y), by omega, by go_num, rfl, E, by rw [List.length_set, ← PS.out]; exact ST.out.1, ((BT.out.drew).setCell (p := ⟨g, n * 2 + 1, none⟩) (OWD.out.lt g rfl).1 _)⟩
      · obtain rfl : k = S.length := by omega
        have E := Lib.hid (show O = ofL L by have := OE.out; rw [List.take_length] at this; rw [this, SE.out]; rfl)
        clear hown hb
        go_wp2
        go_ret
        exact ⟨_, rfl, by rw [← E.out]; exact ownsRow_base OW.out (by have := B.out.size; omega), B.out.trans (BW.out.mono B.out.size)⟩

end Go.Proofs.YtgelojhpanbnaaaGreatDoor

namespace Go.Proofs.YtgelojhpanbnaaaGreatDoor
open Go.RowKit Go.Sort
set_option linter.unusedSimpArgs false
set_option linter.unusedVariables false

def Good (l : List (Int × Int)) : Prop := ∀ b ∈ l, 1 ≤ b.1 ∧ b.1 ≤ b.2 ∧ b.2 < 157785120

def strE (a b : Int) : Int := if timeB a = true ∧ timeB b = true then (if b < a then 3 else 0) else 1

theorem strE_ok {a b : Int} (h : strE a b = 0) : 1 ≤ a ∧ a ≤ b ∧ b < 157785120 := by
  unfold strE at h
  split at h
  · next h1 =>
    split at h
    · simp at h
    · have := timeB_yes h1.1; have := timeB_yes h1.2; omega
  · simp at h

theorem bstretch_any (a b : Int) (w : World) :
    Calls Tryz.prog 184 #[.int .i64 a, .int .i64 b] w fun e w' => e = .returned (errV (strE a b)) ∧ w = w' := by
  by_cases t1 : timeB a = true
  · by_cases t2 : timeB b = true
    · by_cases t3 : b < a
      · have e := Lib.hid (show strE a b = 3 by rw [strE, if_pos ⟨t1, t2⟩, if_pos t3])
        go_enter Tryz.func184, Tryz.ntmps184
        go_wp2_with (go_at_call 58; refine (valid_any _ _).mono ?_; rintro e w' ⟨rfl, rfl⟩)
        go_ret
        exact ⟨by rw [e.out]; rfl, rfl⟩
      · have e := Lib.hid (show strE a b = 0 by rw [strE, if_pos ⟨t1, t2⟩, if_neg t3])
        go_enter Tryz.func184, Tryz.ntmps184
        go_wp2_with (go_at_call 58; refine (valid_any _ _).mono ?_; rintro e w' ⟨rfl, rfl⟩)
        go_ret
        exact ⟨by rw [e.out]; rfl, rfl⟩
    · have e := Lib.hid (show strE a b = 1 by rw [strE, if_neg (fun h => t2 h.2)])
      have t2' : timeB b = false := by simpa using t2
      clear t2
      go_enter Tryz.func184, Tryz.ntmps184
      go_wp2_with (go_at_call 58; refine (valid_any _ _).mono ?_; rintro e w' ⟨rfl, rfl⟩)
      go_ret
      exact ⟨by rw [e.out]; rfl, rfl⟩
  · have e := Lib.hid (show strE a b = 1 by rw [strE, if_neg (fun h => t1 h.1)])
    have t1' : timeB a = false := by simpa using t1
    clear t1
    go_enter Tryz.func184, Tryz.ntmps184
    go_wp2_with (go_at_call 58; refine (valid_any _ _).mono ?_; rintro e w' ⟨rfl, rfl⟩)
    go_ret
    exact ⟨by rw [e.out]; rfl, rfl⟩

def FreeP (F : List (Int × Int)) (w : World) (e : Ending) (w' : World) : Prop :=
  ∃ v, e = .returned v ∧ w'.ownsRow w.heap.size 177 2 v F.length (pairsV F) ∧ Below w.heap.size w w'

theorem freeL_drop (to_ : Int) {S : List (Int × Int)} {k : Nat} (h : k < S.length) (at_ : Int) :
    freeL to_ (S.drop k) at_ = (if at_ < S[k].1 ∧ at_ < to_ then [(at_, min S[k].1 to_)] else []) ++ freeL to_ (S.drop (k + 1)) (max at_ S[k].2) := by
  rw [List.drop_eq_getElem_cons h, freeL]

set_option maxRecDepth 100000 in
set_option maxHeartbeats 4000000 in
theorem freeB_any (v : Value) (L : List (Int × Int)) (fr to_ : Int) (w : World) (hL : PairsR w v L) (hlen : L.length ≤ 10000) :
    Calls Tryz.prog 186 #[v, .int .i64 fr, .int .i64 to_] w (FreeP (freeL to_ (ofL L) fr) w) := by
  obtain ⟨i0, hi, hz0, hz1, hz2⟩ := info_parts busyInfo
  have HL := Lib.hid hL
  have LL := Lib.hid hlen
  clear hL hlen
  go_enter Tryz.func186, Tryz.ntmps186
  go_wp2_with fail
  refine (bof_any _ L _ HL.out LL.out).mono ?_; rintro e w2 ⟨u, rfl, hown, hb1⟩
  obtain ⟨S, hS⟩ : ∃ S, S = ofL L := ⟨_, rfl⟩
  rw [← hS] at hown
  have hsz : S.length ≤ 10000 := by have := ofL_len L; have := LL.out; rw [hS]; omega
  have SE := Lib.hid hS
  have PR := Lib.hid (show PairsR w2 u S from ownsRow_reads hown)
  have B := Lib.hid hb1
  clear hb1 hown hS
  obtain ⟨ua, uc, rfl, _, kc, hcell⟩ := pairsR_open PR.out
  unfold maxLen at kc
  have CS := Lib.hid hcell
  clear hcell
  go_wp2
  go_loopg [6, 7, 14] S.length (fun g ov av i wr => ∃ (k : Nat) (O : List (Int × Int)) (at_ : Int), k ≤ S.length ∧ i = .int .i64 k ∧ av = .int .i64 at_ ∧ g = S.length - k ∧ O.length ≤ k ∧ Hid (O ++ freeL to_ (S.drop k) at_ = freeL to_ S fr) ∧ wr.ownsRow w2.heap.size 177 2 ov O.length (pairsV O) ∧ Below w2.heap.size w2 wr)
  case atStart => exact ⟨0, [], fr, Nat.zero_le _, rfl, rfl, rfl, Nat.le_refl _, Lib.hid (by simp), World.ownsRow_nil _ _ _ _, Below.refl _ _⟩
  case round =>
    obtain ⟨k, O, at_, hk, rfl, rfl, hg, hOk, FE, hown, hb⟩ := hrel
    have G := Lib.hid hg; clear hg
    have OW := Lib.hid hown
    have BW := Lib.hid hb
    have hbs := hb.size
    obtain ⟨oa, oc, rfl, ko, hocell⟩ := ownsRow_open hown
    clear hocell
    by_cases hlt : k < S.length
    · obtain ⟨b, off, rfl, hcs⟩ := CS.out (by omega)
      have c0 := cell_below hb (hcs k hlt).1
      have c1 := cell_below hb (hcs k hlt).2
      have Z := Lib.hid (freeL_drop to_ hlt at_)
      obtain ⟨x, hx⟩ : ∃ x, x = S[k].1 := ⟨_, rfl⟩
      obtain ⟨y, hy⟩ : ∃ y, y = S[k].2 := ⟨_, rfl⟩
      rw [← hx] at c0; rw [← hy] at c1
      have X := Lib.hid hx; have Y := Lib.hid hy
      clear hx hy hcs hb
      by_cases h1 : at_ < x
      · by_cases h2 : at_ < to_
        · have E := Lib.hid (show (O ++ [(at_, min x to_)]) ++ freeL to_ (S.drop (k + 1)) (max at_ y) = freeL to_ S fr by
            rw [← FE.out, Z.out, ← X.out, ← Y.out, if_pos ⟨h1, h2⟩, List.append_assoc])
          obtain ⟨wb, hwb⟩ : ∃ wb, wb = wr.alloc (.cells #[.int .i64 x, .int .i64 y] 177) := ⟨_, rfl⟩
          have x0 : wb.cell? ⟨wr.heap.size, 0, none⟩ = some (.int .i64 x) := by rw [hwb]; simp
          have x1 : wb.cell? ⟨wr.heap.size, 1, none⟩ = some (.int .i64 y) := by rw [hwb]; simp
          have BB := Lib.hid (show Below wr.heap.size wr wb by rw [hwb]; exact (Below.refl _ _).alloc (Nat.le_refl _) _)
          obtain ⟨xb, hxb⟩ : ∃ xb, xb = wr.heap.size := ⟨_, rfl⟩
          rw [← hxb] at x0 x1
          have XB := Lib.hid hxb
          have WB := Lib.hid hwb
          have OWB := Lib.hid (ownsRow_kept OW.out BB.out)
          have hxl : xb < wb.heap.size := by rw [hwb, hxb]; simp
          clear hwb hxb hown
          go_upto_region 6 with fail
          rw [← WB.out, ← XB.out]
          clear c0 c1
          have BT := Lib.hid (BW.out.trans (BB.out.mono hbs))
          have hdz := BT.out.size
          have hown := OWB.out
          obtain ⟨m, hm⟩ : ∃ m, m = min x to_ := ⟨_, rfl⟩
          have M := Lib.hid hm
          rw [← hm] at E
          go_wp2_with (at_builtin; refine wpList_append_lies _ rfl _ _ 89 rfl w2.heap.size 177 i0 _ 2 16 Tryz.underlying89 hi hz0 hz1 hz2 rfl (by decide) _ _ _ rfl (hown.alloc _) ⟨wb.heap.size, 0, none⟩ 1 1 [.int .i64 at_, .int .i64 (min x to_)] rfl rfl ?c1x1 ?c1x2 (by decide) (by unfold maxLen; omega) (by omega) (by simp; omega) _ rfl ?_)
          try (case c1x1 => exact World.news_of_block (cs := #[.int .i64 at_, .int .i64 (min x to_)]) (heap_alloc_new wb _))
          case c1x2 => first | exact ⟨rfl, rfl⟩ | (intro u hu; simp at hu; rcases hu with rfl | rfl <;> rfl)
          intro g cap1 w9 hown1 hgrow1 hat1 hlt1
          have hB1 := Lib.hid ((BT.out.alloc hdz (.cells #[.int .i64 at_, .int .i64 (min x to_)] 177)).grown hgrow1 (by simp; omega) (ownBlock_ge hown))
          have R := Lib.hid (show w9.ownsRow w2.heap.size 177 2 (.slice (some ⟨g, 0, none⟩) (O.length + 1) cap1) (O ++ [(at_, m)]).length (pairsV (O ++ [(at_, m)])) by
            rw [List.length_append, show pairsV (O ++ [(at_, m)]) = pairsV O ++ [.int .i64 at_, .int .i64 (min x to_)] by simp [pairsV, hm]]; exact hown1)
          have x1w : w9.cell? ⟨xb, 1, none⟩ = some (.int .i64 y) := by
            rw [hgrow1.cell_far ⟨xb, 1, none⟩ (by simp; omega) (by intro h; have := (OW.out.lt xb h.symm).2; have := XB.out; omega)]
            exact cell_below ((Below.refl _ _).alloc (Nat.le_refl _) _) x1
          clear hm hgrow1 hown1 hown hat1 hlt1 x0 x1
          go_wp2
          go_roundg (S.length - (k + 1))
          case measure => rw [G.out]; omega
          case rel => exact ⟨k + 1, O ++ [(at_, m)], max at_ y, by omega, by go_num, rfl, rfl, by simp; omega, E, R.out, hB1.out⟩
        · have E := Lib.hid (show O ++ freeL to_ (S.drop (k + 1)) (max at_ y) = freeL to_ S fr by
            rw [← FE.out, Z.out, ← Y.out, if_neg (fun h => h2 h.2)]; rfl)
          clear hown
          go_wp2
          go_roundg (S.length - (k + 1))
          case measure => rw [G.out]; omega
          case rel => exact ⟨k + 1, O, max at_ y, by omega, by go_num, rfl, rfl, by omega, E, OW.out.alloc _, BW.out.alloc hbs _⟩
      · have E := Lib.hid (show O ++ freeL to_ (S.drop (k + 1)) (max at_ y) = freeL to_ S fr by
            rw [← FE.out, Z.out, ← X.out, ← Y.out, if_neg (fun h => h1 h.1)]; rfl)
        clear hown
        go_wp2
        go_roundg (S.length - (k + 1))
        case measure => rw [G.out]; omega
        case rel => exact ⟨k + 1, O, max at_ y, by omega, by go_num, rfl, rfl, by omega, E, OW.out.alloc _, BW.out.alloc hbs _⟩
    · obtain rfl : k = S.length := by omega
      by_cases h2 : at_ < to_
      · have E := Lib.hid (show O ++ [(at_, to_)] = freeL to_ (ofL L) fr by
          rw [← SE.out, ← FE.out, List.drop_length, freeL, if_pos h2])
        clear hown hb
        have hown := OW.out
        go_wp2_with (at_builtin; refine wpList_append_lies _ rfl _ _ 89 rfl w2.heap.size 177 i0 _ 2 16 Tryz.underlying89 hi hz0 hz1 hz2 rfl (by decide) _ _ _ rfl (hown.alloc _) ⟨wr.heap.size, 0, none⟩ 1 1 [.int .i64 at_, .int .i64 to_] rfl rfl ?c1x1 ?c1x2 (by decide) (by unfold maxLen; omega) (by omega) (by simp; omega) _ rfl ?_)
        try (case c1x1 => exact World.news_of_block (cs := #[.int .i64 at_, .int .i64 to_]) (heap_alloc_new wr _))
        case c1x2 => first | exact ⟨rfl, rfl⟩ | (intro u hu; simp at hu; rcases hu with rfl | rfl <;> rfl)
        intro g cap1 w9 hown1 hgrow1 hat1 hlt1
        have hB1 := Lib.hid ((BW.out.alloc hbs (.cells #[.int .i64 at_, .int .i64 to_] 177)).grown hgrow1 (by simp; omega) (ownBlock_ge hown))
        have R := Lib.hid (show w9.ownsRow w2.heap.size 177 2 (.slice (some ⟨g, 0, none⟩) (O.length + 1) cap1) (O ++ [(at_, to_)]).length (pairsV (O ++ [(at_, to_)])) by
          rw [List.length_append, show pairsV (O ++ [(at_, to_)]) = pairsV O ++ [.int .i64 at_, .int .i64 to_] by simp [pairsV]]; exact hown1)
        clear hgrow1 hown1 hown hat1 hlt1
        go_wp2
        go_ret
        exact ⟨_, rfl, by rw [← E.out]; exact ownsRow_base R.out B.out.size, B.out.trans (hB1.out.mono B.out.size)⟩
      · have E := Lib.hid (show O = freeL to_ (ofL L) fr by
          rw [← SE.out, ← FE.out, List.drop_length, freeL, if_neg h2]; simp)
        clear hown hb
        go_wp2
        go_ret
        exact ⟨_, rfl, by rw [← E.out]; exact ownsRow_base OW.out B.out.size, B.out.trans (BW.out.mono B.out.size)⟩

end Go.Proofs.YtgelojhpanbnaaaGreatDoor

namespace Go.Proofs.YtgelojhpanbnaaaGreatDoor
open Go.RowKit
set_option linter.unusedSimpArgs false
set_option linter.unusedVariables false

theorem free_in {b a : Int} {S : List (Int × Int)} (h : Sep S) : ∀ c ∈ freeL b S a, a ≤ c.1 ∧ c.1 < c.2 ∧ c.2 ≤ b := fun c hc => by
  obtain ⟨h1, h2⟩ := free_ok b S a h
  have h3 := h1.1 c hc
  have h4 := free_lo b S a c hc
  have h5 := h2 (c.2 - 1)
  rw [covB_iff.2 ⟨c, hc, by omega, by omega⟩] at h5
  have h6 := h5.symm
  simp only [Bool.and_eq_true, decide_eq_true_eq] at h6
  omega

theorem pairs_laid (w : World) (t : TypeId) (L : List (Int × Int)) (cs : Array Value) (hc : cs.toList = pairsV L) (hl : L.length ≤ 1000) :
    PairsR (w.alloc (.cells cs t)) (.slice (some ⟨w.heap.size, 0, none⟩) L.length L.length) L := by
  refine ⟨_, L.length, rfl, pairsV_len L, Nat.le_refl _, by unfold maxLen; omega, fun _ => ⟨w.heap.size, 0, rfl, fun j u hj => ?_⟩⟩
  have hn := heap_alloc_new w (.cells cs t)
  rw [← hc] at hj
  simp only [World.cell?, hn, Nat.zero_add]
  simpa using hj

end Go.Proofs.YtgelojhpanbnaaaGreatDoor

namespace Go.Proofs.YtgelojhpanbnaaaGreatDoor
open Go.RowKit
set_option linter.unusedSimpArgs false
set_option linter.unusedVariables false

def fitB (n : Int) (s : Int × Int) : Bool := decide (n ≤ s.2 - s.1)

theorem fit_any (x y n : Int) (p : Nat) (w : World) (c : w.cell? ⟨p, 0, none⟩ = some (.int .i64 n)) (hx : 1 ≤ x) (hxy : x ≤ y) (hy : y < 157785120) :
    Calls Tryz.prog 231 #[.agg #[.int .i64 x, .int .i64 y], .pointer (some ⟨p, 0, none⟩)] w fun e w' => e = .returned (.bool (fitB n (x, y))) ∧ Below w.heap.size w w' := by
  have c' := cell_below ((Below.refl w.heap.size w).alloc (Nat.le_refl _) (.cells #[.int .i64 x, .int .i64 y] 177)) c
  by_cases h1 : n ≤ y - x
  · have E := Lib.hid (show fitB n (x, y) = true by simp [fitB, h1])
    have h2 : y - x ≥ n := h1
    go_enter Tryz.func231, Tryz.ntmps231
    go_wp2
    go_ret
    exact ⟨by rw [E.out]; rfl, (Below.refl _ _).alloc (Nat.le_refl _) _⟩
  · have E := Lib.hid (show fitB n (x, y) = false by simp [fitB]; omega)
    go_enter Tryz.func231, Tryz.ntmps231
    go_wp2
    go_ret
    exact ⟨by rw [E.out]; rfl, (Below.refl _ _).alloc (Nat.le_refl _) _⟩

theorem take_no {α : Type} {p : α → Bool} {L : List α} {k : Nat} (hk : k < L.length) (h : (L.take k).any p = false) (h2 : p L[k] = false) : (L.take (k + 1)).any p = false := by
  rw [List.take_succ_eq_append_getElem hk, List.any_append, h]; simp [h2]

theorem find_yes {α : Type} {p : α → Bool} {L : List α} {k : Nat} (hk : k < L.length) (h : (L.take k).any p = false) (h2 : p L[k] = true) : L.find? p = some L[k] := by
  have h4 : (L.take k).find? p = none := List.find?_eq_none.2 fun x hx => by
    have := List.any_eq_false.1 h x hx; simpa using this
  have h3 : L.find? p = (L.take k ++ L.drop k).find? p := by rw [List.take_append_drop]
  rw [h3, List.find?_append, h4, List.drop_eq_getElem_cons hk, List.find?_cons_of_pos h2]; rfl

def FitP (n : Int) (L : List (Int × Int)) (w : World) (e : Ending) (w' : World) : Prop :=
  ((∃ (k : Nat) (hk : k < L.length), e = .returned (.int .i64 k) ∧ L.find? (fitB n) = some L[k]) ∨ (e = .returned (.int .i64 (-1)) ∧ L.find? (fitB n) = none)) ∧ Below w.heap.size w w'

set_option maxHeartbeats 4000000 in
theorem idxB_any (v : Value) (L : List (Int × Int)) (n : Int) (p : Nat) (w : World) (hL : PairsR w v L) (c : w.cell? ⟨p, 0, none⟩ = some (.int .i64 n)) (hg : Good L) :
    Calls Tryz.prog 230 #[v, .func (.func 231) #[] #[.pointer (some ⟨p, 0, none⟩)]] w (FitP n L w) := by
  obtain ⟨a, cap, rfl, hc1, hc2, hcell⟩ := pairsR_open hL
  unfold maxLen at hc2
  have HC := Lib.hid hcell; clear hcell hL
  have C := Lib.hid c; clear c
  have GD := Lib.hid hg; clear hg
  go_enter Tryz.func230, Tryz.ntmps230
  go_wp2
  go_loopg [8] L.length (fun g i wr => ∃ k : Nat, k ≤ L.length ∧ i = .int .i64 k ∧ Hid ((L.take k).any (fitB n) = false) ∧ g = L.length - k ∧ Below w.heap.size w wr)
  case atStart => exact ⟨0, Nat.zero_le _, rfl, Lib.hid (by simp), rfl, Below.refl _ _⟩
  case round =>
    obtain ⟨k, hk, rfl, hS, hg, hb⟩ := hrel
    have G := Lib.hid hg; clear hg
    have B := Lib.hid hb
    by_cases hlt : k < L.length
    · obtain ⟨b, off, rfl, hcs⟩ := HC.out (by omega)
      have c0 := cell_below hb (hcs k hlt).1
      have c1 := cell_below hb (hcs k hlt).2
      have CN := Lib.hid (cell_below hb C.out)
      have hg := GD.out L[k] (List.getElem_mem hlt)
      obtain ⟨x, hx⟩ : ∃ x, x = L[k].1 := ⟨_, rfl⟩
      obtain ⟨y, hy⟩ : ∃ y, y = L[k].2 := ⟨_, rfl⟩
      rw [← hx, ← hy] at hg
      have HG := Lib.hid hg
      rw [← hx] at c0; rw [← hy] at c1
      have XY := Lib.hid (show L[k] = (x, y) by rw [hx, hy])
      clear hx hy hcs hb hg
      by_cases he : fitB n (x, y) = true
      · have E := Lib.hid (find_yes (p := fitB n) hlt hS.out (by rw [XY.out]; exact he))
        have V := Lib.hid he
        clear he
        go_wp2_with fail
        refine (fit_any x y n p _ CN.out HG.out.1 HG.out.2.1 HG.out.2.2).mono ?_; rintro e w2 ⟨rfl, hb2⟩
        rw [V.out]
        have B2 := Lib.hid (B.out.trans (hb2.mono B.out.size)); clear hb2
        go_wp2
        go_ret
        exact ⟨.inl ⟨k, hlt, rfl, E.out⟩, B2.out⟩
      · have he' : fitB n (x, y) = false := by simpa using he
        have E := Lib.hid (take_no (p := fitB n) hlt hS.out (by rw [XY.out]; exact he'))
        have V := Lib.hid he'
        clear he he'
        go_wp2_with fail
        refine (fit_any x y n p _ CN.out HG.out.1 HG.out.2.1 HG.out.2.2).mono ?_; rintro e w2 ⟨rfl, hb2⟩
        rw [V.out]
        have B2 := Lib.hid (B.out.trans (hb2.mono B.out.size)); clear hb2
        go_wp2
        go_roundg (L.length - (k + 1))
        case measure => rw [G.out]; omega
        case rel => exact ⟨k + 1, by omega, by go_num, E, rfl, B2.out⟩
    · obtain rfl : k = L.length := by omega
      have E := Lib.hid (show L.find? (fitB n) = none by
        have := hS.out; rw [List.take_length] at this
        exact List.find?_eq_none.2 fun x hx => by have := List.any_eq_false.1 this x hx; simpa using this)
      clear hS hb
      go_wp2
      go_ret
      exact ⟨.inr ⟨rfl, E.out⟩, B.out⟩

def bfirstE (n : Int) (F : List (Int × Int)) : Int := if n < 1 ∨ 1000000 < n then 1 else if (F.find? (fitB n)).isSome then 0 else 5
def firstV (n : Int) (F : List (Int × Int)) : Int := if n < 1 ∨ 1000000 < n then 0 else ((F.find? (fitB n)).map (·.1)).getD 0

set_option maxHeartbeats 4000000 in
theorem first_any (v : Value) (L : List (Int × Int)) (n : Int) (w : World) (hL : PairsR w v L) (hg : Good L) :
    Calls Tryz.prog 185 #[v, .int .i64 n] w fun e w' => e = .returned (.tuple #[.int .i64 (firstV n L), errV (bfirstE n L)]) ∧ Below w.heap.size w w' := by
  have B0 := (Below.refl w.heap.size w).alloc (Nat.le_refl _) (.cells #[.int .i64 n] 3)
  by_cases h1 : n < 1
  · have E := Lib.hid (show bfirstE n L = 1 by rw [bfirstE, if_pos (.inl h1)])
    have V := Lib.hid (show firstV n L = 0 by rw [firstV, if_pos (.inl h1)])
    go_enter Tryz.func185, Tryz.ntmps185
    go_wp2
    go_ret2
    exact ⟨by rw [E.out, V.out]; rfl, B0⟩
  by_cases h2 : 1000000 < n
  · have E := Lib.hid (show bfirstE n L = 1 by rw [bfirstE, if_pos (.inr h2)])
    have V := Lib.hid (show firstV n L = 0 by rw [firstV, if_pos (.inr h2)])
    go_enter Tryz.func185, Tryz.ntmps185
    go_wp2
    go_ret2
    exact ⟨by rw [E.out, V.out]; rfl, B0⟩
  have hn : ¬ (n < 1 ∨ 1000000 < n) := by omega
  have HL := Lib.hid (hL.below B0)
  have HG := Lib.hid hg
  have HN := Lib.hid hn
  have BB := Lib.hid B0
  clear hL hg hn B0
  obtain ⟨va, vc, rfl, _, kc, hcell⟩ := pairsR_open HL.out
  unfold maxLen at kc
  have CS := Lib.hid hcell; clear hcell
  have CN := Lib.hid (show (w.alloc (.cells #[.int .i64 n] 3)).cell? ⟨w.heap.size, 0, none⟩ = some (.int .i64 n) by simp)
  go_enter Tryz.func185, Tryz.ntmps185
  go_wp2_with fail
  refine (idxB_any _ L n w.heap.size _ HL.out CN.out HG.out).mono ?_
  rintro e w1 ⟨⟨k, hk, rfl, hf⟩ | ⟨rfl, hf⟩, hb⟩
  · have E := Lib.hid (show bfirstE n L = 0 by rw [bfirstE, if_neg HN.out, hf]; rfl)
    have V := Lib.hid (show firstV n L = L[k].1 by rw [firstV, if_neg HN.out, hf]; rfl)
    obtain ⟨b, off, rfl, hcs⟩ := CS.out (by omega)
    have c0 := cell_below hb (hcs k hk).1
    obtain ⟨x, hx⟩ : ∃ x, x = L[k].1 := ⟨_, rfl⟩
    rw [← hx] at c0
    have X := Lib.hid hx
    have B2 := Lib.hid (BB.out.trans (hb.mono BB.out.size))
    clear hf hx hcs hb
    have i1 : (0 : Int) ≤ (k : Int) := Int.natCast_nonneg _
    have i2 : (k : Int) < (L.length : Int) := by omega
    go_wp2
    go_ret2
    exact ⟨by rw [E.out, V.out, ← X.out]; rfl, B2.out⟩
  · have E := Lib.hid (show bfirstE n L = 5 by rw [bfirstE, if_neg HN.out, hf]; rfl)
    have V := Lib.hid (show firstV n L = 0 by rw [firstV, if_neg HN.out, hf]; rfl)
    have B2 := Lib.hid (BB.out.trans (hb.mono BB.out.size))
    clear hf hb
    go_wp2
    go_ret2
    exact ⟨by rw [E.out, V.out]; rfl, B2.out⟩

end Go.Proofs.YtgelojhpanbnaaaGreatDoor

namespace Go.Proofs.YtgelojhpanbnaaaGreatDoor
set_option linter.unusedVariables false

abbrev TL := Int × List (Int × Int)

def meetT (la lb : Int) (x y : Int × Int) : Bool := decide (max x.2 y.2 < min (x.2 + la) (y.2 + lb))

def meetB (a b : TL) : Bool := a.2.any fun x => b.2.any fun y => meetT a.1 b.1 x y

def metAt (T : List TL) (i k : Nat) : Bool := if h : i < T.length ∧ k < T.length then meetB (T[i]'h.1) (T[k]'h.2) else false

def rowC (T : List TL) (i j : Nat) : List (Int × Int) := ((List.range j).filter (fun k => decide (i < k) && metAt T i k)).map (fun k : Nat => ((i : Int), (k : Int)))

def clU (T : List TL) (i : Nat) : List (Int × Int) := (List.range i).flatMap fun x => rowC T x T.length

theorem clU_next (T : List TL) (i : Nat) : clU T (i + 1) = clU T i ++ rowC T i T.length := by
  unfold clU; rw [List.range_succ, List.flatMap_append]; simp

theorem rowC_0 (T : List TL) (i : Nat) : rowC T i (i + 1) = [] := by
  unfold rowC
  rw [List.map_eq_nil_iff, List.filter_eq_nil_iff]
  intro k hk h
  have := List.mem_range.1 hk
  simp at h; omega

theorem rowC_next (T : List TL) (i j : Nat) (h1 : i < j) : rowC T i (j + 1) = rowC T i j ++ (if metAt T i j then [((i : Int), (j : Int))] else []) := by
  unfold rowC
  rw [List.range_succ, List.filter_append, List.map_append]
  congr 1
  by_cases h : metAt T i j = true
  · simp [h, h1]
  · simp [h]

theorem rowC_len (T : List TL) (i j : Nat) : (rowC T i j).length ≤ j := by
  unfold rowC
  rw [List.length_map]
  exact Nat.le_trans (List.length_filter_le _ _) (by simp)

theorem clU_len (T : List TL) (i : Nat) : (clU T i).length ≤ i * T.length := by
  induction i with
  | zero => simp [clU]
  | succ i ih => rw [clU_next, List.length_append, Nat.add_mul]; have := rowC_len T i T.length; omega

def sumN (T : List TL) : Nat := (T.map fun x => x.2.length).sum

def fstE : List Int → Int
  | [] => 0
  | e :: l => if e ≠ 0 then e else fstE l

def allE (k : Nat) (es : List Int) (n : Nat) : Int := if 20 < k then 4 else if fstE es ≠ 0 then fstE es else if 200 < n then 4 else 0

theorem fstE_app (l r : List Int) : fstE (l ++ r) = if fstE l ≠ 0 then fstE l else fstE r := by
  induction l with
  | nil => simp [fstE]
  | cons e l ih =>
    by_cases h : e = 0
    · simp [fstE, h, ih]
    · simp [fstE, h]

theorem fstE_one (e : Int) : fstE [e] = e := by
  unfold fstE
  by_cases h : e ≠ 0
  · rw [if_pos h]
  · rw [if_neg h]; unfold fstE; omega

end Go.Proofs.YtgelojhpanbnaaaGreatDoor

namespace Go.Proofs.YtgelojhpanbnaaaGreatDoor
set_option linter.unusedVariables false

def catT (T : List TL) : List (Int × Int × Int) := T.flatMap fun t => t.2.map fun x => (x.1, x.2, x.2 + t.1)

def enc3 (x : Int × Int × Int) : List Value := [.int .i64 x.1, .int .i64 x.2.1, .int .i64 x.2.2]

def takenL (T : List TL) : List (Int × Int) := (catT T).map fun x => x.2

theorem catT_len (T : List TL) : (catT T).length = sumN T := by
  unfold catT sumN
  rw [List.length_flatMap]
  congr 1
  exact List.map_congr_left fun t _ => by simp

theorem catT_app (T U : List TL) : catT (T ++ U) = catT T ++ catT U := by unfold catT; rw [List.flatMap_append]

theorem catT_one (t : TL) : (catT [t]).flatMap enc3 = t.2.flatMap (encT t.1) := by
  unfold catT
  rw [List.flatMap_cons, List.flatMap_nil, List.append_nil, List.flatMap_map]
  rfl

end Go.Proofs.YtgelojhpanbnaaaGreatDoor

namespace Go.Proofs.YtgelojhpanbnaaaGreatDoor
set_option linter.unusedVariables false

theorem takenL_mem {T : List TL} {x : Int × Int} : x ∈ takenL T ↔ ∃ t ∈ T, ∃ y ∈ t.2, x = (y.2, y.2 + t.1) := by
  unfold takenL catT
  constructor
  · intro h
    obtain ⟨z, hz, rfl⟩ := List.mem_map.1 h
    obtain ⟨t, ht, hz2⟩ := List.mem_flatMap.1 hz
    obtain ⟨y, hy, rfl⟩ := List.mem_map.1 hz2
    exact ⟨t, ht, y, hy, rfl⟩
  · rintro ⟨t, ht, y, hy, rfl⟩
    exact List.mem_map.2 ⟨(y.1, y.2, y.2 + t.1), List.mem_flatMap.2 ⟨t, ht, List.mem_map.2 ⟨y, hy, rfl⟩⟩, rfl⟩

theorem takenL_len (T : List TL) : (takenL T).length = sumN T := by unfold takenL; rw [List.length_map, catT_len]

def tkF (t : List (Int × Int)) (K : List (Int × Int)) : List (Int × Int) := ofL (t ++ ofL K)
def tkL (D : List (List (Int × Int))) : List (Int × Int) := D.foldl tkF []

theorem tkL_snoc (D : List (List (Int × Int))) (k : Nat) (h : k < D.length) : tkL (D.take (k + 1)) = tkF (tkL (D.take k)) D[k] := by
  unfold tkL; rw [List.take_succ_eq_append_getElem h, List.foldl_append]; rfl

theorem tkF_len (t K : List (Int × Int)) : (tkF t K).length ≤ t.length + K.length := by
  unfold tkF
  have h1 := ofL_len (t ++ ofL K)
  have h2 := ofL_len K
  rw [List.length_append] at h1
  omega

theorem ofL_up {L : List (Int × Int)} (h : ∀ b ∈ L, b.1 ≤ b.2) : ∀ b ∈ ofL L, b.1 ≤ b.2 := by
  rw [ofL_norm h]; intro b hb; exact Int.le_of_lt ((norm_sep h).1 b hb)

theorem tkF_up {t K : List (Int × Int)} (h : ∀ b ∈ t, b.1 ≤ b.2) (h2 : ∀ b ∈ K, b.1 ≤ b.2) : ∀ b ∈ tkF t K, b.1 ≤ b.2 :=
  ofL_up fun b hb => by rcases List.mem_append.1 hb with h3 | h3; exact h b h3; exact ofL_up h2 b h3

theorem tkF_cov {t K : List (Int × Int)} (h : ∀ b ∈ t, b.1 ≤ b.2) (h2 : ∀ b ∈ K, b.1 ≤ b.2) (x : Int) : covB (tkF t K) x = (covB t x || covB K x) := by
  unfold tkF
  have h3 : ∀ b ∈ t ++ ofL K, b.1 ≤ b.2 := fun b hb => by rcases List.mem_append.1 hb with h3 | h3; exact h b h3; exact ofL_up h2 b h3
  rw [ofL_norm h3, norm_cov h3, covB_append, ofL_norm h2, norm_cov h2]

theorem tk_fold : ∀ (D : List (List (Int × Int))) (t : List (Int × Int)), (∀ b ∈ t, b.1 ≤ b.2) → (∀ K ∈ D, ∀ b ∈ K, b.1 ≤ b.2) →
    (∀ b ∈ D.foldl tkF t, b.1 ≤ b.2) ∧ ∀ x, covB (D.foldl tkF t) x = (covB t x || D.any fun K => covB K x)
  | [], t, h, _ => ⟨h, fun x => by simp⟩
  | K :: D, t, h, h2 => by
    have h3 := h2 K List.mem_cons_self
    obtain ⟨a1, a2⟩ := tk_fold D (tkF t K) (tkF_up h h3) (fun K' hK => h2 K' (List.mem_cons_of_mem _ hK))
    exact ⟨a1, fun x => by rw [List.foldl_cons, a2, tkF_cov h h3, List.any_cons, Bool.or_assoc]⟩

theorem tkL_up {D : List (List (Int × Int))} (h : ∀ K ∈ D, ∀ b ∈ K, b.1 ≤ b.2) : ∀ b ∈ tkL D, b.1 ≤ b.2 := (tk_fold D [] (by simp) h).1

theorem tkL_cov {D : List (List (Int × Int))} (h : ∀ K ∈ D, ∀ b ∈ K, b.1 ≤ b.2) (x : Int) : covB (tkL D) x = D.any fun K => covB K x := by
  have := (tk_fold D [] (by simp) h).2 x
  rw [show covB [] x = false from rfl, Bool.false_or] at this
  exact this

def seekE (L : List (Int × Int)) (a b n : Int) : Int := if strE a b ≠ 0 then strE a b else bfirstE n (freeL b (normL L) a)
def seekV (L : List (Int × Int)) (a b n : Int) : Int := if strE a b ≠ 0 then 0 else firstV n (freeL b (normL L) a)

theorem seek_good {L : List (Int × Int)} {a b : Int} (hL : ∀ x ∈ L, x.1 ≤ x.2) (h : strE a b = 0) : Good (freeL b (normL L) a) := fun c hc => by
  have hs := strE_ok h
  obtain ⟨f1, f2, f3⟩ := free_in (b := b) (a := a) (norm_sep hL) c hc
  omega

end Go.Proofs.YtgelojhpanbnaaaGreatDoor

namespace Go.Proofs.YtgelojhpanbnaaaGreatDoor
open Go.RowKit
set_option linter.unusedSimpArgs false
set_option linter.unusedVariables false

section
variable {P : Program} {ops : Array Oper} {rest : List Oper} {o : Oper} {a : Act} {Q : Exit → Act → World → Prop}

end

end Go.Proofs.YtgelojhpanbnaaaGreatDoor
