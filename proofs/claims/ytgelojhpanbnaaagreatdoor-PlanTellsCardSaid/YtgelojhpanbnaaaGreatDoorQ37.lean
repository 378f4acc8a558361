/- Texts joined into one (a claim has at most 60 files): How many times events have on each day of a month, plainly: two ways of counting are one; plan.Load's closure that counts a minute: its contract; plan.Load: how many times events have on each day of a month: its contract. -/
import Derived.Test.YtgelojhpanbnaaaGreatDoorQ24
import Derived.Test.YtgelojhpanbnaaaGreatDoorQ25
import Derived.Test.YtgelojhpanbnaaaGreatDoorQ13
import Derived.Laws.OwnMore
import Derived.Test.YtgelojhpanbnaaaGreatDoorQ35
import Derived.Test.YtgelojhpanbnaaaGreatDoorQ31
import Derived.Test.YtgelojhpanbnaaaGreatDoorTimD
namespace Go.Proofs.YtgelojhpanbnaaaGreatDoor
open Go.RowKit Go.Shelf
set_option linter.unusedSimpArgs false
set_option linter.unusedVariables false

def onDay (low : Int) (i : Nat) (n : Int) : Bool := decide (low + i * 1440 ≤ n ∧ n < low + (i + 1) * 1440)

def loadC (low : Int) (days : Nat) (Ns : List Int) : List Int := (List.range days).map fun (i : Nat) => ((Ns.countP (onDay low i) : Nat) : Int)

theorem loadC_len (low : Int) (days : Nat) (Ns : List Int) : (loadC low days Ns).length = days := by simp [loadC]

theorem loadC_nil (low : Int) (days : Nat) : loadC low days [] = List.replicate days 0 := by
  refine List.ext_getElem (by simp [loadC]) fun i h1 h2 => ?_
  simp [loadC]

theorem loadC_get {low : Int} {days : Nat} {Ns : List Int} {i : Nat} (h : i < (loadC low days Ns).length) : (loadC low days Ns)[i] = ((Ns.countP (onDay low i) : Nat) : Int) := by simp [loadC]

theorem loadC_le {low : Int} {days : Nat} {Ns : List Int} {i : Nat} (h : i < (loadC low days Ns).length) : 0 ≤ (loadC low days Ns)[i] ∧ (loadC low days Ns)[i] ≤ Ns.length := by
  rw [loadC_get]
  have := List.countP_le_length (p := onDay low i) (l := Ns)
  omega

theorem loadC_snoc {low : Int} {days : Nat} {Ns : List Int} {n : Int} {i : Nat} (h : i < (loadC low days Ns).length) (h1 : low + i * 1440 ≤ n) (h2 : n < low + (i + 1) * 1440) : loadC low days (Ns ++ [n]) = (loadC low days Ns).set i ((loadC low days Ns)[i] + 1) := by
  refine List.ext_getElem (by simp [loadC]) fun k g1 g2 => ?_
  have g3 : k < (loadC low days Ns).length := by rw [loadC_len]; rw [loadC_len] at g1; exact g1
  rw [loadC_get, List.getElem_set, List.countP_append]
  by_cases hk : i = k
  · subst hk
    have e : onDay low i n = true := decide_eq_true ⟨h1, h2⟩
    rw [if_pos rfl, loadC_get]
    simp [List.countP_cons, e]
  · have e : onDay low k n = false := decide_eq_false (by omega)
    rw [if_neg hk, loadC_get]
    simp [List.countP_cons, e]

theorem loadC_out {low : Int} {days : Nat} {Ns : List Int} {n : Int} (h : n < low ∨ low + days * 1440 ≤ n) : loadC low days (Ns ++ [n]) = loadC low days Ns := by
  refine List.ext_getElem (by simp [loadC]) fun k g1 g2 => ?_
  rw [loadC_get, loadC_get, List.countP_append]
  rw [loadC_len] at g1
  have e : onDay low k n = false := decide_eq_false (by omega)
  simp [List.countP_cons, e]

theorem loadC_ext {low : Int} {days : Nat} {A B : List Int} (h : ∀ i, i < days → A.countP (onDay low i) = B.countP (onDay low i)) : loadC low days A = loadC low days B := by
  refine List.ext_getElem (by simp [loadC]) fun k g1 g2 => ?_
  rw [loadC_get, loadC_get, h k (by rw [loadC_len] at g1; exact g1)]

def lodP (C : List (Int × Int)) (X : List Int) (D : List (Int × Int)) : List Int := X.filter (fun t => (reallyC C t).1 == t) ++ (D.filter fun c => c.2 != 0 && c.2 != c.1).map (·.2)

def lodR (C : List (Int × Int)) (P : List Int) : List Int := (P.filter fun t => !(reallyC C t).2).map fun t => (reallyC C t).1

theorem really_no {C : List (Int × Int)} {t : Int} (h : ∀ c ∈ C, c.1 ≠ t) : reallyC C t = (t, false) := by
  unfold reallyC
  cases hf : C.find? (fun c => c.1 == t) with
  | none => rfl
  | some c => exact absurd (by simpa using List.find?_some hf) (h c (List.mem_of_find?_eq_some hf))

theorem really_at {C : List (Int × Int)} (h : C.Pairwise (fun x y => x.1 < y.1)) {c : Int × Int} (hc : c ∈ C) : reallyC C c.1 = (c.2, c.2 == 0) := by
  unfold reallyC
  cases hf : C.find? (fun d => d.1 == c.1) with
  | none => exact absurd (List.find?_eq_none.1 hf c hc) (by simp)
  | some d =>
    have h1 := List.mem_of_find?_eq_some hf
    have h2 : d.1 = c.1 := by simpa using List.find?_some hf
    have : d = c := by
      obtain ⟨i, hi, rfl⟩ := List.mem_iff_getElem.1 h1
      obtain ⟨j, hj, rfl⟩ := List.mem_iff_getElem.1 hc
      have hp := List.pairwise_iff_getElem.1 h
      rcases Nat.lt_trichotomy i j with g | g | g
      · have := hp i j hi hj g; omega
      · subst g; rfl
      · have := hp j i hj hi g; omega
    subst this; rfl

theorem countP_nodup {α : Type} {p : α → Bool} {A B : List α} (hA : A.Nodup) (hB : B.Nodup) (h : ∀ x, p x = true → (x ∈ A ↔ x ∈ B)) : A.countP p = B.countP p := by
  rw [List.countP_eq_length_filter, List.countP_eq_length_filter]
  refine ((List.perm_ext_iff_of_nodup (hA.filter _) (hB.filter _)).2 fun x => ?_).length_eq
  rw [List.mem_filter, List.mem_filter]
  constructor
  · rintro ⟨h1, h2⟩; exact ⟨(h x h2).1 h1, h2⟩
  · rintro ⟨h1, h2⟩; exact ⟨(h x h2).2 h1, h2⟩

theorem up_nodup {L : List Int} (h : L.Pairwise (· < ·)) : L.Nodup := h.imp fun h => by omega

theorem countP_split {α : Type} (p q : α → Bool) (L : List α) : L.countP p = L.countP (fun x => p x && q x) + L.countP (fun x => p x && !q x) := by
  induction L with
  | nil => rfl
  | cons x L ih =>
    simp only [List.countP_cons, ih]
    cases p x <;> cases q x <;> simp <;> omega

theorem countP_eq {α : Type} {p q : α → Bool} {L : List α} (h : ∀ x ∈ L, p x = q x) : L.countP p = L.countP q := by
  induction L with
  | nil => rfl
  | cons x L ih =>
    simp only [List.countP_cons]
    rw [ih fun y hy => h y (List.mem_cons_of_mem _ hy), h x List.mem_cons_self]

theorem load_one {T M N : List Int} {C : List (Int × Int)} {low : Int} {days : Nat} (hC : C.Pairwise (fun x y => x.1 < y.1)) (h1 : ∀ c ∈ C, 1 ≤ c.1) {i : Nat} (hi : i < days) :
    (lodR C ((chgR T M N C).foldl putL (evL T M N low (low + days * 1440 - 1)))).countP (onDay low i) = (lodP C (evL T M N low (low + days * 1440 - 1)) (chgL T M N C)).countP (onDay low i) := by
  obtain ⟨hi1, hhi⟩ : ∃ h, h = low + days * 1440 - 1 := ⟨_, rfl⟩
  rw [← hhi]
  obtain ⟨X, hX⟩ : ∃ X, X = evL T M N low hi1 := ⟨_, rfl⟩
  obtain ⟨D, hD⟩ : ∃ D, D = chgL T M N C := ⟨_, rfl⟩
  obtain ⟨P, hP⟩ : ∃ P, P = (chgR T M N C).foldl putL X := ⟨_, rfl⟩
  have mX : ∀ t, t ∈ X ↔ IsT T M N t ∧ low ≤ t ∧ t ≤ hi1 := fun t => by rw [hX]; exact evL_is
  have mD : ∀ c, c ∈ D ↔ c ∈ C ∧ IsT T M N c.1 := fun c => by rw [hD]; exact chgL_mem hC
  have mP : ∀ t, t ∈ P ↔ t ∈ X ∨ t ∈ D.map (·.1) := fun t => by
    rw [hP, putF_mem, chgR_mem hC h1, List.mem_map]
    constructor
    · rintro (h | ⟨⟨c, hc, rfl⟩, h⟩)
      · exact .inl h
      · exact .inr ⟨c, (mD c).2 ⟨hc, h⟩, rfl⟩
    · rintro (h | ⟨c, hc, rfl⟩)
      · exact .inl h
      · exact .inr ⟨⟨c, ((mD c).1 hc).1, rfl⟩, ((mD c).1 hc).2⟩
  have uX : X.Pairwise (· < ·) := by rw [hX]; exact evL_up ..
  have uP : P.Pairwise (· < ·) := by rw [hP]; exact putF_up _ _ uX
  have uD : D.Pairwise (fun x y => x.1 < y.1) := by rw [hD]; unfold chgL; exact hC.filter _
  have nD : (D.map (·.1)).Nodup := by rw [List.nodup_iff_pairwise_ne, List.pairwise_map]; exact uD.imp fun h => by omega
  rw [← hX, ← hD, ← hP]
  clear hX hD hP
  have rD : ∀ c ∈ D, reallyC C c.1 = (c.2, c.2 == 0) := fun c hc => really_at hC ((mD c).1 hc).1
  have rX : ∀ t ∈ X, t ∉ D.map (·.1) → reallyC C t = (t, false) := fun t ht hn => really_no fun c hc he => hn (List.mem_map.2 ⟨c, (mD c).2 ⟨hc, by rw [he]; exact ((mX t).1 ht).1⟩, he⟩)
  obtain ⟨q, hq⟩ : ∃ q, q = onDay low i := ⟨_, rfl⟩
  have qw : ∀ t, q t = true → low ≤ t ∧ t ≤ hi1 := fun t h => by
    rw [hq] at h
    have := of_decide_eq_true h
    omega
  rw [← hq]
  clear hq hhi
  -- the reference's
  have e1 : (lodR C P).countP q = P.countP (fun t => !(reallyC C t).2 && q (reallyC C t).1) := by
    unfold lodR
    rw [List.countP_map, List.countP_filter]
    exact countP_eq fun x _ => by simp [Bool.and_comm]
  have e2 : P.countP (fun t => !(reallyC C t).2 && q (reallyC C t).1) = (X.filter (fun t => !decide (t ∈ D.map (·.1))) ++ D.map (·.1)).countP (fun t => !(reallyC C t).2 && q (reallyC C t).1) := by
    refine countP_nodup (up_nodup uP) (List.nodup_append.2 ⟨(up_nodup uX).filter _, nD, fun a ha b hb he => ?_⟩) fun t _ => ?_
    · have := (List.mem_filter.1 ha).2
      subst he
      simp only [Bool.not_eq_true', decide_eq_false_iff_not] at this
      exact this hb
    · rw [mP, List.mem_append, List.mem_filter]
      by_cases hm : t ∈ D.map (·.1)
      · exact ⟨fun _ => .inr hm, fun _ => .inr hm⟩
      · constructor
        · rintro (h | h)
          · exact .inl ⟨h, by simpa using hm⟩
          · exact absurd h hm
        · rintro (h | h)
          · exact .inl h.1
          · exact absurd h hm
  have e3 : (D.map (·.1)).countP (fun t => !(reallyC C t).2 && q (reallyC C t).1) = D.countP (fun c => c.2 != 0 && q c.2) := by
    rw [List.countP_map]
    refine countP_eq fun c hc => ?_
    simp only [Function.comp, rD c hc]
    rfl
  have e4 : (X.filter (fun t => !decide (t ∈ D.map (·.1)))).countP (fun t => !(reallyC C t).2 && q (reallyC C t).1) = X.countP (fun t => q t && !decide (t ∈ D.map (·.1))) := by
    rw [List.countP_filter]
    refine countP_eq fun t ht => ?_
    by_cases hm : t ∈ D.map (·.1)
    · simp [hm]
    · rw [rX t ht hm]; simp [hm]
  -- the code's
  have f1 : (lodP C X D).countP q = X.countP (fun t => q t && (reallyC C t).1 == t) + D.countP (fun c => q c.2 && (c.2 != 0 && c.2 != c.1)) := by
    unfold lodP
    rw [List.countP_append, List.countP_filter, List.countP_map, List.countP_filter]
    rfl
  have f2 : X.countP (fun t => q t && (reallyC C t).1 == t) = X.countP (fun t => (q t && (reallyC C t).1 == t) && decide (t ∈ D.map (·.1))) + X.countP (fun t => (q t && (reallyC C t).1 == t) && !decide (t ∈ D.map (·.1))) := countP_split _ _ _
  have f3 : X.countP (fun t => (q t && (reallyC C t).1 == t) && !decide (t ∈ D.map (·.1))) = X.countP (fun t => q t && !decide (t ∈ D.map (·.1))) := by
    refine countP_eq fun t ht => ?_
    by_cases hm : t ∈ D.map (·.1)
    · simp [hm]
    · rw [rX t ht hm]; simp
  have f4 : X.countP (fun t => (q t && (reallyC C t).1 == t) && decide (t ∈ D.map (·.1))) = ((D.filter fun c => c.2 == c.1).map (·.1)).countP q := by
    have g1 : X.countP (fun t => (q t && (reallyC C t).1 == t) && decide (t ∈ D.map (·.1))) = (X.filter fun t => (reallyC C t).1 == t && decide (t ∈ D.map (·.1))).countP q := by
      rw [List.countP_filter]
      exact countP_eq fun t _ => by rw [Bool.and_assoc]
    rw [g1]
    refine countP_nodup ((up_nodup uX).filter _) ?_ fun t hqt => ?_
    · exact nD.sublist ((List.filter_sublist ..).map _)
    · refine List.mem_filter.trans (Iff.trans ?_ List.mem_map.symm)
      constructor
      · rintro ⟨h2, h3⟩
        simp only [Bool.and_eq_true, decide_eq_true_eq, beq_iff_eq] at h3
        obtain ⟨c, hc, rfl⟩ := List.mem_map.1 h3.2
        refine ⟨c, List.mem_filter.2 ⟨hc, ?_⟩, rfl⟩
        have := h3.1
        rw [rD c hc] at this
        simpa using this
      · rintro ⟨c, hc, rfl⟩
        obtain ⟨hc, h3⟩ := List.mem_filter.1 hc
        refine ⟨(mX _).2 ⟨((mD c).1 hc).2, qw _ hqt⟩, ?_⟩
        rw [rD c hc]
        simp only [Bool.and_eq_true, decide_eq_true_eq]
        exact ⟨h3, List.mem_map.2 ⟨c, hc, rfl⟩⟩
  have f5 : ((D.filter fun c => c.2 == c.1).map (·.1)).countP q = D.countP (fun c => (c.2 != 0 && q c.2) && (c.2 == c.1)) := by
    rw [List.countP_map, List.countP_filter]
    refine countP_eq fun c hc => ?_
    have h0 := h1 c ((mD c).1 hc).1
    by_cases he : c.2 = c.1
    · have h2 : (c.2 != 0) = true := by simp; omega
      simp only [Function.comp, he]
      rw [he] at h2
      simp [h2]
    · have h2 : (c.2 == c.1) = false := by simpa using he
      simp [h2]
  have f6 : D.countP (fun c => q c.2 && (c.2 != 0 && c.2 != c.1)) = D.countP (fun c => (c.2 != 0 && q c.2) && !(c.2 == c.1)) := by
    refine countP_eq fun c _ => ?_
    have : (c.2 != c.1) = !(c.2 == c.1) := rfl
    rw [this]
    cases q c.2 <;> cases (c.2 != 0) <;> simp
  have f7 := countP_split (fun c : Int × Int => c.2 != 0 && q c.2) (fun c => c.2 == c.1) D
  rw [e1, e2, List.countP_append, e3, e4, f1, f2, f3, f4, f5, f6]
  omega

theorem load_all {α : Type} {low : Int} {days : Nat} {f g : α → List Int} : ∀ {L : List α}, (∀ e ∈ L, ∀ i, i < days → (f e).countP (onDay low i) = (g e).countP (onDay low i)) → loadC low days (L.flatMap f) = loadC low days (L.flatMap g) := by
  intro L h
  refine loadC_ext fun i hi => ?_
  induction L with
  | nil => rfl
  | cons e L ih =>
    rw [List.flatMap_cons, List.flatMap_cons, List.countP_append, List.countP_append, h e List.mem_cons_self i hi, ih fun e he => h e (List.mem_cons_of_mem _ he)]

theorem lodP_len (C : List (Int × Int)) (X : List Int) (D : List (Int × Int)) : (lodP C X D).length ≤ X.length + D.length := by
  unfold lodP
  rw [List.length_append, List.length_map]
  have := List.length_filter_le (fun t => (reallyC C t).1 == t) X
  have := List.length_filter_le (fun c : Int × Int => c.2 != 0 && c.2 != c.1) D
  omega

theorem lodR_len (C : List (Int × Int)) (P : List Int) : (lodR C P).length ≤ P.length := by
  unfold lodR
  rw [List.length_map]
  exact List.length_filter_le _ _

end Go.Proofs.YtgelojhpanbnaaaGreatDoor

namespace Go.Proofs.YtgelojhpanbnaaaGreatDoor
open Go.RowKit Go.Shelf
set_option linter.unusedSimpArgs false
set_option linter.unusedVariables false

structure Kg (g : Nat) (w w' : World) : Prop where
  size : w.heap.size ≤ w'.heap.size
  block : ∀ k, k < w.heap.size → k ≠ g → w'.heap[k]? = w.heap[k]?

theorem Kg.refl (g : Nat) (w : World) : Kg g w w := ⟨Nat.le_refl _, fun _ _ _ => rfl⟩

theorem Kg.trans {g : Nat} {a b c : World} (h : Kg g a b) (h2 : Kg g b c) : Kg g a c :=
  ⟨Nat.le_trans h.size h2.size, fun k hk hg => (h2.block k (Nat.lt_of_lt_of_le hk h.size) hg).trans (h.block k hk hg)⟩

theorem Kg.of_below {g : Nat} {w w' : World} (h : Below w.heap.size w w') : Kg g w w' := ⟨h.size, fun k hk _ => h.block k hk⟩

theorem Kg.of_grown {g : Nat} {w w' : World} (h : w.grownBy w' (some g)) : Kg g w w' := ⟨h.size, fun k hk hg => h.block k hk (by simpa using hg)⟩

theorem Kg.cell {g : Nat} {w w' : World} {p : Addr} {u : Value} (h : Kg g w w') (hp : p.block ≠ g) (hc : w.cell? p = some u) : w'.cell? p = some u := by
  have hlt := World.block_lt_of_cell? w p hc
  have := h.block p.block hlt hp
  unfold World.cell? at hc ⊢
  rw [this]; exact hc

structure LodS (w0 : World) (pd pf po g n : Nat) (fi : Int) (Ns : List Int) (W : World) : Prop where
  b : Below w0.heap.size w0 W
  d : Boxed W pd 3 (.int .i64 n)
  f : Boxed W pf 3 (.int .i64 fi)
  o : Boxed W po 22 (.slice (some ⟨g, 0, none⟩) n n)
  r : W.ownsRow w0.heap.size 3 1 (.slice (some ⟨g, 0, none⟩) n n) n ((loadC ((fi - 1) * 1440) n Ns).map (Value.int .i64))
  nd : pd ≠ g
  nf : pf ≠ g
  no : po ≠ g

theorem LodS.below {w0 : World} {pd pf po g n : Nat} {fi : Int} {Ns : List Int} {W W' : World} (h : LodS w0 pd pf po g n fi Ns W) (hb : Below W.heap.size W W') : LodS w0 pd pf po g n fi Ns W' :=
  ⟨h.b.trans (hb.mono h.b.size), (hb.block _ h.d.lt).trans h.d, (hb.block _ h.f.lt).trans h.f, (hb.block _ h.o.lt).trans h.o, own_kept h.r hb, h.nd, h.nf, h.no⟩

theorem LodS.lt {w0 : World} {pd pf po g n : Nat} {fi : Int} {Ns : List Int} {W : World} (h : LodS w0 pd pf po g n fi Ns W) : w0.heap.size ≤ g ∧ g < W.heap.size := World.ownsRow.lt h.r g rfl

set_option maxRecDepth 100000 in
set_option maxHeartbeats 2000000 in
theorem count_any (t fi : Int) (n g pd pf po : Nat) (Ns : List Int) (w0 W : World) (h : LodS w0 pd pf po g n fi Ns W) (ht : 0 ≤ t ∧ t < 157785120) (hfi : 1 ≤ fi ∧ fi ≤ 109573) (hn : n ≤ 31) (hl : Ns.length ≤ 1000000000) :
    Calls Tryz.prog 79 #[.int .i64 t, .pointer (some ⟨pf, 0, none⟩), .pointer (some ⟨pd, 0, none⟩), .pointer (some ⟨po, 0, none⟩)] W
      fun e W' => e = .returned (.tuple #[]) ∧ LodS w0 pd pf po g n fi (Ns ++ [t]) W' ∧ Kg g W W' := by
  have cf := h.f.cell; have cd := h.d.cell; have co := h.o.cell
  have H := Lib.hid h
  have s1 : IntKind.i64.wrap (t / 1440 + 1) = t / 1440 + 1 := IntWalk.i64_in _ (by omega)
  have s2 : IntKind.i64.wrap (t / 1440 + 1 - fi) = t / 1440 + 1 - fi := IntWalk.i64_in _ (by omega)
  by_cases h0 : 0 ≤ t / 1440 + 1 - fi
  · obtain ⟨i, hi⟩ : ∃ i : Nat, (i : Int) = t / 1440 + 1 - fi := ⟨(t / 1440 + 1 - fi).toNat, by omega⟩
    by_cases h1 : i < n
    · have hlen : i < (loadC ((fi - 1) * 1440) n Ns).length := by rw [loadC_len]; exact h1
      have c0 : W.cell? ⟨g, i, none⟩ = some (.int .i64 (loadC ((fi - 1) * 1440) n Ns)[i]) := by
        rw [World.ownsRow.cellAt h.r i (by omega), List.getElem?_map, List.getElem?_eq_getElem hlen, Option.map_some]
      have f0 : W.frozen? ⟨g, i, none⟩ = false := World.ownsRow.frozenAt h.r i
      have SN := Lib.hid (loadC_snoc hlen (low := (fi - 1) * 1440) (n := t) (by omega) (by omega))
      have xb := loadC_le hlen
      obtain ⟨x, hx⟩ : ∃ x, x = (loadC ((fi - 1) * 1440) n Ns)[i] := ⟨_, rfl⟩
      rw [← hx] at c0 SN xb
      have hs := World.ownsRow.stored h.r i (.int .i64 (x + 1))
      have NX := Lib.hid (show LodS w0 pd pf po g n fi (Ns ++ [t]) (W.setCell ⟨g, i, none⟩ (.int .i64 (x + 1))) from
        ⟨h.b.setCell (p := ⟨g, i, none⟩) h.lt.1 _, h.d.kept hs.2 (by simpa using h.nd), h.f.kept hs.2 (by simpa using h.nf), h.o.kept hs.2 (by simpa using h.no), by rw [SN.out, List.map_set]; exact hs.1, h.nd, h.nf, h.no⟩)
      have GX := Lib.hid (Kg.of_grown hs.2)
      have xs : IntKind.i64.wrap (x + 1) = x + 1 := IntWalk.i64_in _ (by omega)
      have E := Lib.hid hi
      have i0 : (0 : Int) ≤ (i : Int) := by omega
      have i1 : (i : Int) < (n : Int) := by omega
      have d1 : decide ((0 : Int) ≤ (i : Int)) = true := decide_eq_true i0
      have d2 : decide ((i : Int) < (n : Int)) = true := decide_eq_true i1
      rw [← hi] at s2
      have hi2 : t / 1440 + 1 - fi = (i : Int) := hi.symm
      clear h hs hlen hx h0 h1 hi SN
      go_enter Tryz.func79, Tryz.ntmps79
      go_wp2
      exact bodyPost_end (v := .tuple #[]) (results_none rfl _ _ _) rfl ⟨rfl, NX.out, GX.out⟩
    · have SN := Lib.hid (loadC_out (low := (fi - 1) * 1440) (days := n) (Ns := Ns) (n := t) (.inr (by omega)))
      have NX := Lib.hid (show LodS w0 pd pf po g n fi (Ns ++ [t]) W from ⟨h.b, h.d, h.f, h.o, by rw [SN.out]; exact h.r, h.nd, h.nf, h.no⟩)
      have i0 : (0 : Int) ≤ (i : Int) := by omega
      have i1 : ¬ (i : Int) < (n : Int) := by omega
      have d1 : decide ((0 : Int) ≤ (i : Int)) = true := decide_eq_true i0
      have d2 : decide ((i : Int) < (n : Int)) = false := decide_eq_false i1
      rw [← hi] at s2
      have hi2 : t / 1440 + 1 - fi = (i : Int) := hi.symm
      clear h h0 h1 hi SN
      go_enter Tryz.func79, Tryz.ntmps79
      go_wp2
      exact bodyPost_end (v := .tuple #[]) (results_none rfl _ _ _) rfl ⟨rfl, NX.out, Kg.refl _ _⟩
  · have SN := Lib.hid (loadC_out (low := (fi - 1) * 1440) (days := n) (Ns := Ns) (n := t) (.inl (by omega)))
    have NX := Lib.hid (show LodS w0 pd pf po g n fi (Ns ++ [t]) W from ⟨h.b, h.d, h.f, h.o, by rw [SN.out]; exact h.r, h.nd, h.nf, h.no⟩)
    obtain ⟨z, hz⟩ : ∃ z, z = t / 1440 + 1 - fi := ⟨_, rfl⟩
    have d1 : decide ((0 : Int) ≤ z) = false := decide_eq_false (by rw [hz]; exact h0)
    have hz2 : t / 1440 + 1 - fi = z := hz.symm
    rw [← hz] at s2
    clear h h0 SN hz
    go_enter Tryz.func79, Tryz.ntmps79
    go_wp2
    exact bodyPost_end (v := .tuple #[]) (results_none rfl _ _ _) rfl ⟨rfl, NX.out, Kg.refl _ _⟩

end Go.Proofs.YtgelojhpanbnaaaGreatDoor

namespace Go.Proofs.YtgelojhpanbnaaaGreatDoor
open Go.RowKit Go.Shelf
set_option linter.unusedSimpArgs false
set_option linter.unusedVariables false
attribute [local go_sem] Oper.semAt_some

noncomputable def Ev.lod (low : Int) (n : Nat) (e : Ev) : List Int := lodP e.C (evL e.T e.M e.N low (low + n * 1440 - 1)) (chgL e.T e.M e.N e.C)

def lodE (y m : Int) (L : List Ev) : Int := if Cal.monthB y m = true then (if 20 < L.length then 4 else fstE (L.map Ev.F)) else 1

def lodLow (y m : Int) : Int := (Cal.num y m 1 - 1) * 1440
def lodN (y m : Int) : Nat := (Cal.dim y m).toNat

noncomputable def lodV (y m : Int) (L : List Ev) : List Int := loadC (lodLow y m) (lodN y m) (L.flatMap (Ev.lod (lodLow y m) (lodN y m)))

theorem Ev.T_len {e : Ev} (h : e.F = 0) : e.T.length ≤ 109573 := ruleT_len (evF_facts h).ok

theorem Ev.lod_len {low : Int} {n : Nat} {e : Ev} (h : e.F = 0) : (e.lod low n).length ≤ 109873 := by
  have h0 := evF_facts h
  have h1 := lodP_len e.C (evL e.T e.M e.N low (low + n * 1440 - 1)) (chgL e.T e.M e.N e.C)
  have h2 := evL_len e.T e.M e.N low (low + n * 1440 - 1)
  have h3 := Ev.T_len h
  have h4 : (chgL e.T e.M e.N e.C).length ≤ e.C.length := List.length_filter_le ..
  have h5 := h0.lenM
  have h6 := h0.lenC
  unfold Ev.lod
  omega

theorem lod_flat {low : Int} {n : Nat} : ∀ {K : List Ev}, (∀ e ∈ K, e.F = 0) → (K.flatMap (Ev.lod low n)).length ≤ K.length * 109873 := by
  intro K h
  induction K with
  | nil => simp
  | cons e K ih =>
    have h1 := Ev.lod_len (low := low) (n := n) (h e List.mem_cons_self)
    have h2 := ih fun x hx => h x (List.mem_cons_of_mem _ hx)
    rw [List.flatMap_cons, List.length_append, List.length_cons]
    omega

theorem fstE_zero : ∀ {es : List Int}, fstE es = 0 → ∀ x ∈ es, x = 0
  | [], _, x, hx => by cases hx
  | e :: es, h, x, hx => by
    unfold fstE at h
    by_cases he : e = 0
    · rw [if_neg (by omega)] at h
      rcases List.mem_cons.1 hx with rfl | hx
      · exact he
      · exact fstE_zero h x hx
    · rw [if_pos he] at h; omega

theorem LodS.made {w w3 w4 : World} {pd pf n g : Nat} {fi : Int} {low : Int} (hb : Below w.heap.size w w3) (hd : Boxed w3 pd 3 (.int .i64 n)) (hf : Boxed w3 pf 3 (.int .i64 fi)) (hg : g = w3.heap.size)
    (hr : w4.ownsRow w.heap.size 3 1 (.slice (some ⟨g, 0, none⟩) n n) n (madeCells (Value.int .i64 0).cells (n * 1)).toList) (hgr : w3.grownBy w4 none) :
    LodS w pd pf w4.heap.size g n fi [] (w4.alloc (.cells #[.slice (some ⟨g, 0, none⟩) n n] 22)) := by
  have h1 := hd.lt; have h2 := hf.lt
  have hb4 : Below w3.heap.size w3 w4 := ⟨hgr.os, hgr.tape, hgr.output, hgr.size, fun k hk => hgr.block k hk (by simp)⟩
  have hb4' : Below w.heap.size w w4 := hb.trans (hb4.mono hb.size)
  have hlt := (World.ownsRow.lt hr g rfl).2
  refine ⟨hb4'.alloc hb4'.size _, (hd.kept hgr (by simp)).alloc _, (hf.kept hgr (by simp)).alloc _, Boxed.new _ _ _, ?_, by omega, by omega, by omega⟩
  have e1 : (madeCells (Value.int .i64 0).cells (n * 1)).toList = ((loadC ((fi - 1) * 1440) n []).map (Value.int .i64)) := by
    rw [loadC_nil, List.map_replicate, Nat.mul_one]
    exact toList_madeCells_one _ _
  rw [← e1]
  exact hr.alloc _

def cntX (C : List (Int × Int)) (X : List Int) (k : Nat) : List Int := (X.take k).filter (fun t => (reallyC C t).1 == t)
def cntD (D : List (Int × Int)) (k : Nat) : List Int := ((D.take k).filter fun c => c.2 != 0 && c.2 != c.1).map (·.2)

theorem cntX_next {C : List (Int × Int)} {X : List Int} {k : Nat} (h : k < X.length) : cntX C X (k + 1) = cntX C X k ++ (if (reallyC C X[k]).1 = X[k] then [X[k]] else []) := by
  unfold cntX
  rw [List.take_succ_eq_append_getElem h, List.filter_append]
  by_cases h0 : (reallyC C X[k]).1 = X[k]
  · simp [h0]
  · simp [h0]

theorem cntD_next {D : List (Int × Int)} {k : Nat} (h : k < D.length) : cntD D (k + 1) = cntD D k ++ (if D[k].2 ≠ 0 ∧ D[k].2 ≠ D[k].1 then [D[k].2] else []) := by
  unfold cntD
  rw [List.take_succ_eq_append_getElem h, List.filter_append, List.map_append]
  by_cases h0 : D[k].2 = 0
  · simp [h0]
  · by_cases h1 : D[k].2 = D[k].1
    · simp [h0, h1]
    · simp [h0, h1]

theorem cntX_len (C : List (Int × Int)) (X : List Int) (k : Nat) : (cntX C X k).length ≤ X.length := by
  unfold cntX
  have h1 := List.length_filter_le (fun t => (reallyC C t).1 == t) (X.take k)
  rw [List.length_take] at h1
  omega

theorem cntD_len (D : List (Int × Int)) (k : Nat) : (cntD D k).length ≤ D.length := by
  unfold cntD
  have h1 := List.length_filter_le (fun c : Int × Int => c.2 != 0 && c.2 != c.1) (D.take k)
  rw [List.length_take] at h1
  rw [List.length_map]
  omega

def PlodP (E : Int) (V : List Int) (w : World) (e : Ending) (w' : World) : Prop := ∃ u, e = .returned (.tuple #[u, errV E]) ∧ IntsR w' u (if E = 0 then V else []) ∧ Below w.heap.size w w'

theorem EvC.kg {g : Nat} {W W' : World} {ob : Nat} {snm stx : ByteArray} {st ln : Int} {rp : Bool} {fr ev ct ti : Int} {vm vd vw vp vM vN vC vA : Value} (h : EvC W ob snm stx st ln rp fr ev ct ti vm vd vw vp vM vN vC vA) (hk : Kg g W W') (ho : ob ≠ g) : EvC W' ob snm stx st ln rp fr ev ct ti vm vd vw vp vM vN vC vA :=
  ⟨hk.cell ho h.k0, hk.cell ho h.k1, hk.cell ho h.k2, hk.cell ho h.k3, hk.cell ho h.k4, hk.cell ho h.k5, hk.cell ho h.k6, hk.cell ho h.k7, hk.cell ho h.k8, hk.cell ho h.k9, hk.cell ho h.k10, hk.cell ho h.k11, hk.cell ho h.k12, hk.cell ho h.k13, hk.cell ho h.k14, hk.cell ho h.k15, hk.cell ho h.k16⟩

set_option maxRecDepth 100000 in
set_option maxHeartbeats 16000000 in
theorem pload_any (v : Value) (L : List Ev) (y m : Int) (w : World) (hw : Months w) (hL : EvsR w v L) :
    Calls Tryz.prog 18 #[v, .int .i64 y, .int .i64 m] w (PlodP (lodE y m L) (lodV y m L) w) := by
  obtain ⟨p, cap, rfl, hc1, hc2, hcell⟩ := evsR_open hL
  unfold maxLen at hc2
  by_cases hm : Cal.monthB y m = true
  case neg =>
    have FE := Lib.hid (show lodE y m L = 1 by rw [lodE, if_neg hm])
    have DN := Lib.hid (days_no y m w (by simpa using hm))
    clear hm hcell hL
    go_enter Tryz.func18, Tryz.ntmps18
    go_wp2_with (go_at_call 14; refine DN.out.mono ?_; rintro e w' ⟨rfl, rfl⟩)
    go_ret2
    exact ⟨_, by rw [FE.out]; rfl, by rw [FE.out]; exact intsR_nil _, (Below.refl _ _).alloc (Nat.le_refl _) _⟩
  obtain ⟨n, hn⟩ : ∃ n : Nat, (n : Int) = Cal.dim y m := ⟨(Cal.dim y m).toNat, by have := Cal.dim_bd y m; omega⟩
  have hnb : 28 ≤ n ∧ n ≤ 31 := by have := Cal.dim_bd y m; omega
  have hd1 : Cal.dateB y m 1 = true := Cal.date_mk hm (by omega) (by omega)
  obtain ⟨fi, hfi⟩ : ∃ fi, fi = Cal.num y m 1 := ⟨_, rfl⟩
  have hfb : 1 ≤ fi ∧ fi ≤ 109573 := by have := Cal.num_bd hd1; omega
  obtain ⟨low, hlow⟩ : ∃ low, low = (fi - 1) * 1440 := ⟨_, rfl⟩
  obtain ⟨hi, hhi⟩ : ∃ hi, hi = low + n * 1440 - 1 := ⟨_, rfl⟩
  have LV := Lib.hid (show lodV y m L = loadC low n (L.flatMap (Ev.lod low n)) by
    rw [lodV, show lodLow y m = low by rw [lodLow, ← hfi, hlow], show lodN y m = n by rw [lodN]; omega])
  have LE := Lib.hid (show lodE y m L = if 20 < L.length then 4 else fstE (L.map Ev.F) by rw [lodE, if_pos hm])
  obtain ⟨es, hes⟩ : ∃ es, es = L.map Ev.F := ⟨_, rfl⟩
  obtain ⟨PE, hPE⟩ : ∃ z, z = lodE y m L := ⟨_, rfl⟩
  obtain ⟨PV, hPV⟩ : ∃ z, z = lodV y m L := ⟨_, rfl⟩
  rw [← hPV] at LV
  rw [← hPE, ← hes] at LE
  rw [← hPE, ← hPV]
  have lE : es.length = L.length := by rw [hes, List.length_map]
  have DY := Lib.hid (days_at y m n w hw hm hn.symm)
  have DO := Lib.hid (show ∀ wx, Below w.heap.size w wx → Calls Tryz.prog 13 #[.agg #[.int .i64 y, .int .i64 m, .int .i64 1]] wx (fun e w' => e = .returned (.tuple #[.int .i64 fi, .nilIface]) ∧ Below wx.heap.size wx w') from fun wx hbx => by
    rw [hfi]; exact of_yes y m 1 wx (hw.below hbx) hd1)
  have CK := Lib.hid (show ∀ (k : Nat) (hk : k < L.length) (hE2 : k < es.length) (wx : World), Below w.heap.size w wx → Calls Tryz.prog 12 #[.agg L[k].cells.toArray] wx (fun e w' => e = .returned (errV es[k]) ∧ Below wx.heap.size wx w') from fun k hk hE2 wx hbx => by
    have hr := (hL.2 _ (List.getElem_mem hk)).below hbx
    have e2 : es[k] = L[k].F := by simp [hes]
    rw [e2]
    exact check_any _ _ _ _ _ _ _ _ _ _ _ _ _ _ _ _ _ _ _ _ _ _ _ _ _ wx hr.r.1 hr.r.2 hr.r.3 hr.r.4 hr.r.5 hr.r.6 hr.r.7 hr.r.8 hr.nm hr.tx hr.cl)
  have OF := Lib.hid (show ∀ (k : Nat) (hk : k < L.length) (hE2 : k < es.length), es[k] = 0 → ∀ wx : World, Below w.heap.size w wx → Calls Tryz.prog 80 #[.agg L[k].cells.toArray, .int .i64 low, .int .i64 hi] wx (fun e w' => ∃ v, e = .returned v ∧ OwnI wx.heap.size w' v (evL L[k].T L[k].M L[k].N low hi) ∧ Below wx.heap.size wx w') from fun k hk hE2 h0 wx hbx => by
    have hr := (hL.2 _ (List.getElem_mem hk)).below hbx
    have e2 : es[k] = L[k].F := by simp [hes]
    rw [e2] at h0
    have hF := evF_facts h0
    obtain ⟨h1, h2, h3, h4, hM, hN, hC, hA⟩ := hr.r
    exact evof_any _ _ _ _ _ _ _ _ _ _ _ _ _ _ _ _ _ _ _ _ _ _ _ low hi wx (hw.below hbx) h1 h2 h3 h4 (by obtain ⟨_, _, e, _⟩ := pairsR_open hC; rw [e]; rfl) (by obtain ⟨_, _, e, _⟩ := almsR_open hA; rw [e]; rfl) hM hN hF.ok)
  have RE := Lib.hid (show ∀ (k : Nat) (hk : k < L.length) (hE2 : k < es.length), es[k] = 0 → ∀ (t : Int) (wx : World), Below w.heap.size w wx → Calls Tryz.prog 81 #[.agg L[k].cells.toArray, .int .i64 t] wx (fun e w' => e = .returned (.tuple #[.int .i64 (reallyC L[k].C t).1, .bool (reallyC L[k].C t).2]) ∧ Below wx.heap.size wx w') from fun k hk hE2 h0 t wx hbx => by
    have hr := (hL.2 _ (List.getElem_mem hk)).below hbx
    have e2 : es[k] = L[k].F := by simp [hes]
    rw [e2] at h0
    have hF := evF_facts h0
    exact really_any _ _ _ _ _ _ _ _ _ _ _ _ _ _ _ _ _ _ _ _ _ _ _ _ _ t wx hr.r hF.upC hF.lenC)
  have CH := Lib.hid (show ∀ (k : Nat) (hk : k < L.length) (hE2 : k < es.length), es[k] = 0 → ∀ wx : World, Below w.heap.size w wx → Calls Tryz.prog 82 #[.agg L[k].cells.toArray] wx (fun e w' => ∃ v, e = .returned v ∧ OwnC wx.heap.size w' v (chgL L[k].T L[k].M L[k].N L[k].C) ∧ Below wx.heap.size wx w') from fun k hk hE2 h0 wx hbx => by
    have hr := (hL.2 _ (List.getElem_mem hk)).below hbx
    have e2 : es[k] = L[k].F := by simp [hes]
    rw [e2] at h0
    exact changed_any _ _ _ _ _ _ _ _ _ _ _ _ _ _ _ _ _ _ _ _ _ _ _ _ _ wx (hw.below hbx) hr.r (evF_facts h0))
  have FF := Lib.hid (show ∀ (k : Nat) (hk : k < L.length) (hE2 : k < es.length), es[k] = 0 → (∀ t ∈ evL L[k].T L[k].M L[k].N low hi, 0 ≤ t ∧ t < 157785120) ∧ (∀ c ∈ chgL L[k].T L[k].M L[k].N L[k].C, 0 ≤ c.2 ∧ c.2 < 157785120) ∧ (evL L[k].T L[k].M L[k].N low hi).length ≤ 109673 ∧ (chgL L[k].T L[k].M L[k].N L[k].C).length ≤ 100 from fun k hk hE2 h0 => by
    have e2 : es[k] = L[k].F := by simp [hes]
    rw [e2] at h0
    have hF := evF_facts h0
    refine ⟨fun t ht => ?_, fun c hc => ?_, ?_, ?_⟩
    · rcases (evL_is.1 ht).1.1 with h | h
      · exact ruleT_time hF.ok h
      · have := timeB_yes (hF.tM t h); omega
    · have h := (List.mem_filter.1 hc).1
      rcases (hF.tC c h).2 with h2 | h2
      · omega
      · have := timeB_yes h2; omega
    · have h1 := evL_len L[k].T L[k].M L[k].N low hi
      have h2 := Ev.T_len h0
      have h3 := hF.lenM
      omega
    · exact Nat.le_trans (List.length_filter_le ..) hF.lenC)
  have LL := Lib.hid (show ∀ (k : Nat) (hk : k ≤ L.length), k ≤ 20 → fstE (es.take k) = 0 → ((L.take k).flatMap (Ev.lod low n)).length ≤ 3000000 from fun k hk h20 h0 => by
    have h1 : ∀ e ∈ L.take k, e.F = 0 := fun e he => fstE_zero h0 _ (by rw [hes, ← List.map_take]; exact List.mem_map_of_mem he)
    have h2 := lod_flat (low := low) (n := n) h1
    rw [List.length_take] at h2
    omega)
  have RD := Lib.hid (show ∀ (k : Nat) (hk : k < L.length) (wx : World), Below w.heap.size w wx → L[k].Rd wx from fun k hk wx hbx => (hL.2 _ (List.getElem_mem _)).below hbx)
  have LX := Lib.hid (show ∀ (k : Nat) (hk : k < L.length), (L[k].lod low n) = cntX L[k].C (evL L[k].T L[k].M L[k].N low hi) (evL L[k].T L[k].M L[k].N low hi).length ++ cntD (chgL L[k].T L[k].M L[k].N L[k].C) (chgL L[k].T L[k].M L[k].N L[k].C).length from fun k hk => by
    rw [cntX, cntD, List.take_length, List.take_length, hhi]; rfl)
  have HC := Lib.hid hcell
  obtain ⟨w1, hw1⟩ : ∃ x, x = w.alloc (.cells #[.int .i64 n] 3) := ⟨_, rfl⟩
  obtain ⟨pd, hpd⟩ : ∃ x, x = w.heap.size := ⟨_, rfl⟩
  have hb1 : Below w.heap.size w w1 := by rw [hw1]; exact (Below.refl _ _).alloc (Nat.le_refl _) _
  have BD := Lib.hid (show Boxed w1 pd 3 (.int .i64 n) by rw [hw1, hpd]; exact Boxed.new w _ _)
  have B1 := Lib.hid hb1; have W1 := Lib.hid hw1; have PD := Lib.hid hpd
  have LE2 := Lib.hid lE
  have LW := Lib.hid hlow
  have HH := Lib.hid hhi
  have lowb : 0 ≤ low ∧ low ≤ 157783680 := by omega
  obtain ⟨len, hlen⟩ : ∃ n, n = L.length := ⟨_, rfl⟩
  have NL := Lib.hid hlen
  rw [← hlen] at hc1 LE LE2 ⊢
  clear hw hL hcell hm hn hd1 hfi hes hPE hPV lE hlen hw1 hpd hb1 hlow hhi
  go_enter Tryz.func18, Tryz.ntmps18
  go_upto_region 2 with (go_at_call 14; refine DY.out.mono ?_; rintro e w' ⟨rfl, rfl⟩)
  rw [← W1.out]
  rw [← PD.out]
  by_cases h20 : 20 < len
  · have t1 : decide ((20 : Int) < (len : Int)) = true := decide_eq_true (by omega)
    have t1b : decide (20 < len) = true := decide_eq_true h20
    have FE := Lib.hid (show PE = 4 by rw [LE.out, if_pos h20])
    clear h20
    go_wp2
    go_ret2
    exact ⟨_, by rw [FE.out]; rfl, by rw [FE.out]; exact intsR_nil _, B1.out⟩
  have H20 := Lib.hid h20
  have t1 : decide ((20 : Int) < (len : Int)) = false := decide_eq_false (by omega)
  have t1b : decide (20 < len) = false := decide_eq_false h20
  have l20 : len ≤ 20 := by omega
  clear h20
  go_upto_region 6 with fail
  clear t1 t1b
  go_cut [10, 9] (fun s10 s9 wx => (∃ pf : Nat, s10 = .pointer (some ⟨pf, 0, none⟩) ∧ Boxed wx pf 3 (.int .i64 fi)) ∧ s9 = .nilIface ∧ Below w1.heap.size w1 wx)
  case first => as_aux_lemma =>
    go_wp2_with fail
    refine (DO.out w1 B1.out).mono ?_; rintro e w2 ⟨rfl, hb⟩
    have HB := Lib.hid (hb.alloc hb.size (.cells #[.int .i64 fi] 3))
    clear hb
    go_wp2
    go_meet
    exact ⟨⟨_, rfl, Boxed.new _ _ _⟩, rfl, HB.out⟩
  case rest =>
  obtain ⟨⟨pf, rfl, hbf⟩, rfl, hb3⟩ := hcut
  obtain ⟨w3, rfl⟩ : ∃ x, x = wc := ⟨_, rfl⟩
  have B3 := Lib.hid (B1.out.trans (hb3.mono B1.out.size))
  have BD3 := Lib.hid (show Boxed w3 pd 3 (.int .i64 n) from (hb3.block _ BD.out.lt).trans BD.out)
  have BF3 := Lib.hid hbf
  clear hb3 hbf BD B1 W1
  go_upto_region 9 with fail
  go_cut [11] (fun s11 wx => ∃ po g : Nat, s11 = .pointer (some ⟨po, 0, none⟩) ∧ LodS w pd pf po g n fi [] wx)
  case first => as_aux_lemma =>
    obtain ⟨i0, hi0, hz0, hz1, hz2⟩ := info_parts intInfoP
    have cd := BD3.out.cell
    go_wp2_with (refine wpList_make_full _ rfl _ _ _ rfl w.heap.size 3 i0 (.int .i64 0) 1 Tryz.underlying22 hi0 hz0 hz1 .i64 .i64 n n n rfl rfl rfl rfl (by rw [hz2]; omega) (by unfold maxLen; omega) B3.out.size ?_; intro w4 hown hgr)
    have LS := Lib.hid (LodS.made B3.out BD3.out BF3.out rfl hown hgr (low := low))
    clear hown hgr cd
    go_wp2
    go_meet
    exact ⟨_, _, rfl, LS.out⟩
  case rest =>
  obtain ⟨po, g, rfl, hls⟩ := hcut
  have LS0 := Lib.hid hls
  obtain ⟨w4, rfl⟩ : ∃ x, x = wc := ⟨_, rfl⟩
  clear hls BD3 BF3 B3
  go_upto_region 10 with fail
  go_wp2_with fail
  go_loopg [49] len (fun gg iv wr => ∃ (k : Nat) (Ns : List Int), k ≤ len ∧ iv = .int .i64 k ∧ gg = len - k ∧ Hid (Ns = (L.take k).flatMap (Ev.lod low n)) ∧ Hid (fstE (es.take k) = 0) ∧ LodS w pd pf po g n fi Ns wr)
  case atStart => exact ⟨0, [], Nat.zero_le _, rfl, rfl, Lib.hid rfl, Lib.hid rfl, LS0.out⟩
  case round => as_aux_lemma =>
    obtain ⟨k, Ns, hk, rfl, hg, HN, HF, hls⟩ := hrel
    obtain ⟨w1, rfl⟩ : ∃ x, x = wr := ⟨_, rfl⟩
    have G := Lib.hid hg; have LS := Lib.hid hls
    have NLn := Lib.hid (show Ns.length ≤ 3000000 by rw [HN.out]; exact LL.out k (by rw [← NL.out]; exact hk) (by omega) HF.out)
    clear hg hls
    by_cases hlt : k < len
    · have hk1 : k < L.length := by rw [← NL.out]; exact hlt
      have hk3 : k < es.length := by rw [LE2.out]; exact hlt
      obtain ⟨lb, lo, rfl, hcs⟩ := HC.out (by omega)
      have eo := (hcs k hk1).below LS.out.b
      have CK1 := Lib.hid (CK.out k hk1 hk3)
      have OF1 := Lib.hid (OF.out k hk1 hk3)
      have RE1 := Lib.hid (RE.out k hk1 hk3)
      have CH1 := Lib.hid (CH.out k hk1 hk3)
      have FF1 := Lib.hid (FF.out k hk1 hk3)
      have LX1 := Lib.hid (LX.out k hk1)
      have rd := RD.out k hk1 _ LS.out.b
      have TN := Lib.hid (show (L.take (k + 1)).flatMap (Ev.lod low n) = (L.take k).flatMap (Ev.lod low n) ++ L[k].lod low n by rw [List.take_succ_eq_append_getElem hk1, List.flatMap_append]; simp)
      have EN := Lib.hid (show fstE (es.take (k + 1)) = es[k] by rw [List.take_succ_eq_append_getElem hk3, fstE_app, if_neg (by rw [HF.out]; simp), fstE_one])
      have ED := Lib.hid (show es[k] ≠ 0 → PE = es[k] from fun h => by
        have h1 : fstE es = es[k] := by
          have h2 : fstE es = fstE (es.take (k + 1) ++ es.drop (k + 1)) := by rw [List.take_append_drop]
          rw [h2, fstE_app, EN.out, if_pos h]
        rw [LE.out, if_neg H20.out, h1])
      obtain ⟨Y, hY⟩ : ∃ Y, Y = L[k].lod low n := ⟨_, rfl⟩
      rw [← hY] at LX1 TN
      obtain ⟨e, he⟩ : ∃ e, e = L[k] := ⟨_, rfl⟩
      rw [← he] at eo CK1 OF1 RE1 CH1 FF1 LX1 rd
      obtain ⟨E, hE⟩ : ∃ E, E = es[k] := ⟨_, rfl⟩
      rw [← hE] at CK1 OF1 RE1 CH1 FF1 EN ED
      obtain ⟨X, hX⟩ : ∃ X, X = evL e.T e.M e.N low hi := ⟨_, rfl⟩
      rw [← hX] at OF1 FF1 LX1
      obtain ⟨D, hD⟩ : ∃ D, D = chgL e.T e.M e.N e.C := ⟨_, rfl⟩
      rw [← hD] at CH1 FF1 LX1
      obtain ⟨o, hoo⟩ : ∃ o, o = lo + k * 17 := ⟨_, rfl⟩
      rw [← hoo] at eo
      obtain ⟨nm, tx, st, ln, rp, fr, ev, ct, ti, vm, vd, vw, vp, vM, vN, vC, vA, mo, da, we, pk, M, N, C, A⟩ := e
      obtain ⟨q0, q1, q2, q3, q4, q5, q6, q7, q8, q9, q10, q11, q12, q13, q14, q15, q16⟩ := eo
      simp only [Ev.cells] at q0 q1 q2 q3 q4 q5 q6 q7 q8 q9 q10 q11 q12 q13 q14 q15 q16 CK1 OF1 RE1 CH1 LX1
      obtain ⟨hR0, hnm, htx, hcl⟩ := rd
      simp only at hR0
      obtain ⟨h1, h2, h3, h4, hM, hN, hC, hA⟩ := hR0
      obtain ⟨am, km, rfl, -, -, -⟩ := intsR_open h1
      obtain ⟨ad, kd, rfl, -, -, -⟩ := intsR_open h2
      obtain ⟨aw, kw, rfl, -, -, -⟩ := pairsR_open h3
      obtain ⟨ap, kp, rfl, -, -, -⟩ := intsR_open h4
      obtain ⟨aM, kM, rfl, -, -, -⟩ := intsR_open hM
      obtain ⟨aN, kN, rfl, -, -, -⟩ := intsR_open hN
      obtain ⟨aC, kC, rfl, -, -, -⟩ := pairsR_open hC
      obtain ⟨aA, kA, rfl, -, -, -⟩ := almsR_open hA
      obtain ⟨snm, hsnm⟩ : ∃ s, s = bs nm := ⟨_, rfl⟩
      obtain ⟨stx, hstx⟩ : ∃ s, s = bs tx := ⟨_, rfl⟩
      rw [← hsnm] at q0 CK1 OF1 RE1 CH1; rw [← hstx] at q1 CK1 OF1 RE1 CH1
      obtain ⟨w2, hw2⟩ : ∃ x, x = w1.alloc (.cells #[.string snm, .string stx, .int .i64 st, .int .i64 ln, .bool rp, .int .i64 fr, .int .i64 ev, .int .i64 ct, .int .i64 ti, .slice am mo.length km, .slice ad da.length kd, .slice aw we.length kw, .slice ap pk.length kp, .slice aM M.length kM, .slice aN N.length kN, .slice aC C.length kC, .slice aA A.length kA] 29) := ⟨_, rfl⟩
      obtain ⟨ob, hob⟩ : ∃ x, x = w1.heap.size := ⟨_, rfl⟩
      have EC := hw2 ▸ evC_new w1 29 snm stx st ln rp fr ev ct ti (.slice am mo.length km) (.slice ad da.length kd) (.slice aw we.length kw) (.slice ap pk.length kp) (.slice aM M.length kM) (.slice aN N.length kN) (.slice aC C.length kC) (.slice aA A.length kA)
      rw [← hob] at EC
      have EC := Lib.hid EC
      have hb12 : Below w1.heap.size w1 w2 := by rw [hw2]; exact (Below.refl _ _).alloc (Nat.le_refl _) _
      have LS2 := Lib.hid (LS.out.below hb12)
      have OG := Lib.hid (show ob ≠ g by have := LS.out.lt; omega)
      have W2 := Lib.hid hw2; have OB := Lib.hid hob
      have i0 : (0 : Int) ≤ (k : Int) := Int.natCast_nonneg _
      have i2 : (k : Int) < (len : Int) := by omega
      have hob2 : lb < w1.heap.size := World.block_lt_of_cell? w1 _ q0
      rw [hoo] at q0 q1 q2 q3 q4 q5 q6 q7 q8 q9 q10 q11 q12 q13 q14 q15 q16
      clear he hE hX hD hY hoo h1 h2 h3 h4 hM hN hC hA hnm htx hcl hsnm hstx hw2 hob hb12 hcs
      go_upto_region 13 with fail
      rw [← W2.out]
      rw [← OB.out]
      clear q0 q1 q2 q3 q4 q5 q6 q7 q8 q9 q10 q11 q12 q13 q14 q15 q16
      have k0 := EC.out.k0; have k1 := EC.out.k1; have k2 := EC.out.k2; have k3 := EC.out.k3; have k4 := EC.out.k4; have k5 := EC.out.k5; have k6 := EC.out.k6; have k7 := EC.out.k7; have k8 := EC.out.k8; have k9 := EC.out.k9; have k10 := EC.out.k10; have k11 := EC.out.k11; have k12 := EC.out.k12; have k13 := EC.out.k13; have k14 := EC.out.k14; have k15 := EC.out.k15; have k16 := EC.out.k16
      go_cut [14] (fun s14 wx => s14 = errV E ∧ Below w2.heap.size w2 wx)
      case first => as_aux_lemma =>
        go_wp2_with fail
        refine (CK1.out w2 LS2.out.b).mono ?_; rintro e w3 ⟨rfl, hb⟩
        have HB := Lib.hid hb
        clear hb k0 k1 k2 k3 k4 k5 k6 k7 k8 k9 k10 k11 k12 k13 k14 k15 k16
        go_wp2
        go_meet
        exact ⟨rfl, HB.out⟩
      case rest =>
      obtain ⟨rfl, hb3⟩ := hcut
      obtain ⟨w3, rfl⟩ : ∃ x, x = wc := ⟨_, rfl⟩
      have LS3 := Lib.hid (LS2.out.below hb3)
      have E3 := Lib.hid (EC.out.below hb3)
      clear hb3 k0 k1 k2 k3 k4 k5 k6 k7 k8 k9 k10 k11 k12 k13 k14 k15 k16
      by_cases h0 : E ≠ 0
      · have EV := Lib.hid (show errV E = .iface 124 (.int .i64 E) by rw [errV, if_neg h0])
        have FE := Lib.hid (ED.out h0)
        have H0 := Lib.hid h0
        rw [EV.out]
        clear h0
        go_wp2
        go_ret2
        exact ⟨_, by rw [FE.out, EV.out]; rfl, by rw [FE.out, if_neg H0.out]; exact intsR_nil _, LS3.out.b⟩
      obtain rfl : E = 0 := by omega
      rw [errV_0]
      obtain ⟨fx, fd, lx, ld⟩ := FF1.out rfl
      have OF2 := Lib.hid (OF1.out rfl); have RE2 := Lib.hid (RE1.out rfl); have CH2 := Lib.hid (CH1.out rfl)
      have FX := Lib.hid fx; have FD := Lib.hid fd
      clear h0 CK1 OF1 RE1 CH1 FF1 ED fx fd
      go_upto_region 17 with fail
      have k0 := E3.out.k0; have k1 := E3.out.k1; have k2 := E3.out.k2; have k3 := E3.out.k3; have k4 := E3.out.k4; have k5 := E3.out.k5; have k6 := E3.out.k6; have k7 := E3.out.k7; have k8 := E3.out.k8; have k9 := E3.out.k9; have k10 := E3.out.k10; have k11 := E3.out.k11; have k12 := E3.out.k12; have k13 := E3.out.k13; have k14 := E3.out.k14; have k15 := E3.out.k15; have k16 := E3.out.k16
      have cf := LS3.out.f.cell; have cd := LS3.out.d.cell
      have e1 : IntKind.i64.wrap (fi - 1) = fi - 1 := IntWalk.i64_in _ (by omega)
      have e2 : (fi - 1) * 1440 = low := LW.out.symm
      have e3 : IntKind.i64.wrap low = low := IntWalk.i64_in _ (by omega)
      have e4 : IntKind.i64.wrap (fi - 1 + (n : Int)) = fi - 1 + (n : Int) := IntWalk.i64_in _ (by omega)
      have e5 : IntKind.i64.wrap ((fi - 1 + (n : Int)) * 1440) = (fi - 1 + (n : Int)) * 1440 := IntWalk.i64_in _ (by omega)
      have e6 : IntKind.i64.wrap ((fi - 1 + (n : Int)) * 1440 - 1) = (fi - 1 + (n : Int)) * 1440 - 1 := IntWalk.i64_in _ (by omega)
      have e7 : (fi - 1 + (n : Int)) * 1440 - 1 = hi := by have := HH.out; omega
      go_cut [69, 70, 71] (fun s69 s70 s71 wx => (∃ (va : Option Addr) (vc : Nat), s69 = .slice va X.length vc ∧ OwnI w3.heap.size wx (.slice va X.length vc) X) ∧ s70 = .int .i64 X.length ∧ s71 = .int .i64 0 ∧ Below w3.heap.size w3 wx)
      case first => as_aux_lemma =>
        go_wp2_with fail
        refine (OF2.out w3 LS3.out.b).mono ?_; rintro e w4 ⟨v, rfl, hv, hb⟩
        obtain ⟨va, vc, rfl, -, -, -⟩ := owns_cells hv
        have HV := Lib.hid hv; have HB := Lib.hid hb
        clear hv hb cf cd e1 e2 e3 e4 e5 e6 e7 k0 k1 k2 k3 k4 k5 k6 k7 k8 k9 k10 k11 k12 k13 k14 k15 k16
        go_wp2
        go_meet
        exact ⟨⟨_, _, rfl, HV.out⟩, rfl, rfl, HB.out⟩
      case rest =>
      obtain ⟨⟨va, vc, rfl, hv⟩, rfl, rfl, hb4⟩ := hcut
      obtain ⟨w4, rfl⟩ : ∃ x, x = wc := ⟨_, rfl⟩
      have LS4 := Lib.hid (LS3.out.below hb4)
      have E4 := Lib.hid (E3.out.below hb4)
      obtain ⟨va', vc', ev1, -, -, vcs⟩ := owns_cells hv
      cases ev1
      have XC := Lib.hid (show 0 < X.length → ∃ gx, va = some ⟨gx, 0, none⟩ ∧ gx ≠ g ∧ ∀ (j : Nat) (hj : j < X.length), w4.cell? ⟨gx, j, none⟩ = some (.int .i64 X[j]) from fun hp => by
        obtain ⟨gx, e1, -, q⟩ := vcs hp
        subst e1
        refine ⟨gx, rfl, ?_, fun j hj => q j _ (by rw [List.getElem?_map, List.getElem?_eq_getElem hj]; rfl)⟩
        have h1 := (World.ownsRow.lt hv gx rfl).1
        have h2 := LS3.out.lt
        omega)
      obtain ⟨xl, hxl⟩ : ∃ xl, xl = X.length := ⟨_, rfl⟩
      have XL := Lib.hid hxl
      rw [← hxl] at lx ⊢
      clear hv hb4 vcs hxl cf cd e1 e2 e3 e4 e5 e6 e7 OF2 k0 k1 k2 k3 k4 k5 k6 k7 k8 k9 k10 k11 k12 k13 k14 k15 k16
      go_upto_block 2 with fail
      go_cut [71] (fun s71 wx => LodS w pd pf po g n fi (Ns ++ cntX C X xl) wx ∧ Kg g w4 wx)
      case first => as_aux_lemma =>
        go_wp2_with fail
        go_loopg [71] xl (fun gg iv wr => ∃ j : Nat, j ≤ xl ∧ iv = .int .i64 j ∧ gg = xl - j ∧ LodS w pd pf po g n fi (Ns ++ cntX C X j) wr ∧ Kg g w4 wr)
        case atStart => exact ⟨0, Nat.zero_le _, rfl, rfl, by simpa [cntX] using LS4.out, Kg.refl _ _⟩
        case round => as_aux_lemma =>
          obtain ⟨j, hj, rfl, hg2, hls, hkg⟩ := hrel
          obtain ⟨w5, rfl⟩ : ∃ x, x = wr := ⟨_, rfl⟩
          have G2 := Lib.hid hg2; have LS5 := Lib.hid hls; have KG := Lib.hid hkg
          clear hg2 hls hkg
          by_cases hlt2 : j < xl
          · have hj1 : j < X.length := by rw [← XL.out]; exact hlt2
            obtain ⟨gx, rfl, hgx, q⟩ := XC.out (by omega)
            have c0 := KG.out.cell (p := ⟨gx, j, none⟩) hgx (q j hj1)
            have E5 := Lib.hid (E4.out.kg KG.out OG.out)
            have SN := Lib.hid (cntX_next (C := C) hj1)
            have nl : (Ns ++ cntX C X j).length ≤ 1000000000 := by
              have h1 := cntX_len C X j
              have h2 := NLn.out
              rw [← XL.out] at h1
              rw [List.length_append]; omega
            have xb := FX.out X[j] (List.getElem_mem _)
            obtain ⟨x, hx⟩ : ∃ x, x = X[j] := ⟨_, rfl⟩
            rw [← hx] at c0 SN xb
            have j0 : (0 : Int) ≤ (j : Int) := Int.natCast_nonneg _
            have j2 : (j : Int) < (xl : Int) := by omega
            obtain ⟨r1, hr1⟩ : ∃ z, z = (reallyC C x).1 := ⟨_, rfl⟩
            obtain ⟨r2, hr2⟩ : ∃ z, z = (reallyC C x).2 := ⟨_, rfl⟩
            have RX := Lib.hid (RE2.out x)
            rw [← hr1, ← hr2] at RX
            rw [← hr1] at SN
            clear hx q hr1 hr2
            go_upto_region 20 with fail
            have k0 := E5.out.k0; have k1 := E5.out.k1; have k2 := E5.out.k2; have k3 := E5.out.k3; have k4 := E5.out.k4; have k5 := E5.out.k5; have k6 := E5.out.k6; have k7 := E5.out.k7; have k8 := E5.out.k8; have k9 := E5.out.k9; have k10 := E5.out.k10; have k11 := E5.out.k11; have k12 := E5.out.k12; have k13 := E5.out.k13; have k14 := E5.out.k14; have k15 := E5.out.k15; have k16 := E5.out.k16
            go_cut [18] (fun s18 wx => s18 = .int .i64 r1 ∧ Below w5.heap.size w5 wx)
            case first => as_aux_lemma =>
              go_wp2_with fail
              refine (RX.out w5 LS5.out.b).mono ?_; rintro e w6 ⟨rfl, hb⟩
              have HB := Lib.hid hb
              clear hb c0 k0 k1 k2 k3 k4 k5 k6 k7 k8 k9 k10 k11 k12 k13 k14 k15 k16
              go_wp2
              go_meet
              exact ⟨rfl, HB.out⟩
            case rest => as_aux_lemma =>
            obtain ⟨rfl, hb6⟩ := hcut
            obtain ⟨w6, rfl⟩ : ∃ x, x = wc := ⟨_, rfl⟩
            have LS6 := Lib.hid (LS5.out.below hb6)
            have K6 := Lib.hid (KG.out.trans (Kg.of_below hb6))
            clear hb6 c0 RX k0 k1 k2 k3 k4 k5 k6 k7 k8 k9 k10 k11 k12 k13 k14 k15 k16
            by_cases hrx : r1 = x
            · have d1 : (r1 == x) = true := by simpa using hrx
              rw [if_pos hrx] at SN
              have H := Lib.hid hrx
              clear hrx
              go_wp2_with fail
              refine (count_any x fi n g pd pf po _ w w6 LS6.out xb (by omega) (by omega) nl).mono ?_; rintro e w7 ⟨rfl, hl7, hk7⟩
              have LS7 := Lib.hid (show LodS w pd pf po g n fi (Ns ++ cntX C X (j + 1)) w7 by rw [SN.out, ← List.append_assoc]; exact hl7)
              have K7 := Lib.hid (K6.out.trans hk7)
              clear hl7 hk7
              go_wp2
              go_roundg (xl - (j + 1))
              case measure => rw [G2.out]; omega
              case rel => exact ⟨j + 1, by omega, by go_num, rfl, LS7.out, K7.out⟩
            · have d1 : (r1 == x) = false := by simpa using hrx
              rw [if_neg hrx, List.append_nil] at SN
              have H := Lib.hid hrx
              clear hrx
              go_wp2
              go_roundg (xl - (j + 1))
              case measure => rw [G2.out]; omega
              case rel => exact ⟨j + 1, by omega, by go_num, rfl, by rw [SN.out]; exact LS6.out, K6.out⟩
          · obtain rfl : j = xl := by omega
            have j2 : ¬ (j : Int) < (j : Int) := by omega
            go_wp2
            go_meet
            exact ⟨LS5.out, KG.out⟩
      case rest => as_aux_lemma =>
      obtain ⟨hl5, hk5⟩ := hcut
      obtain ⟨w5, rfl⟩ : ∃ x, x = wc := ⟨_, rfl⟩
      have E5 := Lib.hid (E4.out.kg hk5 OG.out)
      obtain ⟨Ms, hMs⟩ : ∃ z, z = Ns ++ cntX C X xl := ⟨_, rfl⟩
      have LS5 := Lib.hid (show LodS w pd pf po g n fi Ms w5 by rw [hMs]; exact hl5)
      have ME := Lib.hid hMs
      have ml : Ms.length ≤ 4000000 := by
        have h1 := cntX_len C X xl
        have h2 := NLn.out
        rw [← XL.out] at h1
        rw [hMs, List.length_append]; omega
      clear hl5 hk5 hMs XC E4 LS4
      have k0 := E5.out.k0; have k1 := E5.out.k1; have k2 := E5.out.k2; have k3 := E5.out.k3; have k4 := E5.out.k4; have k5 := E5.out.k5; have k6 := E5.out.k6; have k7 := E5.out.k7; have k8 := E5.out.k8; have k9 := E5.out.k9; have k10 := E5.out.k10; have k11 := E5.out.k11; have k12 := E5.out.k12; have k13 := E5.out.k13; have k14 := E5.out.k14; have k15 := E5.out.k15; have k16 := E5.out.k16
      go_upto_region 24 with fail
      go_cut [89, 90, 91] (fun s89 s90 s91 wx => (∃ (va : Option Addr) (vc : Nat), s89 = .slice va D.length vc ∧ OwnC w5.heap.size wx (.slice va D.length vc) D) ∧ s90 = .int .i64 D.length ∧ s91 = .int .i64 0 ∧ Below w5.heap.size w5 wx)
      case first => as_aux_lemma =>
        go_wp2_with fail
        refine (CH2.out w5 LS5.out.b).mono ?_; rintro e w6 ⟨v, rfl, hv, hb⟩
        obtain ⟨va, vc, rfl, -, -, -⟩ := owns_cells hv
        have HV := Lib.hid hv; have HB := Lib.hid hb
        clear hv hb k0 k1 k2 k3 k4 k5 k6 k7 k8 k9 k10 k11 k12 k13 k14 k15 k16
        go_wp2
        go_meet
        exact ⟨⟨_, _, rfl, HV.out⟩, rfl, rfl, HB.out⟩
      case rest =>
      obtain ⟨⟨da2, dc2, rfl, hv⟩, rfl, rfl, hb6⟩ := hcut
      obtain ⟨w6, rfl⟩ : ∃ x, x = wc := ⟨_, rfl⟩
      have LS6 := Lib.hid (LS5.out.below hb6)
      obtain ⟨va', vc', ev1, -, -, vcs⟩ := owns_cells hv
      cases ev1
      have DC := Lib.hid (show 0 < D.length → ∃ gx, da2 = some ⟨gx, 0, none⟩ ∧ gx ≠ g ∧ ∀ (j : Nat) (hj : j < D.length), w6.cell? ⟨gx, j * 2, none⟩ = some (.int .i64 D[j].1) ∧ w6.cell? ⟨gx, j * 2 + 1, none⟩ = some (.int .i64 D[j].2) from fun hp => by
        obtain ⟨gx, e1, -, q⟩ := vcs hp
        subst e1
        refine ⟨gx, rfl, ?_, fun j hj => ⟨q (j * 2) _ (pairsV_at D j hj).1, q (j * 2 + 1) _ (pairsV_at D j hj).2⟩⟩
        have h1 := (World.ownsRow.lt hv gx rfl).1
        have h2 := LS5.out.lt
        omega)
      obtain ⟨dl, hdl⟩ : ∃ dl, dl = D.length := ⟨_, rfl⟩
      have DL := Lib.hid hdl
      rw [← hdl] at ld ⊢
      clear hv hb6 vcs hdl CH2 E5 k0 k1 k2 k3 k4 k5 k6 k7 k8 k9 k10 k11 k12 k13 k14 k15 k16
      go_upto_block 4 with fail
      go_wp2_with fail
      go_loopg [91] dl (fun gg iv wr => ∃ j : Nat, j ≤ dl ∧ iv = .int .i64 j ∧ gg = dl - j ∧ LodS w pd pf po g n fi (Ms ++ cntD D j) wr ∧ Kg g w6 wr)
      case atStart => exact ⟨0, Nat.zero_le _, rfl, rfl, by simpa [cntD] using LS6.out, Kg.refl _ _⟩
      case round => as_aux_lemma =>
        obtain ⟨j, hj, rfl, hg2, hls, hkg⟩ := hrel
        obtain ⟨w7, rfl⟩ : ∃ x, x = wr := ⟨_, rfl⟩
        have G2 := Lib.hid hg2; have LS7 := Lib.hid hls; have KG := Lib.hid hkg
        clear hg2 hls hkg
        by_cases hlt2 : j < dl
        · have hj1 : j < D.length := by rw [← DL.out]; exact hlt2
          obtain ⟨gx, rfl, hgx, q⟩ := DC.out (by omega)
          have c0 := KG.out.cell (p := ⟨gx, j * 2, none⟩) hgx (q j hj1).1
          have c1 := KG.out.cell (p := ⟨gx, j * 2 + 1, none⟩) hgx (q j hj1).2
          have SN := Lib.hid (cntD_next hj1)
          have nl : (Ms ++ cntD D j).length ≤ 1000000000 := by
            have h1 := cntD_len D j
            rw [← DL.out] at h1
            rw [List.length_append]; omega
          have xb := FD.out D[j] (List.getElem_mem _)
          obtain ⟨z, hz⟩ : ∃ z, z = D[j] := ⟨_, rfl⟩
          rw [← hz] at c0 c1 SN xb
          obtain ⟨x, y⟩ := z
          simp only at c0 c1 SN xb
          have j0 : (0 : Int) ≤ (j : Int) := Int.natCast_nonneg _
          have j2 : (j : Int) < (dl : Int) := by omega
          have KB := Lib.hid (show ∀ o : Obj, LodS w pd pf po g n fi (Ms ++ cntD D j) (w7.alloc o) ∧ Kg g w6 (w7.alloc o) from fun o => ⟨LS7.out.below ((Below.refl _ _).alloc (Nat.le_refl _) o), KG.out.trans (Kg.of_below ((Below.refl _ _).alloc (Nat.le_refl _) o))⟩)
          have hgx2 : gx < w7.heap.size := World.block_lt_of_cell? w7 _ c0
          clear hz q
          by_cases hy0 : y = 0
          · have d1 : (y != 0) = false := by simpa using hy0
            rw [if_neg (fun h => h.1 hy0), List.append_nil] at SN
            have H := Lib.hid hy0
            clear hy0
            go_wp2
            go_roundg (dl - (j + 1))
            case measure => rw [G2.out]; omega
            case rel => exact ⟨j + 1, by omega, by go_num, rfl, by rw [SN.out]; exact (KB.out _).1, (KB.out _).2⟩
          · have d1 : (y != 0) = true := by simpa using hy0
            by_cases hyx : y = x
            · have d2 : (y != x) = false := by simpa using hyx
              rw [if_neg (fun h => h.2 hyx), List.append_nil] at SN
              have H := Lib.hid hyx
              clear hy0 hyx
              go_wp2
              go_roundg (dl - (j + 1))
              case measure => rw [G2.out]; omega
              case rel => exact ⟨j + 1, by omega, by go_num, rfl, by rw [SN.out]; exact (KB.out _).1, (KB.out _).2⟩
            · have d2 : (y != x) = true := by simpa using hyx
              rw [if_pos ⟨hy0, hyx⟩] at SN
              clear hy0 hyx
              go_wp2_with fail
              refine (count_any y fi n g pd pf po _ w _ (KB.out _).1 xb (by omega) (by omega) nl).mono ?_; rintro e w8 ⟨rfl, hl8, hk8⟩
              have LS8 := Lib.hid (show LodS w pd pf po g n fi (Ms ++ cntD D (j + 1)) w8 by rw [SN.out, ← List.append_assoc]; exact hl8)
              have K8 := Lib.hid ((KB.out _).2.trans hk8)
              clear hl8 hk8 c0 c1
              go_wp2
              go_roundg (dl - (j + 1))
              case measure => rw [G2.out]; omega
              case rel => exact ⟨j + 1, by omega, by go_num, rfl, LS8.out, K8.out⟩
        · obtain rfl : j = dl := by omega
          have j2 : ¬ (j : Int) < (j : Int) := by omega
          have i5 : IntKind.i64.wrap ((k : Int) + 1) = (k : Int) + 1 := IntWalk.i64_in _ (by omega)
          have RN := Lib.hid (show Ms ++ cntD D j = (L.take (k + 1)).flatMap (Ev.lod low n) by rw [TN.out, ← HN.out, LX1.out, ME.out, XL.out, DL.out, List.append_assoc])
          go_wp2
          go_roundg (len - (k + 1))
          case measure => rw [G.out]; omega
          case rel => exact ⟨k + 1, _, by omega, by go_num, rfl, RN, EN, LS7.out⟩
    · obtain rfl : k = len := by omega
      have i2 : ¬ (k : Int) < (k : Int) := by omega
      have co := LS.out.o.cell
      have e1 : L.take k = L := List.take_of_length_le (by rw [← NL.out]; exact Nat.le_refl _)
      have e2 : es.take k = es := List.take_of_length_le (by rw [LE2.out]; exact Nat.le_refl _)
      rw [e1] at HN; rw [e2] at HF
      have FE := Lib.hid (show PE = 0 by rw [LE.out, if_neg H20.out, HF.out])
      have IR := Lib.hid (show IntsR w1 (.slice (some ⟨g, 0, none⟩) n n) PV by
        have h := LS.out.r
        rw [← LW.out, HN.out, ← LV.out] at h
        have h2 : PV.length = n := by rw [LV.out, loadC_len]
        exact intsR_of_owns (show w1.ownsRow w.heap.size 3 1 (.slice (some ⟨g, 0, none⟩) n n) PV.length _ by rw [h2]; exact h))
      clear e1 e2
      go_wp2
      go_ret2
      exact ⟨_, by rw [FE.out]; rfl, by rw [FE.out, if_pos rfl]; exact IR.out, LS.out.b⟩

end Go.Proofs.YtgelojhpanbnaaaGreatDoor
