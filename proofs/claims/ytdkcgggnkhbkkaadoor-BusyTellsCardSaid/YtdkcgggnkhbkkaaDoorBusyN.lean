/- Plain laws of what is taken and free together; a literal of stretches as a list. -/
import Derived.Test.YtdkcgggnkhbkkaaDoorBusyB
namespace Go.Proofs.YtdkcgggnkhbkkaaDoor
open Go.RowKit
set_option linter.unusedSimpArgs false
set_option linter.unusedVariables false

/-- a stretch, cut to another. -/
def cut1 (a b : Int) (s : Int × Int) : Int × Int := (if s.1 < a then a else s.1, if b < s.2 then b else s.2)
def cutS (a b : Int) (s : Int × Int) : List (Int × Int) := if (cut1 a b s).1 < (cut1 a b s).2 then [cut1 a b s] else []
def cutL (a b : Int) (L : List (Int × Int)) : List (Int × Int) := L.flatMap (cutS a b)

theorem cut_snoc (a b : Int) (L : List (Int × Int)) (k : Nat) (h : k < L.length) : cutL a b (L.take (k + 1)) = cutL a b (L.take k) ++ cutS a b L[k] := by
  rw [List.take_succ_eq_append_getElem h, cutL, List.flatMap_append]; simp [cutL]

theorem cut_len (a b : Int) : ∀ L : List (Int × Int), (cutL a b L).length ≤ L.length
  | [] => by simp [cutL]
  | s :: r => by
    have := cut_len a b r
    rw [cutL, List.flatMap_cons, List.length_append, List.length_cons]
    have h1 : (cutS a b s).length ≤ 1 := by unfold cutS; split <;> simp
    unfold cutL at this; omega

theorem cut_mem {a b : Int} {L : List (Int × Int)} {c : Int × Int} (h : c ∈ cutL a b L) : ∃ s ∈ L, c = cut1 a b s ∧ c.1 < c.2 := by
  unfold cutL at h
  obtain ⟨s, hs, hc⟩ := List.mem_flatMap.1 h
  unfold cutS at hc
  split at hc
  · next h1 => rw [List.mem_singleton] at hc; exact ⟨s, hs, hc, by rw [hc]; exact h1⟩
  · simp at hc

theorem mem_cut {a b : Int} {L : List (Int × Int)} {s : Int × Int} (h : s ∈ L) (h1 : (cut1 a b s).1 < (cut1 a b s).2) : cut1 a b s ∈ cutL a b L :=
  List.mem_flatMap.2 ⟨s, h, by rw [cutS, if_pos h1]; simp⟩

theorem cut_cov (a b : Int) (L : List (Int × Int)) (t : Int) : covB (cutL a b L) t = (decide (a ≤ t) && decide (t < b) && covB L t) := by
  rw [Bool.eq_iff_iff]
  simp only [Bool.and_eq_true, decide_eq_true_eq, covB_iff]
  constructor
  · rintro ⟨c, hc, h1, h2⟩
    obtain ⟨s, hs, rfl, h3⟩ := cut_mem hc
    simp only [cut1] at h1 h2 h3
    refine ⟨⟨?_, ?_⟩, s, hs, ?_, ?_⟩ <;> (split at h1 <;> split at h2 <;> omega)
  · rintro ⟨⟨h1, h2⟩, s, hs, h3, h4⟩
    have e1 : (cut1 a b s).1 ≤ t := by simp only [cut1]; split <;> omega
    have e2 : t < (cut1 a b s).2 := by simp only [cut1]; split <;> omega
    exact ⟨_, mem_cut hs (by omega), e1, e2⟩

theorem free_in {b a : Int} {S : List (Int × Int)} (h : Sep S) : ∀ c ∈ freeL b S a, a ≤ c.1 ∧ c.1 < c.2 ∧ c.2 ≤ b := fun c hc => by
  obtain ⟨h1, h2⟩ := free_ok b S a h
  have h3 := h1.1 c hc
  have h4 := free_lo b S a c hc
  have h5 := h2 (c.2 - 1)
  rw [covB_iff.2 ⟨c, hc, by omega, by omega⟩] at h5
  have h6 := h5.symm
  simp only [Bool.and_eq_true, decide_eq_true_eq] at h6
  omega

theorem free_len (b : Int) : ∀ (S : List (Int × Int)) (a : Int), (freeL b S a).length ≤ S.length + 1
  | [], a => by rw [freeL]; split <;> simp
  | s :: r, a => by
    have := free_len b r (max a s.2)
    rw [freeL, List.length_append, List.length_cons]
    have h1 : (if a < s.1 ∧ a < b then [(a, min s.1 b)] else ([] : List (Int × Int))).length ≤ 1 := by split <;> simp
    omega

theorem cut_fault {a b : Int} {L : List (Int × Int)} (h : busyE L = 0) (h2 : strE a b = 0) : busyE (cutL a b L) = 0 := by
  obtain ⟨h3, h4⟩ := busyE_ok h
  obtain ⟨s1, s2, s3⟩ := strE_ok h2
  refine busyE_mk (by have := cut_len a b L; omega) fun c hc => ?_
  obtain ⟨s, hs, rfl, h5⟩ := cut_mem hc
  have h6 := h4 s hs
  have t1 := timeB_yes h6.1
  have t2 := timeB_yes h6.2.1
  refine ⟨timeB_mk ?_ ?_, timeB_mk ?_ ?_, by omega⟩ <;> (simp only [cut1] at h5 ⊢; split at h5 <;> (try split) <;> (try split at h5) <;> (try split) <;> omega)

theorem sums {a b : Int} {L : List (Int × Int)} (h : busyE L = 0) (h2 : strE a b = 0) : totL (normL (cutL a b L)) + totL (freeL b (normL L) a) = b - a := by
  obtain ⟨h3, h4⟩ := busyE_ok h
  obtain ⟨s1, s2, s3⟩ := strE_ok h2
  obtain ⟨h5, h6⟩ := busyE_ok (cut_fault h h2)
  have g1 : ∀ c ∈ L, c.1 ≤ c.2 := fun c hc => (h4 c hc).2.2
  have g2 : ∀ c ∈ cutL a b L, c.1 ≤ c.2 := fun c hc => (h6 c hc).2.2
  have hn : a + ((b - a).toNat : Int) = b := by omega
  have i1 : ∀ c ∈ normL (cutL a b L), a ≤ c.1 ∧ c.2 ≤ b := norm_in g2 fun c hc => by
    obtain ⟨s, hs, rfl, h7⟩ := cut_mem hc
    simp only [cut1] at h7 ⊢
    constructor <;> (split <;> omega)
  have n1 := tot_cnt a (b - a).toNat _ (norm_sep g2) (by rw [hn]; exact i1)
  have n2 := tot_cnt a (b - a).toNat _ (free_ok b (normL L) a (norm_sep g1)).1 (by rw [hn]; exact fun c hc => by have := free_in (norm_sep g1) c hc; omega)
  have n3 := cnt_not (covB L) a (b - a).toNat
  rw [n1, n2, cnt_congr (p := covB (normL (cutL a b L))) (q := covB L) a _ (fun t t1 t2 => by rw [norm_cov g2, cut_cov]; simp; omega),
    cnt_congr (p := covB (freeL b (normL L) a)) (q := fun t => !covB L t) a _ (fun t t1 t2 => by rw [(free_ok b (normL L) a (norm_sep g1)).2 t, norm_cov g1]; simp; omega), n3]
  omega

theorem free_good {a b : Int} {L : List (Int × Int)} (h : busyE L = 0) (h2 : strE a b = 0) : Good (freeL b (normL L) a) := fun c hc => by
  obtain ⟨h3, h4⟩ := busyE_ok h
  obtain ⟨s1, s2, s3⟩ := strE_ok h2
  have := free_in (norm_sep fun c hc => (h4 c hc).2.2) c hc
  omega

theorem free_len2 {a b : Int} {L : List (Int × Int)} (h : busyE L = 0) : (freeL b (normL L) a).length ≤ 201 := by
  have h1 := free_len b (normL L) a; have h2 := norm_len L; have h3 := (busyE_ok h).1; omega

/-- a literal of stretches. -/
theorem pairs_laid (w : World) (t : TypeId) (L : List (Int × Int)) (cs : Array Value) (hc : cs.toList = pairsV L) (hl : L.length ≤ 1000) :
    PairsR (w.alloc (.cells cs t)) (.slice (some ⟨w.heap.size, 0, none⟩) L.length L.length) L := by
  refine ⟨_, L.length, rfl, pairsV_len L, Nat.le_refl _, by unfold maxLen; omega, fun _ => ⟨w.heap.size, 0, rfl, fun j u hj => ?_⟩⟩
  have hn := heap_alloc_new w (.cells cs t)
  rw [← hc] at hj
  simp only [World.cell?, hn, Nat.zero_add]
  simpa using hj

end Go.Proofs.YtdkcgggnkhbkkaaDoor
