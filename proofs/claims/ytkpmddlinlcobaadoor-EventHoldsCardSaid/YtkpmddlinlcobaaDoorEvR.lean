/- The times of an event, plainly: which they are; they rise; in two parts they are the same. No program in sight. -/
import Derived.Lib.SlicesCompact
import Derived.Lib.RowBridge
import Derived.Test.YtkpmddlinlcobaaDoorEvQ
namespace Go.Proofs.YtkpmddlinlcobaaDoor
open Go.Lib

/-- Two lists that rise and have the same members are one. -/
theorem rise_ext : ∀ (a b : List Int), a.Pairwise (· < ·) → b.Pairwise (· < ·) → (∀ x, x ∈ a ↔ x ∈ b) → a = b
  | [], [], _, _, _ => rfl
  | [], y :: b, _, _, h => absurd ((h y).2 List.mem_cons_self) (by simp)
  | x :: a, [], _, _, h => absurd ((h x).1 List.mem_cons_self) (by simp)
  | x :: a, y :: b, ha, hb, h => by
    rw [List.pairwise_cons] at ha hb
    have hxy : x = y := by
      have h1 := (h x).1 List.mem_cons_self
      have h2 := (h y).2 List.mem_cons_self
      rcases List.mem_cons.1 h1 with h1 | h1
      · exact h1
      · rcases List.mem_cons.1 h2 with h2 | h2
        · exact h2.symm
        · have := hb.1 x h1; have := ha.1 y h2; omega
    subst hxy
    refine congrArg _ (rise_ext a b ha.2 hb.2 fun z => ⟨fun hz => ?_, fun hz => ?_⟩)
    · rcases List.mem_cons.1 ((h z).1 (List.mem_cons_of_mem _ hz)) with rfl | h1
      · have := ha.1 z hz; omega
      · exact h1
    · rcases List.mem_cons.1 ((h z).2 (List.mem_cons_of_mem _ hz)) with rfl | h1
      · have := hb.1 z hz; omega
      · exact h1

/-- What slices.Compact leaves of a list in order: it rises, and has the same members. -/
theorem compact_up (zs : List Int) (hs : zs.Pairwise (· ≤ ·)) : ∀ m, m ≤ zs.length → (compactUpTo zs.toArray m).Pairwise (· < ·) ∧ ∀ x, x ∈ compactUpTo zs.toArray m ↔ x ∈ zs.take m
  | 0, _ => by simp [compactUpTo]
  | m + 1, hm => by
    obtain ⟨ih1, ih2⟩ := compact_up zs hs m (by omega)
    have hs' := List.pairwise_iff_getElem.1 hs
    have hg : ∀ j (hj : j < zs.length), zs.toArray[j]! = zs[j] := fun j hj => by rw [getElem!_pos _ j (by simpa using hj)]; simp
    rw [compactUpTo_succ, List.take_succ_eq_append_getElem (by omega), hg m (by omega)]
    by_cases hk : keeps zs.toArray m = true
    · rw [if_pos hk]
      refine ⟨List.pairwise_append.2 ⟨ih1, by simp, fun x hx y hy => ?_⟩, fun x => by rw [List.mem_append, List.mem_append, ih2]⟩
      obtain rfl : y = zs[m] := by simpa using hy
      obtain ⟨i, hi, rfl⟩ := List.mem_take_iff_getElem.1 ((ih2 x).1 hx)
      have him : i < m := by omega
      have h1 : zs[m] ≠ zs[m - 1]'(by omega) := by
        have h2 := of_decide_eq_true hk
        rcases h2 with h2 | h2
        · omega
        · rw [hg m (by omega), hg (m - 1) (by omega)] at h2; exact h2
      have h3 : zs[m - 1]'(by omega) ≤ zs[m] := hs' (m - 1) m (by omega) (by omega) (by omega)
      have h4 : zs[i]'(by omega) ≤ zs[m - 1]'(by omega) := by
        by_cases e : i = m - 1
        · subst e; exact Int.le_refl _
        · exact hs' i (m - 1) (by omega) (by omega) (by omega)
      omega
    · rw [if_neg hk, List.append_nil]
      refine ⟨ih1, fun x => ?_⟩
      have hk' : ¬ (m = 0 ∨ zs.toArray[m]! ≠ zs.toArray[m - 1]!) := fun h => hk (decide_eq_true h)
      have h0 : m ≠ 0 := fun h => hk' (.inl h)
      have h1 : zs[m] = zs[m - 1]'(by omega) := by
        have h2 : zs.toArray[m]! = zs.toArray[m - 1]! := Classical.byContradiction fun h => hk' (.inr h)
        rwa [hg m (by omega), hg (m - 1) (by omega)] at h2
      have h5 : zs[m] ∈ zs.take m := by rw [h1]; exact List.mem_take_iff_getElem.2 ⟨m - 1, by omega, rfl⟩
      rw [ih2, List.mem_append]
      constructor
      · exact .inl
      · rintro (h | h)
        · exact h
        · obtain rfl : x = zs[m] := by simpa using h
          exact h5

theorem sorted_le (l : List Int) : (l.mergeSort fun x y => decide (x ≤ y)).Pairwise (· ≤ ·) := by
  have h := List.pairwise_mergeSort (le := fun x y : Int => decide (x ≤ y)) (fun a b c h1 h2 => by simp at *; omega) (fun a b => by simp; omega) l
  simpa using h

/-- Sorted and compacted: it rises, and has the same members. -/
theorem sortC_rises (l : List Int) : (compact (l.mergeSort fun x y => decide (x ≤ y))).Pairwise (· < ·) := (compact_up _ (sorted_le l) _ (Nat.le_refl _)).1

theorem sortC_mem (l : List Int) (x : Int) : x ∈ compact (l.mergeSort fun x y => decide (x ≤ y)) ↔ x ∈ l := by
  have h := (compact_up _ (sorted_le l) _ (Nat.le_refl _)).2 x
  rw [List.take_length] at h
  exact h.trans List.mem_mergeSort

end Go.Proofs.YtkpmddlinlcobaaDoor

namespace Go.Proofs.YtkpmddlinlcobaaDoor
open Go.RowKit Go.Shelf
set_option linter.unusedSimpArgs false
set_option linter.unusedVariables false

theorem evL_up (B M N : List Int) (a b : Int) : (evL B M N a b).Pairwise (· < ·) := by
  unfold evL notIn srt
  exact (sortC_rises _).sublist List.filter_sublist

theorem evL_mem {B M N : List Int} {a b x : Int} : x ∈ evL B M N a b ↔ (x ∈ B ∨ x ∈ M) ∧ a ≤ x ∧ x ≤ b ∧ inB N x = false := by
  unfold evL notIn srt
  rw [List.mem_filter, sortC_mem, List.mem_append]
  simp only [inR, List.mem_filter, Bool.and_eq_true, decide_eq_true_eq, Bool.not_eq_true']
  constructor
  · rintro ⟨h | h, h2⟩
    · exact ⟨.inl h.1, h.2.1, h.2.2, h2⟩
    · exact ⟨.inr h.1, h.2.1, h.2.2, h2⟩
  · rintro ⟨h | h, h1, h2, h3⟩
    · exact ⟨.inl ⟨h, h1, h2⟩, h3⟩
    · exact ⟨.inr ⟨h, h1, h2⟩, h3⟩

theorem rise_append {L K : List Int} (h1 : L.Pairwise (· < ·)) (h2 : K.Pairwise (· < ·)) (h : ∀ x ∈ L, ∀ y ∈ K, x < y) : (L ++ K).Pairwise (· < ·) := List.pairwise_append.2 ⟨h1, h2, h⟩

theorem evL_split {B M N : List Int} {a b c : Int} (h1 : a ≤ c) (h2 : c < b) : evL B M N a c ++ evL B M N (c + 1) b = evL B M N a b := by
  refine rise_ext _ _ (rise_append (evL_up ..) (evL_up ..) fun x hx y hy => ?_) (evL_up ..) fun x => ?_
  · have := (evL_mem.1 hx).2; have := (evL_mem.1 hy).2; omega
  · rw [List.mem_append, evL_mem, evL_mem, evL_mem]
    constructor
    · rintro (h | h)
      · exact ⟨h.1, h.2.1, by omega, h.2.2.2⟩
      · exact ⟨h.1, by omega, h.2.2.1, h.2.2.2⟩
    · rintro ⟨h, k1, k2, k3⟩
      by_cases hc : x ≤ c
      · exact .inl ⟨h, k1, hc, k3⟩
      · exact .inr ⟨h, by omega, k2, k3⟩

/-- the days that a rule asks for, from a day on. -/
noncomputable def daysAt (fr ev ct ti n : Int) (mo da : List Int) (we : List (Int × Int)) (pk : List Int) : List Int :=
  open Classical in if h : ∃ p : Int × Int × Int, Cal.dateB p.1 p.2.1 p.2.2 = true ∧ Cal.num p.1 p.2.1 p.2.2 = n then eachL fr ev ct ti h.choose.1 h.choose.2.1 h.choose.2.2 mo da we pk n else []

theorem daysAt_eq {fr ev ct ti n y m d : Int} {mo da : List Int} {we : List (Int × Int)} {pk : List Int} (hd : Cal.dateB y m d = true) (hn : Cal.num y m d = n) : daysAt fr ev ct ti n mo da we pk = eachL fr ev ct ti y m d mo da we pk n := by
  have h : ∃ p : Int × Int × Int, Cal.dateB p.1 p.2.1 p.2.2 = true ∧ Cal.num p.1 p.2.1 p.2.2 = n := ⟨(y, m, d), hd, hn⟩
  have hc := h.choose_spec
  obtain ⟨e1, e2, e3⟩ := Cal.num_inj hc.1 hd (hc.2.trans hn.symm)
  unfold daysAt
  rw [dif_pos h, e1, e2, e3]

/-- the times of an event's start and rule. -/
noncomputable def ruleT (rp : Bool) (st fr ev ct ti : Int) (mo da : List Int) (we : List (Int × Int)) (pk : List Int) : List Int :=
  if rp = true then tmsL (st % 1440) (daysAt fr ev ct ti (st / 1440 + 1) mo da we pk) else [st]

/-- an event that may be asked for its times. -/
def EvOk (rp : Bool) (st fr ev ct ti : Int) (mo da : List Int) (we : List (Int × Int)) (pk M : List Int) : Prop :=
  timeB st = true ∧ (rp = true → ruleF fr ev ct ti mo da we pk = 0) ∧ M.length ≤ 100

theorem evF_ok {nm tx : List UInt8} {st ln : Int} {rp : Bool} {fr ev ct ti : Int} {mo da : List Int} {we : List (Int × Int)} {pk M N : List Int} {C : List (Int × Int)} {A : List Alm} (h : evF nm tx st ln rp fr ev ct ti mo da we pk M N C A = 0) :
    evA nm tx = false ∧ evB st ln = false ∧ evG rp fr ev ct ti mo.length da.length we.length pk.length = false ∧ (rp = true → ruleF fr ev ct ti mo da we pk = 0) ∧ evD M.length N.length C.length A.length = false ∧ evE M N C = false ∧ evR M N C = false ∧ A.any almBad = false := by
  unfold evF at h
  by_cases h1 : evA nm tx = true
  · rw [if_pos h1] at h; cases h
  rw [if_neg h1] at h
  by_cases h2 : evB st ln = true
  · rw [if_pos h2] at h; cases h
  rw [if_neg h2] at h
  by_cases h3 : evG rp fr ev ct ti mo.length da.length we.length pk.length = true
  · rw [if_pos h3] at h; cases h
  rw [if_neg h3] at h
  by_cases h4 : rp = true ∧ ruleF fr ev ct ti mo da we pk ≠ 0
  · rw [if_pos h4] at h; exact absurd h h4.2
  rw [if_neg h4] at h
  by_cases h5 : evD M.length N.length C.length A.length = true
  · rw [if_pos h5] at h; cases h
  rw [if_neg h5] at h
  by_cases h6 : evE M N C = true
  · rw [if_pos h6] at h; cases h
  rw [if_neg h6] at h
  by_cases h7 : evR M N C = true
  · rw [if_pos h7] at h; cases h
  rw [if_neg h7] at h
  by_cases h8 : A.any almBad = true
  · rw [if_pos h8] at h; cases h
  refine ⟨by simpa using h1, by simpa using h2, by simpa using h3, fun hr => ?_, by simpa using h5, by simpa using h6, by simpa using h7, by simpa using h8⟩
  by_cases hq : ruleF fr ev ct ti mo da we pk = 0
  · exact hq
  · exact absurd ⟨hr, hq⟩ h4

theorem badT_no {t : Int} (h : badT t = false) : timeB t = true := by
  simpa [badT] using h

theorem evF_EvOk {nm tx : List UInt8} {st ln : Int} {rp : Bool} {fr ev ct ti : Int} {mo da : List Int} {we : List (Int × Int)} {pk M N : List Int} {C : List (Int × Int)} {A : List Alm} (h : evF nm tx st ln rp fr ev ct ti mo da we pk M N C A = 0) :
    EvOk rp st fr ev ct ti mo da we pk M := by
  obtain ⟨-, h2, -, h4, h5, -⟩ := evF_ok h
  refine ⟨badT_no ?_, h4, ?_⟩
  · unfold evB at h2; simp only [Bool.or_eq_false_iff] at h2; exact h2.1.1
  · unfold evD at h5; simp only [Bool.or_eq_false_iff, decide_eq_false_iff_not] at h5; omega

/-- the fault of a stretch. -/
def spanE (a b : Int) : Int := if timeB a = true ∧ timeB b = true ∧ a ≤ b ∧ b - a ≤ 1000000 then 0 else 1

def eventE (F a b : Int) : Int := if F ≠ 0 then F else spanE a b

/-- the fault of a list that is too long. -/
def fullE (E : Int) (R : List Int) : Int := if E = 0 ∧ 200 < R.length then 4 else E

theorem fullE_no {E : Int} {R : List Int} (h : E ≠ 0) : fullE E R = E := by rw [fullE, if_neg (fun k => h k.1)]

theorem eventE_0 {F a b : Int} (h : eventE F a b = 0) : F = 0 ∧ timeB a = true ∧ timeB b = true ∧ a ≤ b ∧ b - a ≤ 1000000 := by
  unfold eventE at h
  by_cases h0 : F ≠ 0
  · rw [if_pos h0] at h; exact absurd h h0
  · rw [if_neg h0] at h
    unfold spanE at h
    by_cases h1 : timeB a = true ∧ timeB b = true ∧ a ≤ b ∧ b - a ≤ 1000000
    · exact ⟨by omega, h1⟩
    · rw [if_neg h1] at h; cases h

theorem fullE_0 {E : Int} {R : List Int} (h : fullE E R = 0) : E = 0 ∧ R.length ≤ 200 := by
  unfold fullE at h
  by_cases h1 : E = 0 ∧ 200 < R.length
  · rw [if_pos h1] at h; cases h
  · rw [if_neg h1] at h; exact ⟨h, by omega⟩

theorem eventE_mk {F a b : Int} (h0 : F = 0) (h1 : timeB a = true) (h2 : timeB b = true) (h3 : a ≤ b) (h4 : b - a ≤ 1000000) : eventE F a b = 0 := by
  rw [eventE, if_neg (by omega), spanE, if_pos ⟨h1, h2, h3, h4⟩]

theorem timeB_mid {a b c : Int} (h1 : timeB a = true) (h2 : timeB b = true) (h3 : a ≤ c) (h4 : c ≤ b) : timeB c = true := by
  obtain ⟨x1, x2⟩ := timeB_yes h1
  obtain ⟨y1, y2⟩ := timeB_yes h2
  exact timeB_mk (by omega) (by omega)

end Go.Proofs.YtkpmddlinlcobaaDoor
