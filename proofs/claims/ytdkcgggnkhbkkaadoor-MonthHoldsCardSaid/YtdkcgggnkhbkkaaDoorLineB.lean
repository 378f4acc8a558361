/- The contracts of chimesame.Texts and line.Unfold. Conditions: Unfold: the pieces hold at most 4194304 bytes together. -/
import Derived.Test.YtdkcgggnkhbkkaaDoorLineA
import Derived.Test.YtdkcgggnkhbkkaaDoorShLine
import Derived.Test.YtdkcgggnkhbkkaaDoorBuilder
import Derived.Deep.QuietTactic
import Derived.BigQuiet
import Derived.BigCall
import Derived.IntWalk
namespace Go.Proofs.YtdkcgggnkhbkkaaDoor
open Go.RowKit
set_option linter.unusedSimpArgs false
set_option linter.unusedVariables false

/-- a slice of texts. -/
def StrsR (w : World) (v : Value) (L : List (List UInt8)) : Prop := Reads w v 1 L.length (strs L)

theorem StrsR.below {w w' : World} {v : Value} {L : List (List UInt8)} (h : StrsR w v L) (hb : Below w.heap.size w w') : StrsR w' v L := Reads.below h hb

theorem strsR_open {w : World} {v : Value} {L : List (List UInt8)} (h : StrsR w v L) : ∃ a cap, v = .slice a L.length cap ∧ L.length ≤ cap ∧ cap ≤ maxLen ∧
    (0 < L.length → ∃ b off, a = some ⟨b, off, none⟩ ∧ ∀ j (hj : j < L.length), w.cell? ⟨b, off + j, none⟩ = some (.string (bs L[j]))) := by
  obtain ⟨a, cap, h1, _, h3, h4, h5⟩ := h
  refine ⟨a, cap, h1, h3, h4, fun hn => ?_⟩
  obtain ⟨b, off, h6, h7⟩ := h5 hn
  exact ⟨b, off, h6, fun j hj => h7 j _ (by simp [strs, hj])⟩

theorem strsR_of_owns {w : World} {base : Nat} {e : TypeId} {v : Value} {L : List (List UInt8)} (h : w.ownsRow base e 1 v L.length (strs L)) : StrsR w v L := ownsRow_reads h

/-- are two lists of texts the same? -/
def textsB (a b : List (List UInt8)) : Bool := decide (a = b)

theorem textsB_no {a b : List (List UInt8)} {k : Nat} (h : k < a.length) (h2 : k < b.length) (e : a[k] ≠ b[k]) : textsB a b = false := by
  rw [textsB, decide_eq_false_iff_not]; rintro rfl; exact e rfl

theorem takeT_eq {a b : List (List UInt8)} {k : Nat} (h : k < a.length) (h2 : k < b.length) (e : a[k] = b[k]) (ht : a.take k = b.take k) : a.take (k + 1) = b.take (k + 1) := by
  rw [List.take_succ_eq_append_getElem h, List.take_succ_eq_append_getElem h2, ht, e]

theorem trim_sp (l : List UInt8) : Lib.trimPrefix l [32] = trimSp l := by
  unfold Lib.trimPrefix Lib.hasPrefix trimSp
  cases l with
  | nil => simp
  | cons c r =>
    by_cases h : c = 32
    · subst h; simp [List.isPrefixOf]
    · have h2 : ¬ (32 : UInt8) = c := fun e => h e.symm
      simp [List.isPrefixOf, h, h2]

theorem unfold_snoc (L : List (List UInt8)) (k : Nat) (h : k < L.length) : unfoldL (L.take (k + 1)) = unfoldL (L.take k) ++ (if k = 0 then L[k] else trimSp L[k]) := by
  cases L with
  | nil => simp at h
  | cons s r =>
    cases k with
    | zero => simp [unfoldL]
    | succ k =>
      have hk : k < r.length := by simpa using h
      rw [if_neg (by omega), List.take_succ_cons, List.take_succ_cons, unfoldL, unfoldL, List.take_succ_eq_append_getElem hk, List.map_append, List.flatten_append, ← List.append_assoc]
      congr 1
      simp

theorem trimSp_len (s : List UInt8) : (trimSp s).length ≤ s.length := by unfold trimSp; split <;> simp

theorem unfold_len : ∀ L : List (List UInt8), (unfoldL L).length ≤ L.flatten.length
  | [] => by simp [unfoldL]
  | s :: r => by
    have h : ∀ r : List (List UInt8), ((r.map trimSp).flatten).length ≤ r.flatten.length := by
      intro r
      induction r with
      | nil => simp
      | cons a b ih => have := trimSp_len a; simp only [List.map_cons, List.flatten_cons, List.length_append]; omega
    have := h r
    simp only [unfoldL, List.flatten_cons, List.length_append]; omega

theorem flat_take (L : List (List UInt8)) (k : Nat) : (L.take k).flatten.length ≤ L.flatten.length := by
  have h : (L.take k).flatten ++ (L.drop k).flatten = L.flatten := by rw [← List.flatten_append, List.take_append_drop]
  have := congrArg List.length h
  rw [List.length_append] at this
  omega

theorem flat_at (L : List (List UInt8)) (k : Nat) (h : k < L.length) : (L.take k).flatten.length + L[k].length ≤ L.flatten.length := by
  have := flat_take L (k + 1)
  rw [List.take_succ_eq_append_getElem h, List.flatten_append, List.length_append] at this
  simpa using this

end Go.Proofs.YtdkcgggnkhbkkaaDoor
