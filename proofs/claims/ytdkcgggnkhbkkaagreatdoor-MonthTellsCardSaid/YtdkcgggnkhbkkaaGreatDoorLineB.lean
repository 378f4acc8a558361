/- The contracts of chimesame.Texts and line.Unfold. Conditions: Unfold: the pieces hold at most 4194304 bytes together. -/
import Derived.Test.YtdkcgggnkhbkkaaGreatDoorLineA
import Derived.Test.YtdkcgggnkhbkkaaGreatDoorShLine
import Derived.Test.YtdkcgggnkhbkkaaGreatDoorBuilder
import Derived.Deep.QuietTactic
import Derived.BigQuiet
import Derived.BigCall
import Derived.IntWalk
namespace Go.Proofs.YtdkcgggnkhbkkaaGreatDoor
open Go.RowKit
set_option linter.unusedSimpArgs false
set_option linter.unusedVariables false

/-- a slice of texts. -/
def StrsR (w : World) (v : Value) (L : List (List UInt8)) : Prop := Reads w v 1 L.length (strs L)

theorem StrsR.below {w w' : World} {v : Value} {L : List (List UInt8)} (h : StrsR w v L) (hb : Below w.heap.size w w') : StrsR w' v L := Reads.below h hb

theorem strsR_open {w : World} {v : Value} {L : List (List UInt8)} (h : StrsR w v L) : ∃ a cap, v = .slice a L.length cap ∧ L.length ≤ cap ∧ cap ≤ maxLen ∧
    (0 < L.length → ∃ b off, a = some ⟨b, off, none⟩ ∧ ∀ j (hj : j < L.length), w.cell? ⟨b, off + j, none⟩ = some (.string (bs L[j]))) := by
  obtain ⟨a, cap, h1, _, h3, h4, h5⟩ := h
  refine ⟨a, cap, h1, h3, h4, fun hn => ?_⟩
  obtain ⟨b, off, h6, h7⟩ := h5 hn
  exact ⟨b, off, h6, fun j hj => h7 j _ (by simp [strs, hj])⟩

theorem strsR_of_owns {w : World} {base : Nat} {e : TypeId} {v : Value} {L : List (List UInt8)} (h : w.ownsRow base e 1 v L.length (strs L)) : StrsR w v L := ownsRow_reads h

/-- are two lists of texts the same? -/
def textsB (a b : List (List UInt8)) : Bool := decide (a = b)

theorem textsB_no {a b : List (List UInt8)} {k : Nat} (h : k < a.length) (h2 : k < b.length) (e : a[k] ≠ b[k]) : textsB a b = false := by
  rw [textsB, decide_eq_false_iff_not]; rintro rfl; exact e rfl

theorem takeT_eq {a b : List (List UInt8)} {k : Nat} (h : k < a.length) (h2 : k < b.length) (e : a[k] = b[k]) (ht : a.take k = b.take k) : a.take (k + 1) = b.take (k + 1) := by
  rw [List.take_succ_eq_append_getElem h, List.take_succ_eq_append_getElem h2, ht, e]

set_option maxHeartbeats 1000000 in
theorem texts_any (u v : Value) (a b : List (List UInt8)) (w : World) (ha : StrsR w u a) (hb : StrsR w v b) :
    Calls Tryz.prog 35 #[u, v] w fun e w' => e = .returned (.bool (textsB a b)) ∧ Below w.heap.size w w' := by
  obtain ⟨p, cap, rfl, hc1, hc2, hcell⟩ := strsR_open ha
  obtain ⟨q, caq, rfl, hd1, hd2, hdell⟩ := strsR_open hb
  unfold maxLen at hc2 hd2
  have HC := Lib.hid hcell; have HD := Lib.hid hdell; clear hcell hdell ha hb
  by_cases hlen : a.length = b.length
  · have HL := Lib.hid hlen
    have hl2 : ((a.length : Int) != (b.length : Int)) = false := by simp; omega
    have hl3 : a.length ≤ b.length := by omega
    clear hlen
    go_enter Tryz.func35, Tryz.ntmps35
    go_wp2
    go_loopg [5] a.length (fun g i wr => ∃ k : Nat, k ≤ a.length ∧ i = .int .i64 k ∧ Hid (a.take k = b.take k) ∧ g = a.length - k ∧ ∃ n, wr = w.drewN n)
    case atStart => exact ⟨0, Nat.zero_le _, rfl, Lib.hid (by simp), rfl, 0, rfl⟩
    case round =>
      obtain ⟨k, hk, rfl, hS, hg, n, rfl⟩ := hrel
      have G := Lib.hid hg; clear hg
      by_cases hlt : k < a.length
      · obtain ⟨b1, off1, rfl, hcs⟩ := HC.out (by omega)
        obtain ⟨b2, off2, rfl, hds⟩ := HD.out (by omega)
        have hlb : k < b.length := by omega
        have c0 := hcs k hlt
        have d0 := hds k hlb
        obtain ⟨x, hx⟩ : ∃ x, x = bs a[k] := ⟨_, rfl⟩
        obtain ⟨y, hy⟩ : ∃ y, y = bs b[k] := ⟨_, rfl⟩
        rw [← hx] at c0; rw [← hy] at d0
        have X := Lib.hid (show x.toList = a[k] by rw [hx, bs_toList]); have Y := Lib.hid (show y.toList = b[k] by rw [hy, bs_toList]); clear hx hy hcs hds
        have i1 : (0 : Int) ≤ (k : Int) := Int.natCast_nonneg _
        have i2 : (k : Int) < (a.length : Int) := by omega
        have i3 : (k : Int) < (b.length : Int) := by omega
        by_cases he : a[k] = b[k]
        · have E := Lib.hid (takeT_eq hlt hlb he hS.out)
          have he2 : (x.toList == y.toList) = true := by rw [X.out, Y.out]; simpa using he
          have he3 : (x.toList != y.toList) = false := by simp [bne, he2]
          clear he
          go_wp2
          go_quiet (fail)
          go_wp2
          go_roundg (a.length - (k + 1))
          case measure => rw [G.out]; omega
          case rel => exact ⟨k + 1, by omega, by go_num, E, rfl, _, rfl⟩
        · have E := Lib.hid (textsB_no hlt hlb he)
          have he2 : (x.toList == y.toList) = false := by rw [X.out, Y.out]; simpa using he
          have he3 : (x.toList != y.toList) = true := by simp [bne, he2]
          clear he
          go_wp2
          go_quiet (fail)
          go_wp2
          go_ret
          exact ⟨by rw [E.out]; rfl, below_drewN (below_drewN (Below.refl _ _) _) _⟩
      · obtain rfl : k = a.length := by omega
        have E := Lib.hid (show textsB a b = true by have := hS.out; rw [List.take_length, HL.out, List.take_length] at this; rw [textsB, this]; simp)
        clear hS
        go_wp2
        go_ret
        exact ⟨by rw [E.out]; rfl, below_drewN (Below.refl _ _) _⟩
  · have HL := Lib.hid (show textsB a b = false by rw [textsB, decide_eq_false_iff_not]; rintro rfl; exact hlen rfl)
    have hl2 : ((a.length : Int) != (b.length : Int)) = true := by simp; omega
    clear hlen
    go_enter Tryz.func35, Tryz.ntmps35
    go_wp2
    go_ret
    exact ⟨by rw [HL.out]; rfl, Below.refl _ _⟩

theorem trim_sp (l : List UInt8) : Lib.trimPrefix l [32] = trimSp l := by
  unfold Lib.trimPrefix Lib.hasPrefix trimSp
  cases l with
  | nil => simp
  | cons c r =>
    by_cases h : c = 32
    · subst h; simp [List.isPrefixOf]
    · have h2 : ¬ (32 : UInt8) = c := fun e => h e.symm
      simp [List.isPrefixOf, h, h2]

theorem unfold_snoc (L : List (List UInt8)) (k : Nat) (h : k < L.length) : unfoldL (L.take (k + 1)) = unfoldL (L.take k) ++ (if k = 0 then L[k] else trimSp L[k]) := by
  cases L with
  | nil => simp at h
  | cons s r =>
    cases k with
    | zero => simp [unfoldL]
    | succ k =>
      have hk : k < r.length := by simpa using h
      rw [if_neg (by omega), List.take_succ_cons, List.take_succ_cons, unfoldL, unfoldL, List.take_succ_eq_append_getElem hk, List.map_append, List.flatten_append, ← List.append_assoc]
      congr 1
      simp

theorem trimSp_len (s : List UInt8) : (trimSp s).length ≤ s.length := by unfold trimSp; split <;> simp

theorem unfold_len : ∀ L : List (List UInt8), (unfoldL L).length ≤ L.flatten.length
  | [] => by simp [unfoldL]
  | s :: r => by
    have h : ∀ r : List (List UInt8), ((r.map trimSp).flatten).length ≤ r.flatten.length := by
      intro r
      induction r with
      | nil => simp
      | cons a b ih => have := trimSp_len a; simp only [List.map_cons, List.flatten_cons, List.length_append]; omega
    have := h r
    simp only [unfoldL, List.flatten_cons, List.length_append]; omega

theorem flat_take (L : List (List UInt8)) (k : Nat) : (L.take k).flatten.length ≤ L.flatten.length := by
  have h : (L.take k).flatten ++ (L.drop k).flatten = L.flatten := by rw [← List.flatten_append, List.take_append_drop]
  have := congrArg List.length h
  rw [List.length_append] at this
  omega

theorem flat_at (L : List (List UInt8)) (k : Nat) (h : k < L.length) : (L.take k).flatten.length + L[k].length ≤ L.flatten.length := by
  have := flat_take L (k + 1)
  rw [List.take_succ_eq_append_getElem h, List.flatten_append, List.length_append] at this
  simpa using this

end Go.Proofs.YtdkcgggnkhbkkaaGreatDoor
