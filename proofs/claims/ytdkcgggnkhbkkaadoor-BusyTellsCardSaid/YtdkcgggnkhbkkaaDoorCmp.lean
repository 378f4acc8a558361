/- Contracts of cmp.Compare and cmp.Or at integers. No condition. -/
import Derived.Test.YtdkcgggnkhbkkaaDoorDayA
import Derived.Test.YtdkcgggnkhbkkaaDoorSl
import Derived.Deep.LoopGhost
import Derived.IntWalk
namespace Go.Proofs.YtdkcgggnkhbkkaaDoor
open Go.RowKit
set_option linter.unusedVariables false

/-- how one number stands to another. -/
def cmpQ (a b : Int) : Int := if a < b then -1 else if b < a then 1 else 0

theorem cmpq_any (a b : Int) (w : World) :
    Calls Tryd.prog 64 #[.int .i64 a, .int .i64 b] w fun e w' => e = .returned (.int .i64 (cmpQ a b)) ∧ w = w' := by
  by_cases h : a < b
  · have E := Lib.hid (show cmpQ a b = -1 by rw [cmpQ, if_pos h])
    go_enter Tryd.func64, Tryd.ntmps64
    go_wp2
    go_ret
    exact ⟨by rw [E.out]; rfl, rfl⟩
  · by_cases h2 : b < a
    · have E := Lib.hid (show cmpQ a b = 1 by rw [cmpQ, if_neg h, if_pos h2])
      go_enter Tryd.func64, Tryd.ntmps64
      go_wp2
      go_ret
      exact ⟨by rw [E.out]; rfl, rfl⟩
    · have E := Lib.hid (show cmpQ a b = 0 by rw [cmpQ, if_neg h, if_neg h2])
      go_enter Tryd.func64, Tryd.ntmps64
      go_wp2
      go_ret
      exact ⟨by rw [E.out]; rfl, rfl⟩

theorem anyq_no {α : Type} {p : α → Bool} {L : List α} {k : Nat} (h : k < L.length) (hk : (L.take k).any p = false) (hp : p L[k] = false) : (L.take (k + 1)).any p = false := by
  rw [List.take_succ_eq_append_getElem h, List.any_append, hk, Bool.false_or]; simp [hp]

/-- the first that is not 0. -/
def orQ (L : List Int) : Int := (L.find? fun x => x != 0).getD 0

theorem orQ_yes {L : List Int} {k : Nat} (h : k < L.length) (hk : (L.take k).any (fun x => x != 0) = false) (hp : L[k] ≠ 0) : orQ L = L[k] := by
  have e : L = L.take k ++ L[k] :: L.drop (k + 1) := by rw [← List.drop_eq_getElem_cons h, List.take_append_drop]
  have h1 : (L.take k).find? (fun x => x != 0) = none := by
    rw [List.find?_eq_none]; intro x hx hc
    exact absurd (List.any_eq_true.2 ⟨x, hx, hc⟩) (by rw [hk]; simp)
  rw [orQ]
  conv => lhs; rw [e]
  rw [List.find?_append, h1, Option.none_or, List.find?_cons_of_pos (by simpa using hp)]
  rfl

theorem orQ_no {L : List Int} (hk : L.any (fun x => x != 0) = false) : orQ L = 0 := by
  have h1 : L.find? (fun x => x != 0) = none := by
    rw [List.find?_eq_none]; intro x hx hc
    exact absurd (List.any_eq_true.2 ⟨x, hx, hc⟩) (by rw [hk]; simp)
  rw [orQ, h1]; rfl

theorem orq_any (v : Value) (L : List Int) (w : World) (hL : IntsR w v L) :
    Calls Tryd.prog 63 #[v] w fun e w' => e = .returned (.int .i64 (orQ L)) ∧ w = w' := by
  obtain ⟨a, cap, rfl, hc1, hc2, hcell⟩ := intsR_open hL
  unfold maxLen at hc2
  have HC := Lib.hid hcell; clear hcell hL
  go_enter Tryd.func63, Tryd.ntmps63
  go_wp2
  go_loopg [8] L.length (fun g i wr => ∃ k : Nat, k ≤ L.length ∧ i = .int .i64 k ∧ Hid ((L.take k).any (fun x => x != 0) = false) ∧ g = L.length - k ∧ wr = w)
  case atStart => exact ⟨0, Nat.zero_le _, rfl, Lib.hid (by simp), rfl, rfl⟩
  case round =>
    obtain ⟨k, hk, rfl, hS, hg, rfl⟩ := hrel
    have G := Lib.hid hg; clear hg
    by_cases hlt : k < L.length
    · obtain ⟨b, off, rfl, hcs⟩ := HC.out (by omega)
      have c0 := hcs k hlt
      obtain ⟨x, hx⟩ : ∃ x, x = L[k] := ⟨_, rfl⟩
      rw [← hx] at c0
      have X := Lib.hid hx; clear hx hcs
      by_cases he : x = 0
      · have E := Lib.hid (anyq_no (p := fun x => x != 0) hlt hS.out (by rw [← X.out, he]; rfl))
        have V : (x != 0) = false := by simpa using he
        clear he
        go_wp2
        go_roundg (L.length - (k + 1))
        case measure => rw [G.out]; omega
        case rel => exact ⟨k + 1, by omega, by go_num, E, rfl, rfl⟩
      · have E := Lib.hid (orQ_yes hlt hS.out (by rw [← X.out]; exact he))
        have V : (x != 0) = true := by simpa using he
        clear he
        go_wp2
        go_ret
        exact ⟨by rw [E.out, ← X.out]; rfl, rfl⟩
    · obtain rfl : k = L.length := by omega
      have E := Lib.hid (orQ_no (L := L) (by have := hS.out; rwa [List.take_length] at this))
      clear hS
      go_wp2
      go_ret
      exact ⟨by rw [E.out]; rfl, rfl⟩

end Go.Proofs.YtdkcgggnkhbkkaaDoor
