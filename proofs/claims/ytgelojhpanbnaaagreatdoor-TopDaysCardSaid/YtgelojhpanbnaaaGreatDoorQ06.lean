/- Texts joined into one (a claim has at most 60 files): The contracts of line.Escape and line.Plain; Contracts of clock.Valid, clock.Add, clock.Split: they only compute. -/
import Derived.Test.YtgelojhpanbnaaaGreatDoorQ05
import Derived.Test.YtgelojhpanbnaaaGreatDoorQ01
import Derived.Deep.AppendLies
import Derived.Laws.OwnMore
import Derived.Laws.IdiomStrings
import Derived.Laws.BytesArg
import Derived.Lib.ConvBytes
import Derived.Lib.SmallJoins
namespace Go.Proofs.YtgelojhpanbnaaaGreatDoor
open Go.RowKit
set_option linter.unusedSimpArgs false
set_option linter.unusedVariables false

/-- bytes as cells. -/
def byV (l : List UInt8) : List Value := l.map fun b => .int .u8 (b.toNat : Int)

theorem u8Info : (Tryz.prog.info? 5).map (fun i => (i.zero, i.size, i.bytes)) = some (some (.int .u8 0), 1, 1) := by kernel_rfl

theorem byV_snoc (a b : List UInt8) : byV (a ++ b) = byV a ++ byV b := by simp [byV]

/-- 'string(b)' of a slice of bytes that the call owns. -/
theorem conv_own {w : World} {base : Nat} {v : Value} {n : Nat} (x : List UInt8) (hn : n = x.length) (h : w.ownsRow base 5 1 v n (byV x)) :
    (convert 129 9 v).run Tryz.prog w = .ok (.string (bs x)) w := by
  subst hn
  rcases h.2 with ⟨rfl, h0⟩ | ⟨g, cap, cur, rfl, hb, hg, hn, hc, hs, ht⟩
  · have hx : x = [] := List.length_eq_zero_iff.1 h0
    subst hx
    exact run_convert_bytes_nil (P := Tryz.prog) w 129 5 Tryz.underlying129 Tryz.underlying5 0 0 _ Tryz.underlying9
  · refine run_convert_bytes_back (P := Tryz.prog) w 129 9 5 ⟨g, 0, none⟩ cap x Tryz.underlying129 Tryz.underlying5 Tryz.underlying9 fun j hj => ?_
    rw [show ((⟨g, 0, none⟩ : Addr).add j) = ⟨g, j, none⟩ by (by_cases h0 : j = 0 <;> simp [Addr.add, h0])]
    rw [h.cellAt j (by omega)]
    simp [byV, hj]

/-- what holds at the loop's head of Escape. -/
def EscI (wb : World) (l : List UInt8) (g : Nat) (v i : Value) (wr : World) : Prop :=
  ∃ k : Nat, k ≤ l.length ∧ i = .int .i64 k ∧ g = l.length - k ∧ wr.ownsRow wb.heap.size 5 1 v (esc (l.take k)).length (byV (esc (l.take k))) ∧ Below wb.heap.size wb wr

theorem escI_next {wb w3 : World} {l d : List UInt8} {v : Value} {k m : Nat} (h : k < l.length) (hd : escB l[k] = d) (hm : m = (esc (l.take k)).length + d.length)
    (ho : w3.ownsRow wb.heap.size 5 1 v m (byV (esc (l.take k)) ++ byV d)) (hb : Below wb.heap.size wb w3) : EscI wb l (l.length - (k + 1)) v (.int .i64 ((k + 1 : Nat) : Int)) w3 := by
  have e : esc (l.take (k + 1)) = esc (l.take k) ++ d := by rw [List.take_succ_eq_append_getElem h, esc_snoc, hd]
  refine ⟨k + 1, by omega, rfl, rfl, ?_, hb⟩
  rw [e, byV_snoc, List.length_append]
  subst hm
  exact ho

/-- what holds at the loop's head of Plain. -/
def PlainI (w : World) (l : List UInt8) (g : Nat) (v i : Value) (wr : World) : Prop :=
  ∃ (k : Nat) (done : List UInt8), k ≤ l.length ∧ i = .int .i64 k ∧ g = l.length - k ∧ done ++ unesc (l.drop k) = unesc l ∧ done.length ≤ k ∧ wr.ownsRow w.heap.size 5 1 v done.length (byV done) ∧ Below w.heap.size w wr

theorem plainI_next {w w3 : World} {l done : List UInt8} {v : Value} {c : UInt8} {k j m : Nat} (hj : k < j) (hjl : j ≤ l.length) (hd : done ++ unesc (l.drop k) = unesc l) (hdl : done.length ≤ k) (hu : unesc (l.drop k) = c :: unesc (l.drop j)) (hm : m = done.length + 1)
    (ho : w3.ownsRow w.heap.size 5 1 v m (byV done ++ [.int .u8 (c.toNat : Int)])) (hb : Below w.heap.size w w3) : PlainI w l (l.length - j) v (.int .i64 (j : Int)) w3 := by
  refine ⟨j, done ++ [c], hjl, rfl, rfl, ?_, by simp; omega, ?_, hb⟩
  · rw [← hd, hu]; simp
  · rw [byV_snoc, List.length_append]
    subst hm
    exact ho

theorem bs_get (l : List UInt8) (k : Nat) (h : k < l.length) (h2 : k < (bs l).size) : (bs l)[k] = l[k] := by
  rfl

end Go.Proofs.YtgelojhpanbnaaaGreatDoor

namespace Go.Proofs.YtgelojhpanbnaaaGreatDoor
open Go.RowKit

/-- is a number a time? -/
def timeB (t : Int) : Bool := decide (1 ≤ t) && decide (t < 157785120)

theorem timeB_yes {t : Int} (h : timeB t = true) : 1 ≤ t ∧ t < 157785120 := by simpa [timeB] using h

theorem timeB_no {t : Int} (h : timeB t = false) : t < 1 ∨ 157785120 ≤ t := by
  simp [timeB] at h; omega

theorem timeB_mk {t : Int} (h : 1 ≤ t) (h2 : t < 157785120) : timeB t = true := by simp [timeB, h, h2]

theorem timeB_mk_no {t : Int} (h : t < 1 ∨ 157785120 ≤ t) : timeB t = false := by
  simp [timeB]; omega

theorem valid_any (t : Int) (w : World) :
    Calls Tryz.prog 58 #[.int .i64 t] w fun e w' => e = .returned (.bool (timeB t)) ∧ w = w' := by
  by_cases h : 1 ≤ t
  · by_cases h2 : t < 157785120
    · go_enter Tryz.func58, Tryz.ntmps58
      go_wp2_with (go_at_call 23; refine (last_any _).mono ?_; rintro e w' ⟨rfl, rfl⟩)
      go_ret
      exact ⟨ret_bool (timeB_mk h h2).symm, rfl⟩
    · go_enter Tryz.func58, Tryz.ntmps58
      go_wp2_with (go_at_call 23; refine (last_any _).mono ?_; rintro e w' ⟨rfl, rfl⟩)
      go_ret
      exact ⟨ret_bool (by rw [timeB_mk_no (by omega)]; simp; omega), rfl⟩
  · go_enter Tryz.func58, Tryz.ntmps58
    go_wp2_with (go_at_call 23; refine (last_any _).mono ?_; rintro e w' ⟨rfl, rfl⟩)
    go_ret
    exact ⟨ret_bool (timeB_mk_no (by omega)).symm, rfl⟩

theorem valid_yes (t : Int) (w : World) (h : timeB t = true) :
    Calls Tryz.prog 58 #[.int .i64 t] w fun e w' => e = .returned (.bool true) ∧ w = w' := by
  rw [← h]; exact valid_any t w

theorem valid_no (t : Int) (w : World) (h : timeB t = false) :
    Calls Tryz.prog 58 #[.int .i64 t] w fun e w' => e = .returned (.bool false) ∧ w = w' := by
  rw [← h]; exact valid_any t w

theorem split_yes (t : Int) (w : World) (h : timeB t = true) :
    Calls Tryz.prog 15 #[.int .i64 t] w fun e w' => e = .returned (.tuple #[.int .i64 (t / 1440 + 1), .int .i64 (t % 1440), .nilIface]) ∧ w = w' := by
  have hb := timeB_yes h
  have H := Lib.hid h; clear h
  obtain ⟨h1, h2⟩ := hb
  go_enter Tryz.func15, Tryz.ntmps15
  go_wp2_with (go_at_call 58; refine (valid_yes _ _ H.out).mono ?_; rintro e w' ⟨rfl, rfl⟩)
  go_ret3
  exact ⟨rfl, rfl⟩

theorem split_no (t : Int) (w : World) (h : timeB t = false) :
    Calls Tryz.prog 15 #[.int .i64 t] w fun e w' => e = .returned (.tuple #[.int .i64 0, .int .i64 0, .iface 124 (.int .i64 1)]) ∧ w = w' := by
  have H := Lib.hid h; clear h
  go_enter Tryz.func15, Tryz.ntmps15
  go_wp2_with (go_at_call 58; refine (valid_no _ _ H.out).mono ?_; rintro e w' ⟨rfl, rfl⟩)
  go_ret3
  exact ⟨rfl, rfl⟩

theorem add_yes (t m : Int) (w : World) (h : timeB t = true) (h1 : -157785120 ≤ m) (h2 : m ≤ 157785120) (h3 : timeB (t + m) = true) :
    Calls Tryz.prog 84 #[.int .i64 t, .int .i64 m] w fun e w' => e = .returned (.tuple #[.int .i64 (t + m), .nilIface]) ∧ w = w' := by
  obtain ⟨a1, a2⟩ := timeB_yes h
  go_enter Tryz.func84, Tryz.ntmps84
  go_wp2_with (first | (go_at_call 23; refine (last_any _).mono ?_; rintro e w' ⟨rfl, rfl⟩) | (go_at_call 58; refine (valid_any _ _).mono ?_; rintro e w' ⟨rfl, rfl⟩))
  go_ret2
  exact ⟨rfl, rfl⟩

theorem add_no (t m : Int) (w : World) (h : timeB t = false ∨ m < -157785120 ∨ 157785120 < m ∨ timeB (t + m) = false) :
    Calls Tryz.prog 84 #[.int .i64 t, .int .i64 m] w fun e w' => e = .returned (.tuple #[.int .i64 0, .iface 124 (.int .i64 1)]) ∧ w = w' := by
  by_cases c : timeB t = true
  · obtain ⟨a1, a2⟩ := timeB_yes c
    by_cases c1 : m < -157785120
    · clear h
      go_enter Tryz.func84, Tryz.ntmps84
      go_wp2_with (first | (go_at_call 23; refine (last_any _).mono ?_; rintro e w' ⟨rfl, rfl⟩) | (go_at_call 58; refine (valid_any _ _).mono ?_; rintro e w' ⟨rfl, rfl⟩))
      go_ret2
      exact ⟨rfl, rfl⟩
    by_cases c2 : 157785120 < m
    · clear h
      go_enter Tryz.func84, Tryz.ntmps84
      go_wp2_with (first | (go_at_call 23; refine (last_any _).mono ?_; rintro e w' ⟨rfl, rfl⟩) | (go_at_call 58; refine (valid_any _ _).mono ?_; rintro e w' ⟨rfl, rfl⟩))
      go_ret2
      exact ⟨rfl, rfl⟩
    · have h3 : timeB (t + m) = false := by
        rcases h with h | h | h | h
        · rw [c] at h; cases h
        · omega
        · omega
        · exact h
      clear h
      go_enter Tryz.func84, Tryz.ntmps84
      go_wp2_with (first | (go_at_call 23; refine (last_any _).mono ?_; rintro e w' ⟨rfl, rfl⟩) | (go_at_call 58; refine (valid_any _ _).mono ?_; rintro e w' ⟨rfl, rfl⟩))
      go_ret2
      exact ⟨rfl, rfl⟩
  · have c' : timeB t = false := by simpa using c
    clear c h
    go_enter Tryz.func84, Tryz.ntmps84
    go_wp2_with (first | (go_at_call 23; refine (last_any _).mono ?_; rintro e w' ⟨rfl, rfl⟩) | (go_at_call 58; refine (valid_any _ _).mono ?_; rintro e w' ⟨rfl, rfl⟩))
    go_ret2
    exact ⟨rfl, rfl⟩

end Go.Proofs.YtgelojhpanbnaaaGreatDoor
