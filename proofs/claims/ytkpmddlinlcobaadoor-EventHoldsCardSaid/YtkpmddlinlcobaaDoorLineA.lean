/- The contracts of line.Escape and line.Plain. Condition: texts of at most 4194304 bytes. -/
import Derived.Test.YtkpmddlinlcobaaDoorLineM
import Derived.Test.YtkpmddlinlcobaaDoorDayA
import Derived.Deep.AppendLies
import Derived.Laws.OwnMore
import Derived.Laws.IdiomStrings
import Derived.Laws.BytesArg
import Derived.Lib.ConvBytes
import Derived.Lib.SmallJoins
namespace Go.Proofs.YtkpmddlinlcobaaDoor
open Go.RowKit
set_option linter.unusedSimpArgs false
set_option linter.unusedVariables false

/-- bytes as cells. -/
def byV (l : List UInt8) : List Value := l.map fun b => .int .u8 (b.toNat : Int)

theorem u8Info : (Tryd.prog.info? 5).map (fun i => (i.zero, i.size, i.bytes)) = some (some (.int .u8 0), 1, 1) := by kernel_rfl

theorem byV_snoc (a b : List UInt8) : byV (a ++ b) = byV a ++ byV b := by simp [byV]

/-- 'string(b)' of a slice of bytes that the call owns. -/
theorem conv_own {w : World} {base : Nat} {v : Value} {n : Nat} (x : List UInt8) (hn : n = x.length) (h : w.ownsRow base 5 1 v n (byV x)) :
    (convert 43 9 v).run Tryd.prog w = .ok (.string (bs x)) w := by
  subst hn
  rcases h.2 with ⟨rfl, h0⟩ | ⟨g, cap, cur, rfl, hb, hg, hn, hc, hs, ht⟩
  · have hx : x = [] := List.length_eq_zero_iff.1 h0
    subst hx
    exact run_convert_bytes_nil (P := Tryd.prog) w 43 5 Tryd.underlying43 Tryd.underlying5 0 0 _ Tryd.underlying9
  · refine run_convert_bytes_back (P := Tryd.prog) w 43 9 5 ⟨g, 0, none⟩ cap x Tryd.underlying43 Tryd.underlying5 Tryd.underlying9 fun j hj => ?_
    rw [show ((⟨g, 0, none⟩ : Addr).add j) = ⟨g, j, none⟩ by (by_cases h0 : j = 0 <;> simp [Addr.add, h0])]
    rw [h.cellAt j (by omega)]
    simp [byV, hj]

/-- what holds at the loop's head of Escape. -/
def EscI (wb : World) (l : List UInt8) (g : Nat) (v i : Value) (wr : World) : Prop :=
  ∃ k : Nat, k ≤ l.length ∧ i = .int .i64 k ∧ g = l.length - k ∧ wr.ownsRow wb.heap.size 5 1 v (esc (l.take k)).length (byV (esc (l.take k))) ∧ Below wb.heap.size wb wr

theorem escI_next {wb w3 : World} {l d : List UInt8} {v : Value} {k m : Nat} (h : k < l.length) (hd : escB l[k] = d) (hm : m = (esc (l.take k)).length + d.length)
    (ho : w3.ownsRow wb.heap.size 5 1 v m (byV (esc (l.take k)) ++ byV d)) (hb : Below wb.heap.size wb w3) : EscI wb l (l.length - (k + 1)) v (.int .i64 ((k + 1 : Nat) : Int)) w3 := by
  have e : esc (l.take (k + 1)) = esc (l.take k) ++ d := by rw [List.take_succ_eq_append_getElem h, esc_snoc, hd]
  refine ⟨k + 1, by omega, rfl, rfl, ?_, hb⟩
  rw [e, byV_snoc, List.length_append]
  subst hm
  exact ho

/-- what holds at the loop's head of Plain. -/
def PlainI (w : World) (l : List UInt8) (g : Nat) (v i : Value) (wr : World) : Prop :=
  ∃ (k : Nat) (done : List UInt8), k ≤ l.length ∧ i = .int .i64 k ∧ g = l.length - k ∧ done ++ unesc (l.drop k) = unesc l ∧ done.length ≤ k ∧ wr.ownsRow w.heap.size 5 1 v done.length (byV done) ∧ Below w.heap.size w wr

theorem plainI_next {w w3 : World} {l done : List UInt8} {v : Value} {c : UInt8} {k j m : Nat} (hj : k < j) (hjl : j ≤ l.length) (hd : done ++ unesc (l.drop k) = unesc l) (hdl : done.length ≤ k) (hu : unesc (l.drop k) = c :: unesc (l.drop j)) (hm : m = done.length + 1)
    (ho : w3.ownsRow w.heap.size 5 1 v m (byV done ++ [.int .u8 (c.toNat : Int)])) (hb : Below w.heap.size w w3) : PlainI w l (l.length - j) v (.int .i64 (j : Int)) w3 := by
  refine ⟨j, done ++ [c], hjl, rfl, rfl, ?_, by simp; omega, ?_, hb⟩
  · rw [← hd, hu]; simp
  · rw [byV_snoc, List.length_append]
    subst hm
    exact ho

theorem bs_get (l : List UInt8) (k : Nat) (h : k < l.length) (h2 : k < (bs l).size) : (bs l)[k] = l[k] := by
  rfl

end Go.Proofs.YtkpmddlinlcobaaDoor
