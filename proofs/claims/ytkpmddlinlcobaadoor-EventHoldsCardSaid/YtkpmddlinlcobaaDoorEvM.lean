/- Events, plainly: their faults; how one lies in memory. No condition. -/
import Derived.Test.YtkpmddlinlcobaaDoorEvB
import Derived.Test.YtkpmddlinlcobaaDoorRuleC
namespace Go.Proofs.YtkpmddlinlcobaaDoor
open Go.RowKit
set_option linter.unusedSimpArgs false
set_option linter.unusedVariables false

/-- alarms: offset, from the end, repeat, between. -/
abbrev Alm := Int × Bool × Int × Int

def almV (L : List Alm) : List Value := L.flatMap fun a => [.int .i64 a.1, .bool a.2.1, .int .i64 a.2.2.1, .int .i64 a.2.2.2]

/-- A slice of alarms that reads as a list. -/
def AlmsR (w : World) (v : Value) (L : List Alm) : Prop := Reads w v 4 L.length (almV L)

theorem AlmsR.below {w w' : World} {v : Value} {L : List Alm} (h : AlmsR w v L) (hb : Below w.heap.size w w') : AlmsR w' v L := Reads.below h hb

theorem almV_at (L : List Alm) : ∀ (i : Nat) (h : i < L.length), (almV L)[i * 4]? = some (.int .i64 L[i].1) ∧ (almV L)[i * 4 + 1]? = some (.bool L[i].2.1) ∧ (almV L)[i * 4 + 2]? = some (.int .i64 L[i].2.2.1) ∧ (almV L)[i * 4 + 3]? = some (.int .i64 L[i].2.2.2) := by
  induction L with
  | nil => intro i h; cases h
  | cons a r ih =>
    intro i h
    cases i with
    | zero => exact ⟨rfl, rfl, rfl, rfl⟩
    | succ i =>
      have e : almV (a :: r) = [.int .i64 a.1, .bool a.2.1, .int .i64 a.2.2.1, .int .i64 a.2.2.2] ++ almV r := rfl
      have := ih i (by simpa using h)
      rw [e]
      simp only [List.getElem_cons_succ]
      refine ⟨?_, ?_, ?_, ?_⟩
      · rw [List.getElem?_append_right (by simp; omega), show (i + 1) * 4 - _ = i * 4 by simp; omega]; exact this.1
      · rw [List.getElem?_append_right (by simp; omega), show (i + 1) * 4 + 1 - _ = i * 4 + 1 by simp; omega]; exact this.2.1
      · rw [List.getElem?_append_right (by simp; omega), show (i + 1) * 4 + 2 - _ = i * 4 + 2 by simp; omega]; exact this.2.2.1
      · rw [List.getElem?_append_right (by simp; omega), show (i + 1) * 4 + 3 - _ = i * 4 + 3 by simp; omega]; exact this.2.2.2

theorem almsR_open {w : World} {v : Value} {L : List Alm} (h : AlmsR w v L) : ∃ a cap, v = .slice a L.length cap ∧ L.length ≤ cap ∧ cap ≤ maxLen ∧
    (0 < L.length → ∃ b off, a = some ⟨b, off, none⟩ ∧ ∀ j (hj : j < L.length), w.cell? ⟨b, off + j * 4, none⟩ = some (.int .i64 L[j].1) ∧ w.cell? ⟨b, off + j * 4 + 1, none⟩ = some (.bool L[j].2.1) ∧ w.cell? ⟨b, off + j * 4 + 2, none⟩ = some (.int .i64 L[j].2.2.1) ∧ w.cell? ⟨b, off + j * 4 + 3, none⟩ = some (.int .i64 L[j].2.2.2)) := by
  obtain ⟨a, cap, h1, _, h3, h4, h5⟩ := h
  refine ⟨a, cap, h1, h3, h4, fun hn => ?_⟩
  obtain ⟨b, off, h6, h7⟩ := h5 hn
  refine ⟨b, off, h6, fun j hj => ?_⟩
  obtain ⟨q0, q1, q2, q3⟩ := almV_at L j hj
  exact ⟨h7 _ _ q0, h7 _ _ q1, h7 _ _ q2, h7 _ _ q3⟩

/-- where an event lies. -/
structure EvC (W : World) (b : Nat) (nm tx : ByteArray) (st ln : Int) (rp : Bool) (fr ev ct ti : Int) (vm vd vw vp vM vN vC vA : Value) : Prop where
  k0 : W.cell? ⟨b, 0, none⟩ = some (.string nm)
  k1 : W.cell? ⟨b, 1, none⟩ = some (.string tx)
  k2 : W.cell? ⟨b, 2, none⟩ = some (.int .i64 st)
  k3 : W.cell? ⟨b, 3, none⟩ = some (.int .i64 ln)
  k4 : W.cell? ⟨b, 4, none⟩ = some (.bool rp)
  k5 : W.cell? ⟨b, 5, none⟩ = some (.int .i64 fr)
  k6 : W.cell? ⟨b, 6, none⟩ = some (.int .i64 ev)
  k7 : W.cell? ⟨b, 7, none⟩ = some (.int .i64 ct)
  k8 : W.cell? ⟨b, 8, none⟩ = some (.int .i64 ti)
  k9 : W.cell? ⟨b, 9, none⟩ = some vm
  k10 : W.cell? ⟨b, 10, none⟩ = some vd
  k11 : W.cell? ⟨b, 11, none⟩ = some vw
  k12 : W.cell? ⟨b, 12, none⟩ = some vp
  k13 : W.cell? ⟨b, 13, none⟩ = some vM
  k14 : W.cell? ⟨b, 14, none⟩ = some vN
  k15 : W.cell? ⟨b, 15, none⟩ = some vC
  k16 : W.cell? ⟨b, 16, none⟩ = some vA

theorem EvC.below {W W' : World} {b : Nat} {nm tx : ByteArray} {st ln : Int} {rp : Bool} {fr ev ct ti : Int} {vm vd vw vp vM vN vC vA : Value} (h : EvC W b nm tx st ln rp fr ev ct ti vm vd vw vp vM vN vC vA) (hb : Below W.heap.size W W') : EvC W' b nm tx st ln rp fr ev ct ti vm vd vw vp vM vN vC vA :=
  ⟨cell_below hb h.k0, cell_below hb h.k1, cell_below hb h.k2, cell_below hb h.k3, cell_below hb h.k4, cell_below hb h.k5, cell_below hb h.k6, cell_below hb h.k7, cell_below hb h.k8, cell_below hb h.k9, cell_below hb h.k10, cell_below hb h.k11, cell_below hb h.k12, cell_below hb h.k13, cell_below hb h.k14, cell_below hb h.k15, cell_below hb h.k16⟩

theorem evC_new (w : World) (t : TypeId) (nm tx : ByteArray) (st ln : Int) (rp : Bool) (fr ev ct ti : Int) (vm vd vw vp vM vN vC vA : Value) :
    EvC (w.alloc (.cells #[.string nm, .string tx, .int .i64 st, .int .i64 ln, .bool rp, .int .i64 fr, .int .i64 ev, .int .i64 ct, .int .i64 ti, vm, vd, vw, vp, vM, vN, vC, vA] t)) w.heap.size nm tx st ln rp fr ev ct ti vm vd vw vp vM vN vC vA := by
  constructor <;> simp

/-- the faults of an event, one behind the other. -/
def evA (nm tx : List UInt8) : Bool := !nameB nm || decide (60 < tx.length) || tx.any (fun c : UInt8 => textOut (c.toNat : Int))
def evB (st ln : Int) : Bool := badT st || decide (ln < 0) || decide (100000 < ln)
def evG (rp : Bool) (fr ev ct ti : Int) (a b c d : Nat) : Bool := !rp && !emptyB fr ev ct ti a b c d
def evD (a b c d : Nat) : Bool := decide (100 < a) || decide (100 < b) || decide (100 < c) || decide (4 < d)
def evE (M N : List Int) (C : List (Int × Int)) : Bool := (M ++ N ++ C.map (·.1)).any badT || C.any badC
def evR (M N : List Int) (C : List (Int × Int)) : Bool := !risesB M || !risesB N || !risesB (C.map (·.1))
def almBad (a : Alm) : Bool := almE a.1 a.2.2.1 a.2.2.2 != 0
def evF (nm tx : List UInt8) (st ln : Int) (rp : Bool) (fr ev ct ti : Int) (mo da : List Int) (we : List (Int × Int)) (pk : List Int) (M N : List Int) (C : List (Int × Int)) (A : List Alm) : Int :=
  if evA nm tx = true then 2 else if evB st ln = true then 1 else if evG rp fr ev ct ti mo.length da.length we.length pk.length = true then 3
  else if rp = true ∧ ruleF fr ev ct ti mo da we pk ≠ 0 then ruleF fr ev ct ti mo da we pk
  else if evD M.length N.length C.length A.length = true then 4 else if evE M N C = true then 1 else if evR M N C = true then 7 else if A.any almBad = true then 1 else 0

end Go.Proofs.YtkpmddlinlcobaaDoor
