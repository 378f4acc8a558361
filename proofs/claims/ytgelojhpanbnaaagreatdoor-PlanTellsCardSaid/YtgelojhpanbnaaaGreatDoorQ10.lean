/- Texts joined into one (a claim has at most 60 files): The contracts of period.of (whole), period.ready, period.Begin; Events, plainly: their faults; how one lies in memory; What event.Check knows within its region of lists; An event as an argument, opened: its cells, its lists, and the bounds that the reach gives. -/
import Derived.Test.YtgelojhpanbnaaaGreatDoorQ03
import Derived.Test.YtgelojhpanbnaaaGreatDoorRuleC
import Derived.Test.YtgelojhpanbnaaaGreatDoorQ07
import Derived.Test.YtgelojhpanbnaaaGreatDoorQ09
import Derived.Lib.SmallJoins
import Derived.SizedLaws
import Derived.OpenShut
namespace Go.Proofs.YtgelojhpanbnaaaGreatDoor
open Go.RowKit
set_option linter.unusedSimpArgs false
set_option linter.unusedVariables false

def perS (fr ev y m d k : Int) : Option (Int × Int) :=
  if k < 0 ∨ 109573 < k then none else
  if fr = 1 then (if Cal.num y m d + k * ev ≤ 109573 then some (Cal.num y m d + k * ev, Cal.num y m d + k * ev) else none) else
  if fr = 2 then (if Cal.mondayI (Cal.num y m d) + 7 * (k * ev) ≤ 109573 then some (Cal.mondayI (Cal.num y m d) + 7 * (k * ev), Cal.mondayI (Cal.num y m d) + 7 * (k * ev) + 6) else none) else
  if fr = 3 then (if (y - 1900) * 12 + m - 1 + k * ev < 3600 then some (monFrom ((y - 1900) * 12 + m - 1 + k * ev), monFrom ((y - 1900) * 12 + m - 1 + k * ev) + monSize ((y - 1900) * 12 + m - 1 + k * ev) - 1) else none) else
  if y + k * ev ≤ 2199 then some (Cal.num (y + k * ev) 1 1, Cal.num (y + k * ev) 12 31) else none

def PerO (fr ev n k : Int) (o : Option (Int × Int)) : Prop :=
  ((n < 1 ∨ 109573 < n) ∧ o = none) ∨ ∃ y m d, Cal.dateB y m d = true ∧ Cal.num y m d = n ∧ o = perS fr ev y m d k

theorem mul_bd (k ev : Int) (h1 : 0 ≤ k ∧ k ≤ 109573) (h2 : 1 ≤ ev ∧ ev ≤ 50) : 0 ≤ k * ev ∧ k * ev ≤ 6000000 := by
  constructor
  · exact Int.mul_nonneg h1.1 (by omega)
  · have := Int.mul_le_mul h1.2 h2.2 (by omega) (by omega); omega

theorem of_any (fr ev ct ti k : Int) (am ad aw ap : Option Addr) (lm km ld kd lw kw lp kp : Nat) (n : Int) (o : Option (Int × Int)) (w : World) (hw : Months w)
    (hf : 1 ≤ fr ∧ fr ≤ 4) (he : 1 ≤ ev ∧ ev ≤ 50) (ho : PerO fr ev n k o) :
    Calls Tryz.prog 194 #[.agg #[.int .i64 fr, .int .i64 ev, .int .i64 ct, .int .i64 ti, .slice am lm km, .slice ad ld kd, .slice aw lw kw, .slice ap lp kp], .int .i64 n, .int .i64 k] w
      fun e w' => ∃ a b : Int, (e = .returned (.tuple #[.agg #[.int .i64 a, .int .i64 b], .bool o.isSome]) ∧ ∀ p, o = some p → p = (a, b)) ∧ Below w.heap.size w w' := by
  rcases ho with ⟨hn, rfl⟩ | ⟨y, m, d, hd, rfl, rfl⟩
  · refine (of_start fr ev ct ti k am ad aw ap lm km ld kd lw kw lp kp n w hn).mono ?_
    rintro e w1 ⟨rfl, hb⟩; exact ⟨0, 0, ⟨rfl, by simp⟩, hb⟩
  · unfold perS
    by_cases hk : k < 0 ∨ 109573 < k
    · rw [if_pos hk]
      refine (of_k fr ev ct ti k am ad aw ap lm km ld kd lw kw lp kp y m d w hw hd hk).mono ?_
      rintro e w1 ⟨rfl, hb⟩; exact ⟨0, 0, ⟨rfl, by simp⟩, hb⟩
    rw [if_neg hk]
    have hk2 : 0 ≤ k ∧ k ≤ 109573 := by omega
    have hm := mul_bd k ev hk2 he
    by_cases f1 : fr = 1
    · subst f1
      rw [if_pos rfl]
      refine (of_1 ev ct ti k am ad aw ap lm km ld kd lw kw lp kp y m d w hw hd hk2 hm).mono ?_
      rintro e w1 ⟨rfl, hb⟩
      by_cases hc : Cal.num y m d + k * ev ≤ 109573
      · rw [if_pos hc, decide_eq_true hc]; exact ⟨_, _, ⟨rfl, fun p hp => (Option.some.inj hp).symm⟩, hb⟩
      · rw [if_neg hc, decide_eq_false hc]; exact ⟨_, _, ⟨rfl, by simp⟩, hb⟩
    rw [if_neg f1]
    by_cases f2 : fr = 2
    · subst f2
      rw [if_pos rfl]
      refine (of_2 ev ct ti k am ad aw ap lm km ld kd lw kw lp kp y m d w hw hd hk2 hm).mono ?_
      rintro e w1 ⟨rfl, hb⟩
      by_cases hc : Cal.mondayI (Cal.num y m d) + 7 * (k * ev) ≤ 109573
      · rw [if_pos hc, decide_eq_true hc]; exact ⟨_, _, ⟨rfl, fun p hp => (Option.some.inj hp).symm⟩, hb⟩
      · rw [if_neg hc, decide_eq_false hc]; exact ⟨_, _, ⟨rfl, by simp⟩, hb⟩
    rw [if_neg f2]
    by_cases f3 : fr = 3
    · subst f3
      rw [if_pos rfl]
      by_cases hc : (y - 1900) * 12 + m - 1 + k * ev < 3600
      · rw [if_pos hc]
        refine (of_3 ev ct ti k am ad aw ap lm km ld kd lw kw lp kp y m d w hw hd hk2 hm hc).mono ?_
        rintro e w1 ⟨rfl, hb⟩; exact ⟨_, _, ⟨rfl, fun p hp => (Option.some.inj hp).symm⟩, hb⟩
      · rw [if_neg hc]
        refine (of_3_none ev ct ti k am ad aw ap lm km ld kd lw kw lp kp y m d w hw hd hk2 hm (by omega)).mono ?_
        rintro e w1 ⟨rfl, hb⟩; exact ⟨_, _, ⟨rfl, by simp⟩, hb⟩
    rw [if_neg f3]
    have f4 : fr = 4 := by omega
    subst f4
    by_cases hc : y + k * ev ≤ 2199
    · rw [if_pos hc]
      refine (of_4 ev ct ti k am ad aw ap lm km ld kd lw kw lp kp y m d w hw hd hk2 hm hc).mono ?_
      rintro e w1 ⟨rfl, hb⟩; exact ⟨_, _, ⟨rfl, fun p hp => (Option.some.inj hp).symm⟩, hb⟩
    · rw [if_neg hc]
      refine (of_4_none ev ct ti k am ad aw ap lm km ld kd lw kw lp kp y m d w hw hd hk2 hm (by omega)).mono ?_
      rintro e w1 ⟨rfl, hb⟩; exact ⟨_, _, ⟨rfl, by simp⟩, hb⟩

theorem ruleF_0 {fr ev ct ti : Int} {mo da : List Int} {we : List (Int × Int)} {pk : List Int} (h : ruleF fr ev ct ti mo da we pk = 0) :
    (1 ≤ fr ∧ fr ≤ 4) ∧ (1 ≤ ev ∧ ev ≤ 50) ∧ (0 ≤ ct ∧ ct ≤ 200) ∧ fullB mo da we pk = false ∧ inB2 mo da (we.any nth2B) pk = true ∧ upB mo da we pk = true ∧ shapeB fr mo da we pk = false := by
  unfold ruleF at h
  by_cases h1 : numsB fr ev ct ti = true
  · rw [if_pos h1] at h
    by_cases h2 : (ct != 0 && ti != 0) = true
    · rw [if_pos h2] at h; omega
    · rw [if_neg h2] at h
      by_cases h3 : fullB mo da we pk = true
      · rw [if_pos h3] at h; omega
      · rw [if_neg h3] at h
        by_cases h4 : inB2 mo da (we.any nth2B) pk = true
        · rw [if_pos h4] at h
          by_cases h5 : upB mo da we pk = true
          · rw [if_pos h5] at h
            by_cases h6 : shapeB fr mo da we pk = true
            · rw [if_pos h6] at h; omega
            · simp [numsB, freqB] at h1
              exact ⟨by omega, by omega, by omega, by simpa using h3, h4, h5, by simpa using h6⟩
          · rw [if_neg h5] at h; omega
        · rw [if_neg h4] at h; omega
  · rw [if_neg h1] at h; omega

def perT (F : Int) (o : Option (Int × Int)) : Int × Int × Int := if F ≠ 0 then (F, 0, 0) else match o with
  | none => (1, 0, 0)
  | some p => (0, p.1, p.2)

end Go.Proofs.YtgelojhpanbnaaaGreatDoor

namespace Go.Proofs.YtgelojhpanbnaaaGreatDoor
open Go.RowKit
set_option linter.unusedSimpArgs false
set_option linter.unusedVariables false

abbrev Alm := Int × Bool × Int × Int

def almV (L : List Alm) : List Value := L.flatMap fun a => [.int .i64 a.1, .bool a.2.1, .int .i64 a.2.2.1, .int .i64 a.2.2.2]

def AlmsR (w : World) (v : Value) (L : List Alm) : Prop := Reads w v 4 L.length (almV L)

theorem AlmsR.below {w w' : World} {v : Value} {L : List Alm} (h : AlmsR w v L) (hb : Below w.heap.size w w') : AlmsR w' v L := Reads.below h hb

theorem almV_at (L : List Alm) : ∀ (i : Nat) (h : i < L.length), (almV L)[i * 4]? = some (.int .i64 L[i].1) ∧ (almV L)[i * 4 + 1]? = some (.bool L[i].2.1) ∧ (almV L)[i * 4 + 2]? = some (.int .i64 L[i].2.2.1) ∧ (almV L)[i * 4 + 3]? = some (.int .i64 L[i].2.2.2) := by
  induction L with
  | nil => intro i h; cases h
  | cons a r ih =>
    intro i h
    cases i with
    | zero => exact ⟨rfl, rfl, rfl, rfl⟩
    | succ i =>
      have e : almV (a :: r) = [.int .i64 a.1, .bool a.2.1, .int .i64 a.2.2.1, .int .i64 a.2.2.2] ++ almV r := rfl
      have := ih i (by simpa using h)
      rw [e]
      simp only [List.getElem_cons_succ]
      refine ⟨?_, ?_, ?_, ?_⟩
      · rw [List.getElem?_append_right (by simp; omega), show (i + 1) * 4 - _ = i * 4 by simp; omega]; exact this.1
      · rw [List.getElem?_append_right (by simp; omega), show (i + 1) * 4 + 1 - _ = i * 4 + 1 by simp; omega]; exact this.2.1
      · rw [List.getElem?_append_right (by simp; omega), show (i + 1) * 4 + 2 - _ = i * 4 + 2 by simp; omega]; exact this.2.2.1
      · rw [List.getElem?_append_right (by simp; omega), show (i + 1) * 4 + 3 - _ = i * 4 + 3 by simp; omega]; exact this.2.2.2

theorem almsR_open {w : World} {v : Value} {L : List Alm} (h : AlmsR w v L) : ∃ a cap, v = .slice a L.length cap ∧ L.length ≤ cap ∧ cap ≤ maxLen ∧
    (0 < L.length → ∃ b off, a = some ⟨b, off, none⟩ ∧ ∀ j (hj : j < L.length), w.cell? ⟨b, off + j * 4, none⟩ = some (.int .i64 L[j].1) ∧ w.cell? ⟨b, off + j * 4 + 1, none⟩ = some (.bool L[j].2.1) ∧ w.cell? ⟨b, off + j * 4 + 2, none⟩ = some (.int .i64 L[j].2.2.1) ∧ w.cell? ⟨b, off + j * 4 + 3, none⟩ = some (.int .i64 L[j].2.2.2)) := by
  obtain ⟨a, cap, h1, _, h3, h4, h5⟩ := h
  refine ⟨a, cap, h1, h3, h4, fun hn => ?_⟩
  obtain ⟨b, off, h6, h7⟩ := h5 hn
  refine ⟨b, off, h6, fun j hj => ?_⟩
  obtain ⟨q0, q1, q2, q3⟩ := almV_at L j hj
  exact ⟨h7 _ _ q0, h7 _ _ q1, h7 _ _ q2, h7 _ _ q3⟩

structure EvC (W : World) (b : Nat) (nm tx : ByteArray) (st ln : Int) (rp : Bool) (fr ev ct ti : Int) (vm vd vw vp vM vN vC vA : Value) : Prop where
  k0 : W.cell? ⟨b, 0, none⟩ = some (.string nm)
  k1 : W.cell? ⟨b, 1, none⟩ = some (.string tx)
  k2 : W.cell? ⟨b, 2, none⟩ = some (.int .i64 st)
  k3 : W.cell? ⟨b, 3, none⟩ = some (.int .i64 ln)
  k4 : W.cell? ⟨b, 4, none⟩ = some (.bool rp)
  k5 : W.cell? ⟨b, 5, none⟩ = some (.int .i64 fr)
  k6 : W.cell? ⟨b, 6, none⟩ = some (.int .i64 ev)
  k7 : W.cell? ⟨b, 7, none⟩ = some (.int .i64 ct)
  k8 : W.cell? ⟨b, 8, none⟩ = some (.int .i64 ti)
  k9 : W.cell? ⟨b, 9, none⟩ = some vm
  k10 : W.cell? ⟨b, 10, none⟩ = some vd
  k11 : W.cell? ⟨b, 11, none⟩ = some vw
  k12 : W.cell? ⟨b, 12, none⟩ = some vp
  k13 : W.cell? ⟨b, 13, none⟩ = some vM
  k14 : W.cell? ⟨b, 14, none⟩ = some vN
  k15 : W.cell? ⟨b, 15, none⟩ = some vC
  k16 : W.cell? ⟨b, 16, none⟩ = some vA

theorem EvC.below {W W' : World} {b : Nat} {nm tx : ByteArray} {st ln : Int} {rp : Bool} {fr ev ct ti : Int} {vm vd vw vp vM vN vC vA : Value} (h : EvC W b nm tx st ln rp fr ev ct ti vm vd vw vp vM vN vC vA) (hb : Below W.heap.size W W') : EvC W' b nm tx st ln rp fr ev ct ti vm vd vw vp vM vN vC vA :=
  ⟨cell_below hb h.k0, cell_below hb h.k1, cell_below hb h.k2, cell_below hb h.k3, cell_below hb h.k4, cell_below hb h.k5, cell_below hb h.k6, cell_below hb h.k7, cell_below hb h.k8, cell_below hb h.k9, cell_below hb h.k10, cell_below hb h.k11, cell_below hb h.k12, cell_below hb h.k13, cell_below hb h.k14, cell_below hb h.k15, cell_below hb h.k16⟩

theorem evC_new (w : World) (t : TypeId) (nm tx : ByteArray) (st ln : Int) (rp : Bool) (fr ev ct ti : Int) (vm vd vw vp vM vN vC vA : Value) :
    EvC (w.alloc (.cells #[.string nm, .string tx, .int .i64 st, .int .i64 ln, .bool rp, .int .i64 fr, .int .i64 ev, .int .i64 ct, .int .i64 ti, vm, vd, vw, vp, vM, vN, vC, vA] t)) w.heap.size nm tx st ln rp fr ev ct ti vm vd vw vp vM vN vC vA := by
  constructor <;> simp

def evA (nm tx : List UInt8) : Bool := !nameB nm || decide (60 < tx.length) || tx.any (fun c : UInt8 => textOut (c.toNat : Int))
def evB (st ln : Int) : Bool := badT st || decide (ln < 0) || decide (100000 < ln)
def evG (rp : Bool) (fr ev ct ti : Int) (a b c d : Nat) : Bool := !rp && !emptyB fr ev ct ti a b c d
def evD (a b c d : Nat) : Bool := decide (100 < a) || decide (100 < b) || decide (100 < c) || decide (4 < d)
def evE (M N : List Int) (C : List (Int × Int)) : Bool := (M ++ N ++ C.map (·.1)).any badT || C.any badC
def evR (M N : List Int) (C : List (Int × Int)) : Bool := !risesB M || !risesB N || !risesB (C.map (·.1))
def almBad (a : Alm) : Bool := almE a.1 a.2.2.1 a.2.2.2 != 0
def evF (nm tx : List UInt8) (st ln : Int) (rp : Bool) (fr ev ct ti : Int) (mo da : List Int) (we : List (Int × Int)) (pk : List Int) (M N : List Int) (C : List (Int × Int)) (A : List Alm) : Int :=
  if evA nm tx = true then 2 else if evB st ln = true then 1 else if evG rp fr ev ct ti mo.length da.length we.length pk.length = true then 3
  else if rp = true ∧ ruleF fr ev ct ti mo da we pk ≠ 0 then ruleF fr ev ct ti mo da we pk
  else if evD M.length N.length C.length A.length = true then 4 else if evE M N C = true then 1 else if evR M N C = true then 7 else if A.any almBad = true then 1 else 0

end Go.Proofs.YtgelojhpanbnaaaGreatDoor

namespace Go.Proofs.YtgelojhpanbnaaaGreatDoor
open Go.RowKit

structure HoldE (w6 W : World) (b fb : Nat) (vM vN vT : Value) (M N T : List Int) : Prop where
  bl : Below w6.heap.size w6 W
  k13 : W.cell? ⟨b, 13, none⟩ = some vM
  k14 : W.cell? ⟨b, 14, none⟩ = some vN
  kf : W.cell? ⟨fb, 0, none⟩ = some (.func (.func 59) #[] #[])
  rM : IntsR W vM M
  rN : IntsR W vN N
  rT : IntsR W vT T

theorem HoldE.next {w6 W W' : World} {b fb : Nat} {vM vN vT : Value} {M N T : List Int} (h : HoldE w6 W b fb vM vN vT M N T) (hb : Below W.heap.size W W') : HoldE w6 W' b fb vM vN vT M N T :=
  ⟨h.bl.trans (hb.mono h.bl.size), cell_below hb h.k13, cell_below hb h.k14, cell_below hb h.kf, h.rM.below hb, h.rN.below hb, h.rT.below hb⟩

theorem HoldE.drew {w6 W : World} {b fb : Nat} {vM vN vT : Value} {M N T : List Int} (h : HoldE w6 W b fb vM vN vT M N T) {n : Nat} : HoldE w6 (W.drewN n) b fb vM vN vT M N T := h.next (below_drewN (Below.refl _ _) _)

theorem HoldE.drew1 {w6 W : World} {b fb : Nat} {vM vN vT : Value} {M N T : List Int} (h : HoldE w6 W b fb vM vN vT M N T) : HoldE w6 W.drew b fb vM vN vT M N T := h.next ((Below.refl _ _).drew)

theorem HoldE.alloc {w6 W : World} {b fb : Nat} {vM vN vT : Value} {M N T : List Int} (h : HoldE w6 W b fb vM vN vT M N T) {o : Obj} : HoldE w6 (W.alloc o) b fb vM vN vT M N T := h.next ((Below.refl _ _).alloc (Nat.le_refl _) _)

theorem cell_allocE {W : World} {p : Addr} {v : Value} {o : Obj} (h : W.cell? p = some v) : (W.alloc o).cell? p = some v := cell_below ((Below.refl _ _).alloc (Nat.le_refl _) _) h

end Go.Proofs.YtgelojhpanbnaaaGreatDoor

namespace Go.Proofs.YtgelojhpanbnaaaGreatDoor
open Go.Joins Go.ChangeShapes Go.WideShapes Go.RowKit Go.Deep
set_option linter.unusedVariables false

theorem almV_len (L : List Alm) : (almV L).length = L.length * 4 := by
  induction L with
  | nil => rfl
  | cons a r ih =>
    have e : almV (a :: r) = [.int .i64 a.1, .bool a.2.1, .int .i64 a.2.2.1, .int .i64 a.2.2.2] ++ almV r := rfl
    rw [e, List.length_append, ih]; simp; omega

theorem almsR_mk {w : World} {a : Addr} {len cap : Nat} (L : List Alm) (hlen : L.length = len) (h1 : len ≤ cap) (h2 : cap ≤ maxLen)
    (hc : ∀ i (hi : i < L.length), w.cell? (a.add (i * 4)) = some (.int .i64 L[i].1) ∧ w.cell? (a.add (i * 4 + 1)) = some (.bool L[i].2.1) ∧ w.cell? (a.add (i * 4 + 2)) = some (.int .i64 L[i].2.2.1) ∧ w.cell? (a.add (i * 4 + 3)) = some (.int .i64 L[i].2.2.2)) : AlmsR w (.slice (some a) len cap) L := by
  subst hlen
  refine ⟨some a, cap, rfl, almV_len L, h1, h2, fun hn => ?_⟩
  have ha := cell_spot (a := a) (hc 0 hn).1
  refine ⟨a.block, a.off, by rw [← ha], fun j u hj => ?_⟩
  have hjl : j < L.length * 4 := by rw [← almV_len]; exact (List.getElem?_eq_some_iff.1 hj).1
  have hi : j / 4 < L.length := by omega
  obtain ⟨p0, p1, p2, p3⟩ := almV_at L (j / 4) hi
  obtain ⟨c0, c1, c2, c3⟩ := hc (j / 4) hi
  rw [ha, add_spot] at c0 c1 c2 c3
  have h4 : j % 4 = 0 ∨ j % 4 = 1 ∨ j % 4 = 2 ∨ j % 4 = 3 := by omega
  rcases h4 with e | e | e | e
  · have e' : j / 4 * 4 = j := by omega
    rw [e'] at p0 c0
    rw [p0] at hj; rw [← hj]; exact c0
  · have e' : j / 4 * 4 + 1 = j := by omega
    rw [e'] at p1 c1
    rw [p1] at hj; rw [← hj]; exact c1
  · have e' : j / 4 * 4 + 2 = j := by omega
    rw [e'] at p2 c2
    rw [p2] at hj; rw [← hj]; exact c2
  · have e' : j / 4 * 4 + 3 = j := by omega
    rw [e'] at p3 c3
    rw [p3] at hj; rw [← hj]; exact c3

theorem each_inner {H : Type} {P : Program} {ts : List TypeId} {ds : List (DataW H)} {j : Nat} {t : TypeId} {fs : Array Field} {parts : List (DataW H)} (h : (DataW.weightsEach P ts ds).all (· ≤ reachBytes) = true) (ht : ts[j]? = some t) (hd : ds[j]? = some (.agg parts)) (hu : P.underlying t = some (.struct fs)) :
    (DataW.weightsEach P (fs.toList.map (·.type)) parts).all (· ≤ reachBytes) = true := by
  rw [List.all_eq_true]
  intro n hn
  exact List.all_eq_true.1 h n (DataW.weights_mem_each ht hd n (by simp only [DataW.weights, hu]; exact hn))

section
variable {H : Type} {enc : TypeId × Value → H} {P : Program} {w : World} {base : Nat} {spare : Nat → Bool} {held : Bool}

theorem open_almsR {t e : TypeId} {f0 f1 f2 f3 : Field} {fuel : Nat} {v : Value} {x : DataW H × List MemPlace} (ht : P.underlying t = some (.slice e)) (he : P.underlying e = some (.struct #[f0, f1, f2, f3])) (ce : P.cellsOf e = 4) (hone : oneCellFields P #[f0, f1, f2, f3] = true)
    (i0 : P.underlying f0.type = some (.int .i64)) (i1 : P.underlying f1.type = some .bool) (i2 : P.underlying f2.type = some (.int .i64)) (i3 : P.underlying f3.type = some (.int .i64))
    (h : DataW.trod enc P w base spare held fuel t [v] = some x) : ∃ L : List Alm, AlmsR w v L := by
  rcases open_slice ht h with ⟨h1, _⟩ | ⟨a, len, cap, m, n, D, Pl, h1, hb, hl, hm, hmm, hx, hi⟩
  · obtain rfl : v = .slice none 0 0 := by simpa using h1
    exact ⟨[], reads_nil w 4⟩
  · obtain rfl : v = .slice (some a) len cap := by simpa using h1
    have hlm : len ≤ m := by rw [hmm]; split <;> omega
    have hq : ∀ i, ∃ q : Alm, i < len → (w.cell? (a.add (i * 4)) = some (.int .i64 q.1) ∧ w.cell? (a.add (i * 4 + 1)) = some (.bool q.2.1) ∧ w.cell? (a.add (i * 4 + 2)) = some (.int .i64 q.2.2.1) ∧ w.cell? (a.add (i * 4 + 3)) = some (.int .i64 q.2.2.2)) := by
      intro i
      by_cases hil : i < len
      · obtain ⟨cs', h3, h4⟩ := hi i (by omega)
        rw [ce] at h3
        obtain ⟨_, h5, h6⟩ := World.cells?_some h3
        match cs', h5 with
        | [c0, c1, c2, c3], _ =>
          obtain ⟨xs, n', _, _, _, hlen, hg⟩ := DataW.trod_struct he h4
          obtain ⟨o0, k0⟩ := hone_of hone 0 f0 rfl
          obtain ⟨o1, k1⟩ := hone_of hone 1 f1 rfl
          obtain ⟨o2, k2⟩ := hone_of hone 2 f2 rfl
          obtain ⟨o3, k3⟩ := hone_of hone 3 f3 rfl
          match xs, hlen with
          | [y0, y1, y2, y3], _ =>
            obtain ⟨q0, e0, _, _⟩ := DataW.trod_int i0 (show DataW.trod enc P w base spare held n' f0.type [c0] = some y0 by simpa [o0, k0] using hg 0 f0 rfl)
            obtain ⟨q1, e1, _⟩ := DataW.trod_bool i1 (show DataW.trod enc P w base spare held n' f1.type [c1] = some y1 by simpa [o1, k1] using hg 1 f1 rfl)
            obtain ⟨q2, e2, _, _⟩ := DataW.trod_int i2 (show DataW.trod enc P w base spare held n' f2.type [c2] = some y2 by simpa [o2, k2] using hg 2 f2 rfl)
            obtain ⟨q3, e3, _, _⟩ := DataW.trod_int i3 (show DataW.trod enc P w base spare held n' f3.type [c3] = some y3 by simpa [o3, k3] using hg 3 f3 rfl)
            simp only [List.cons.injEq, and_true] at e0 e1 e2 e3
            subst e0; subst e1; subst e2; subst e3
            have t0 := h6 0 (by omega); have t1 := h6 1 (by omega); have t2 := h6 2 (by omega); have t3 := h6 3 (by omega)
            rw [Go.Addr.add_add] at t0 t1 t2 t3
            exact ⟨(q0, q1, q2, q3), fun _ => ⟨t0, t1, t2, t3⟩⟩
      · exact ⟨(0, false, 0, 0), fun h => absurd h hil⟩
    obtain ⟨g, hg⟩ := Classical.axiomOfChoice hq
    refine ⟨(List.range len).map g, almsR_mk _ (by simp) hl hm fun i hi' => ?_⟩
    have hil : i < len := by simpa using hi'
    simpa using hg i hil

theorem slice_elems {t e : TypeId} {fuel : Nat} {a : Option Addr} {l cap : Nat} {x : DataW H × List MemPlace} (ht : P.underlying t = some (.slice e)) (h : DataW.trod enc P w base spare held fuel t [.slice a l cap] = some x) : l = 0 ∨ ∃ el sp, x.1 = .slice el sp ∧ el.length = l := by
  rcases open_slice ht h with ⟨h1, _⟩ | ⟨a, len, cap, m, n, D, Pl, h1, hb, hl, hm, hmm, hx, hi⟩
  · simp only [List.cons.injEq, Value.slice.injEq, and_true] at h1
    exact .inl h1.2.1
  · simp only [List.cons.injEq, Value.slice.injEq, and_true] at h1
    right
    exact ⟨_, _, by rw [hx], by simp; exact h1.2.1.symm⟩

theorem open_flat10 {r : Reach} {b0 : Nat} {t : TypeId} {f0 f1 f2 f3 f4 f5 f6 f7 f8 f9 : Field} {v : Value} {d : DataW H} {p : List MemPlace} (hs : P.underlying t = some (.struct #[f0, f1, f2, f3, f4, f5, f6, f7, f8, f9])) (hC : P.cellsOf t = 17) (o0 : f0.offset = 0) (o1 : f1.offset = 1) (o2 : f2.offset = 2) (o3 : f3.offset = 3) (o4 : f4.offset = 4) (o5 : f5.offset = 5) (o6 : f6.offset = 13) (o7 : f7.offset = 14) (o8 : f8.offset = 15) (o9 : f9.offset = 16) (k0 : P.cellsOf f0.type = 1) (k1 : P.cellsOf f1.type = 1) (k2 : P.cellsOf f2.type = 1) (k3 : P.cellsOf f3.type = 1) (k4 : P.cellsOf f4.type = 1) (k5 : P.cellsOf f5.type = 8) (k6 : P.cellsOf f6.type = 1) (k7 : P.cellsOf f7.type = 1) (k8 : P.cellsOf f8.type = 1) (k9 : P.cellsOf f9.type = 1)
    (hv : Value.okWide P w r b0 t v) (h : DataW.Trod enc P w base spare held t v d p) :
    ∃ (c0 c1 c2 c3 c4 c5 c6 c7 c8 c9 c10 c11 c12 c13 c14 c15 c16 : Value) (y0 y1 y2 y3 y4 y5 y6 y7 y8 y9 : DataW H × List MemPlace) (n : Nat), v = .agg #[c0, c1, c2, c3, c4, c5, c6, c7, c8, c9, c10, c11, c12, c13, c14, c15, c16] ∧ d = .agg [y0.1, y1.1, y2.1, y3.1, y4.1, y5.1, y6.1, y7.1, y8.1, y9.1] ∧ DataW.trod enc P w base spare held n f0.type [c0] = some y0 ∧ DataW.trod enc P w base spare held n f1.type [c1] = some y1 ∧ DataW.trod enc P w base spare held n f2.type [c2] = some y2 ∧ DataW.trod enc P w base spare held n f3.type [c3] = some y3 ∧ DataW.trod enc P w base spare held n f4.type [c4] = some y4 ∧ DataW.trod enc P w base spare held n f5.type [c5, c6, c7, c8, c9, c10, c11, c12] = some y5 ∧ DataW.trod enc P w base spare held n f6.type [c13] = some y6 ∧ DataW.trod enc P w base spare held n f7.type [c14] = some y7 ∧ DataW.trod enc P w base spare held n f8.type [c15] = some y8 ∧ DataW.trod enc P w base spare held n f9.type [c16] = some y9 := by
  obtain ⟨cs, rfl, hsz⟩ := okWide_struct hs hv
  obtain ⟨l⟩ := cs
  match l, hsz.trans hC with
  | [c0, c1, c2, c3, c4, c5, c6, c7, c8, c9, c10, c11, c12, c13, c14, c15, c16], _ =>
    obtain ⟨fuel, hf⟩ := h
    obtain ⟨xs, n, _, hx, _, hlen, hg⟩ := DataW.trod_struct hs hf
    match xs, hlen with
    | [y0, y1, y2, y3, y4, y5, y6, y7, y8, y9], _ =>
      simp only [Prod.mk.injEq] at hx
      exact ⟨c0, c1, c2, c3, c4, c5, c6, c7, c8, c9, c10, c11, c12, c13, c14, c15, c16, y0, y1, y2, y3, y4, y5, y6, y7, y8, y9, n, rfl, by simpa using hx.1, by simpa [Value.cells, o0, k0] using hg 0 f0 rfl, by simpa [Value.cells, o1, k1] using hg 1 f1 rfl, by simpa [Value.cells, o2, k2] using hg 2 f2 rfl, by simpa [Value.cells, o3, k3] using hg 3 f3 rfl, by simpa [Value.cells, o4, k4] using hg 4 f4 rfl, by simpa [Value.cells, o5, k5] using hg 5 f5 rfl, by simpa [Value.cells, o6, k6] using hg 6 f6 rfl, by simpa [Value.cells, o7, k7] using hg 7 f7 rfl, by simpa [Value.cells, o8, k8] using hg 8 f8 rfl, by simpa [Value.cells, o9, k9] using hg 9 f9 rfl⟩
end

end Go.Proofs.YtgelojhpanbnaaaGreatDoor
