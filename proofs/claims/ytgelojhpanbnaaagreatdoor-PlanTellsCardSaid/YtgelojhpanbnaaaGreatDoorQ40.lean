/- Texts joined into one (a claim has at most 60 files): times.Next: its contract; event.Moved of a time that an event has, chimesame.Times of two lists that are the same; what times.Between's list is, plainly; Slices of events, as they lie; An event whose rule's lists are of a size that any machine's are; The contract of the law's own meet: has a time of one list a minute with one of another one? Condition: the times are some. -/
import Derived.Test.YtgelojhpanbnaaaGreatDoorTimH
import Derived.Test.YtgelojhpanbnaaaGreatDoorQ14
import Derived.Test.YtgelojhpanbnaaaGreatDoorQ18
namespace Go.Proofs.YtgelojhpanbnaaaGreatDoor
open Go.RowKit Go.Shelf
set_option linter.unusedSimpArgs false
set_option linter.unusedVariables false

end Go.Proofs.YtgelojhpanbnaaaGreatDoor

namespace Go.Proofs.YtgelojhpanbnaaaGreatDoor
open Go.RowKit Go.Shelf
set_option linter.unusedSimpArgs false
set_option linter.unusedVariables false

theorem mayZ_of {ah : Int} {Z : List (Int × Int)} (h : zfault ah Z = 0) : MayZ ah Z := zoneOf_bd h

theorem fullN_0 {E : Int} {n : Nat} (h : 0 = fullN E n) : E = 0 ∧ n ≤ 200 := by
  unfold fullN at h
  by_cases h1 : E = 0 ∧ 200 < n
  · rw [if_pos h1] at h; cases h
  · rw [if_neg h1] at h; exact ⟨h.symm, by omega⟩

theorem betE_0 {F ZF a b : Int} (h : betE F ZF a b = 0) : F = 0 ∧ ZF = 0 ∧ timeB a = true ∧ timeB b = true ∧ a ≤ b ∧ b - a ≤ 1000000 := by
  unfold betE at h
  by_cases h0 : readyE F ZF ≠ 0
  · rw [if_pos h0] at h; exact absurd h h0
  · rw [if_neg h0] at h
    obtain ⟨h1, h2⟩ := ready_ok (show readyE F ZF = 0 by omega)
    exact ⟨h1, h2, spanE_0 h⟩

def TmsR (ln : Int) (w : World) (v : Value) (L : List (Int × Int)) : Prop := Reads w v 3 L.length (L.flatMap (encT ln))

theorem TmsR.below {ln : Int} {w w' : World} {v : Value} {L : List (Int × Int)} (h : TmsR ln w v L) (hb : Below w.heap.size w w') : TmsR ln w' v L := Reads.below h hb

theorem OwnT.tms {ln : Int} {B : Nat} {w : World} {v : Value} {L : List (Int × Int)} (h : OwnT ln B w v L) : TmsR ln w v L := ownsRow_reads h

theorem tmsR_open {ln : Int} {w : World} {v : Value} {L : List (Int × Int)} (h : TmsR ln w v L) : ∃ a cap, v = .slice a L.length cap ∧ L.length ≤ cap ∧ cap ≤ maxLen ∧
    (0 < L.length → ∃ b off, a = some ⟨b, off, none⟩ ∧ ∀ (i : Nat) (hi : i < L.length), w.cell? ⟨b, off + i * 3, none⟩ = some (.int .i64 L[i].1) ∧ w.cell? ⟨b, off + i * 3 + 1, none⟩ = some (.int .i64 L[i].2) ∧ w.cell? ⟨b, off + i * 3 + 2, none⟩ = some (.int .i64 (L[i].2 + ln))) := by
  obtain ⟨p, cap, rfl, k1, k2, k3, k4⟩ := h
  refine ⟨p, cap, rfl, k2, k3, fun hp => ?_⟩
  obtain ⟨b, off, rfl, hc⟩ := k4 hp
  have q : ∀ (i : Nat) (hi : i < L.length) (o : Nat) (ho : o < 3) (u : Value), (encT ln L[i])[o]? = some u → w.cell? ⟨b, off + i * 3 + o, none⟩ = some u := fun i hi o ho u hu => by
    rw [Nat.add_assoc]
    exact hc _ _ ((flatMap_at (enc := encT ln) (k := 3) (fun _ => rfl) L i o hi ho).trans hu)
  exact ⟨b, off, rfl, fun i hi => ⟨q i hi 0 (by omega) _ rfl, q i hi 1 (by omega) _ rfl, q i hi 2 (by omega) _ rfl⟩⟩

end Go.Proofs.YtgelojhpanbnaaaGreatDoor

namespace Go.Proofs.YtgelojhpanbnaaaGreatDoor
open Go.RowKit Go.Shelf
set_option linter.unusedVariables false

structure Ev where
  nm : List UInt8
  tx : List UInt8
  st : Int
  ln : Int
  rp : Bool
  fr : Int
  ev : Int
  ct : Int
  ti : Int
  vm : Value
  vd : Value
  vw : Value
  vp : Value
  vM : Value
  vN : Value
  vC : Value
  vA : Value
  mo : List Int
  da : List Int
  we : List (Int × Int)
  pk : List Int
  M : List Int
  N : List Int
  C : List (Int × Int)
  A : List Alm

def Ev.cells (e : Ev) : List Value := [.string (bs e.nm), .string (bs e.tx), .int .i64 e.st, .int .i64 e.ln, .bool e.rp, .int .i64 e.fr, .int .i64 e.ev, .int .i64 e.ct, .int .i64 e.ti, e.vm, e.vd, e.vw, e.vp, e.vM, e.vN, e.vC, e.vA]

def Ev.F (e : Ev) : Int := evF e.nm e.tx e.st e.ln e.rp e.fr e.ev e.ct e.ti e.mo e.da e.we e.pk e.M e.N e.C e.A

noncomputable def Ev.T (e : Ev) : List Int := ruleT e.rp e.st e.fr e.ev e.ct e.ti e.mo e.da e.we e.pk

noncomputable def Ev.times (ah : Int) (Z : List (Int × Int)) (a b : Int) (e : Ev) : List (Int × Int) := tmsOf ah Z e.T e.M e.N e.C e.ln a b

noncomputable def Ev.err (ah : Int) (Z : List (Int × Int)) (a b : Int) (e : Ev) : Int := fullN (betE e.F (zfault ah Z) a b) (e.times ah Z a b).length

structure Ev.Rd (w : World) (e : Ev) : Prop where
  r : EvR w e.vm e.vd e.vw e.vp e.vM e.vN e.vC e.vA e.mo e.da e.we e.pk e.M e.N e.C e.A
  nm : e.nm.length ≤ 140737488351232
  tx : e.tx.length ≤ 140737488351232
  cl : e.C.length ≤ 8796093022208

theorem Ev.Rd.below {w w2 : World} {e : Ev} (h : e.Rd w) (hb : Below w.heap.size w w2) : e.Rd w2 := ⟨h.r.below hb, h.nm, h.tx, h.cl⟩

def EvsR (w : World) (v : Value) (L : List Ev) : Prop := Reads w v 17 L.length (L.flatMap Ev.cells) ∧ ∀ e ∈ L, e.Rd w

theorem EvsR.below {w w2 : World} {v : Value} {L : List Ev} (h : EvsR w v L) (hb : Below w.heap.size w w2) : EvsR w2 v L := ⟨h.1.below hb, fun e he => (h.2 e he).below hb⟩

theorem ev_between (e : Ev) (ah : Int) (vZ : Value) (Z : List (Int × Int)) (a b : Int) (w : World) (hw : Months w) (h : e.Rd w) (hZ : PairsR w vZ Z) :
    Calls Tryz.prog 17 #[.agg #[.int .i64 ah, vZ], .agg e.cells.toArray, .int .i64 a, .int .i64 b] w (BetP e.ln (e.err ah Z a b) (e.times ah Z a b) w) :=
  between_any e.nm e.tx e.st e.ln e.rp e.fr e.ev e.ct e.ti _ _ _ _ _ _ _ _ e.mo e.da e.we e.pk e.M e.N e.C e.A ah vZ Z a b w hw h.r hZ h.nm h.tx h.cl

end Go.Proofs.YtgelojhpanbnaaaGreatDoor

namespace Go.Proofs.YtgelojhpanbnaaaGreatDoor

def Ev.Sm (e : Ev) : Prop := e.mo.length ≤ 70368744177664 ∧ e.da.length ≤ 70368744177664 ∧ e.we.length ≤ 70368744177664 ∧ e.pk.length ≤ 70368744177664

end Go.Proofs.YtgelojhpanbnaaaGreatDoor

namespace Go.Proofs.YtgelojhpanbnaaaGreatDoor
open Go.RowKit Go.Shelf
set_option linter.unusedSimpArgs false
set_option linter.unusedVariables false

theorem meetB_any {a b : TL} : meetB a b = true ↔ ∃ (i : Nat) (hi : i < a.2.length) (j : Nat) (hj : j < b.2.length), meetT a.1 b.1 a.2[i] b.2[j] = true := by
  unfold meetB
  rw [List.any_eq_true]
  constructor
  · rintro ⟨x, hx, h⟩
    rw [List.any_eq_true] at h
    obtain ⟨y, hy, h⟩ := h
    obtain ⟨i, hi, rfl⟩ := List.mem_iff_getElem.1 hx
    obtain ⟨j, hj, rfl⟩ := List.mem_iff_getElem.1 hy
    exact ⟨i, hi, j, hj, h⟩
  · rintro ⟨i, hi, j, hj, h⟩
    exact ⟨_, List.getElem_mem hi, List.any_eq_true.2 ⟨_, List.getElem_mem hj, h⟩⟩

theorem meetB_none {a b : TL} (h : ∀ (i : Nat) (hi : i < a.2.length) (j : Nat) (hj : j < b.2.length), meetT a.1 b.1 a.2[i] b.2[j] = false) : meetB a b = false := by
  cases hm : meetB a b
  · rfl
  · obtain ⟨i, hi, j, hj, h2⟩ := meetB_any.1 hm
    rw [h i hi j hj] at h2; cases h2

set_option maxRecDepth 100000 in
set_option maxHeartbeats 8000000 in
theorem meetl_any (la lb : Int) (X Y : List (Int × Int)) (u v : Value) (w : World) (hu : TmsR la w u X) (hv : TmsR lb w v Y) :
    Calls Tryz.prog 42 #[u, v] w fun e w' => e = .returned (.bool (meetB (la, X) (lb, Y))) ∧ w = w' := by
  obtain ⟨p, cap, rfl, hc1, hc2, hcell⟩ := tmsR_open hu
  obtain ⟨q, caq, rfl, hd1, hd2, hdell⟩ := tmsR_open hv
  unfold maxLen at hc2 hd2
  have HC := Lib.hid hcell; have HD := Lib.hid hdell
  obtain ⟨m, hm⟩ : ∃ m, m = meetB (la, X) (lb, Y) := ⟨_, rfl⟩
  have ME := Lib.hid hm
  rw [← hm]
  clear hcell hdell hu hv hm
  go_enter Tryz.func42, Tryz.ntmps42
  go_wp2
  go_loopg [5] X.length (fun g iv wr => ∃ k : Nat, k ≤ X.length ∧ iv = .int .i64 k ∧ g = X.length - k ∧ Hid (∀ (i : Nat) (hi : i < X.length) (j : Nat) (hj : j < Y.length), i < k → meetT la lb X[i] Y[j] = false) ∧ w = wr)
  case atStart => exact ⟨0, Nat.zero_le _, rfl, rfl, Lib.hid (fun i hi j hj h => by omega), rfl⟩
  case round =>
    obtain ⟨k, hk, rfl, hg, HI, rfl⟩ := hrel
    have G := Lib.hid hg; clear hg
    by_cases hlt : k < X.length
    · obtain ⟨b1, o1, rfl, hcs⟩ := HC.out (by omega)
      have c1 := (hcs k hlt).2.1
      have c2 := (hcs k hlt).2.2
      have XM := Lib.hid (show ∀ (j : Nat) (hj : j < Y.length), meetT la lb X[k] Y[j] = true → m = true from fun j hj h => by rw [ME.out]; exact meetB_any.2 ⟨k, hlt, j, hj, h⟩)
      have XS := Lib.hid (show (∀ (j : Nat) (hj : j < Y.length), meetT la lb X[k] Y[j] = false) → ∀ (i : Nat) (hi : i < X.length) (j : Nat) (hj : j < Y.length), i < k + 1 → meetT la lb X[i] Y[j] = false from fun h i hi j hj h1 => by
        rcases Nat.lt_or_ge i k with h2 | h2
        · exact HI.out i hi j hj h2
        · obtain rfl : i = k := by omega
          exact h j hj)
      obtain ⟨x, hx⟩ : ∃ x, x = X[k] := ⟨_, rfl⟩
      rw [← hx] at c1 c2 XM XS
      obtain ⟨x1, x2⟩ := x
      simp only at c1 c2
      obtain ⟨x3, hx3⟩ : ∃ z, z = x2 + la := ⟨_, rfl⟩
      rw [← hx3] at c2
      have X3 := Lib.hid hx3
      have i0 : (0 : Int) ≤ (k : Int) := Int.natCast_nonneg _
      have i1 : (k : Int) < (X.length : Int) := by omega
      clear hx hcs hx3
      go_wp2
      go_loopg [6, 7] Y.length (fun g jv lv wr => ∃ j : Nat, j ≤ Y.length ∧ jv = .int .i64 j ∧ g = Y.length - j ∧ Hid (∀ (i : Nat) (hi : i < Y.length), i < j → meetT la lb (x1, x2) Y[i] = false) ∧ w = wr)
      case atStart => exact ⟨0, Nat.zero_le _, rfl, rfl, Lib.hid (fun i hi h => by omega), rfl⟩
      case round =>
        obtain ⟨j, hj, rfl, hg2, HJ, rfl⟩ := hrel
        have G2 := Lib.hid hg2; clear hg2
        by_cases hlt2 : j < Y.length
        · obtain ⟨b2, o2, rfl, hds⟩ := HD.out (by omega)
          have d1 := (hds j hlt2).2.1
          have d2 := (hds j hlt2).2.2
          have YM := Lib.hid (XM.out j hlt2)
          have YS := Lib.hid (show meetT la lb (x1, x2) Y[j] = false → ∀ (i : Nat) (hi : i < Y.length), i < j + 1 → meetT la lb (x1, x2) Y[i] = false from fun h i hi h1 => by
            rcases Nat.lt_or_ge i j with h2 | h2
            · exact HJ.out i hi h2
            · obtain rfl : i = j := by omega
              exact h)
          obtain ⟨y, hy⟩ : ∃ y, y = Y[j] := ⟨_, rfl⟩
          rw [← hy] at d1 d2 YM YS
          obtain ⟨y1, y2⟩ := y
          simp only at d1 d2
          obtain ⟨y3, hy3⟩ : ∃ z, z = y2 + lb := ⟨_, rfl⟩
          rw [← hy3] at d2
          have MT := Lib.hid (show meetT la lb (x1, x2) (y1, y2) = decide (max x2 y2 < min x3 y3) by rw [meetT, X3.out, hy3])
          have j0 : (0 : Int) ≤ (j : Int) := Int.natCast_nonneg _
          have j1 : (j : Int) < (Y.length : Int) := by omega
          clear hy hds hy3
          obtain ⟨lo, hlo⟩ : ∃ z, z = max x2 y2 := ⟨_, rfl⟩
          have LO := Lib.hid hlo
          obtain ⟨q, hq⟩ : ∃ q : Bool, q = decide (x2 < y2) := ⟨_, rfl⟩
          have QE := Lib.hid hq
          have LT := Lib.hid (show q = true → lo = y2 from fun h => by rw [hq] at h; have := of_decide_eq_true h; rw [LO.out]; omega)
          have LF := Lib.hid (show q = false → lo = x2 from fun h => by rw [hq] at h; have := of_decide_eq_false h; rw [LO.out]; omega)
          clear hlo hq
          go_upto_region 8 with fail
          go_cut [31] (fun s31 wx => s31 = .bool q ∧ w = wx)
          case first =>
            go_wp2
            go_meet
            exact ⟨by rw [QE.out], rfl⟩
          case rest =>
          obtain ⟨rfl, rfl⟩ := hcut
          go_upto_if 31 with fail
          go_cut [7] (fun s7 wx => s7 = .int .i64 lo ∧ w = wx)
          case first =>
            cases q
            · have L2 := Lib.hid (LF.out rfl)
              go_wp2
              go_meet
              exact ⟨by rw [L2.out], rfl⟩
            · have L2 := Lib.hid (LT.out rfl)
              go_wp2
              go_meet
              exact ⟨by rw [L2.out], rfl⟩
          case rest =>
          obtain ⟨rfl, rfl⟩ := hcut
          by_cases g2 : lo < x3
          · have e2 : decide (lo < x3) = true := decide_eq_true g2
            by_cases g3 : lo < y3
            · have e3 : decide (lo < y3) = true := decide_eq_true g3
              have MM := Lib.hid (YM.out (by rw [MT.out, ← LO.out]; exact decide_eq_true (by omega)))
              clear g2 g3
              go_wp2
              go_ret
              exact ⟨by first | (rw [MM.out]; done) | (rw [MM.out]; rfl), rfl⟩
            · have e3 : decide (lo < y3) = false := decide_eq_false g3
              have NN := Lib.hid (YS.out (by rw [MT.out, ← LO.out]; exact decide_eq_false (by omega)))
              clear g2 g3
              go_wp2
              go_roundg (Y.length - (j + 1))
              case measure => rw [G2.out]; omega
              case rel => exact ⟨j + 1, by omega, by go_num, rfl, NN, rfl⟩
          · have e2 : decide (lo < x3) = false := decide_eq_false g2
            have NN := Lib.hid (YS.out (by rw [MT.out, ← LO.out]; exact decide_eq_false (by omega)))
            clear g2
            go_wp2
            go_roundg (Y.length - (j + 1))
            case measure => rw [G2.out]; omega
            case rel => exact ⟨j + 1, by omega, by go_num, rfl, NN, rfl⟩
        · obtain rfl : j = Y.length := by omega
          have j1 : ¬ (Y.length : Int) < (Y.length : Int) := by omega
          have NN := Lib.hid (XS.out (fun i hi => HJ.out i hi hi))
          go_wp2
          go_roundg (X.length - (k + 1))
          case measure => rw [G.out]; omega
          case rel => exact ⟨k + 1, by omega, by go_num, rfl, NN, rfl⟩
    · obtain rfl : k = X.length := by omega
      have i1 : ¬ (X.length : Int) < (X.length : Int) := by omega
      have MM := Lib.hid (show m = false by rw [ME.out]; exact meetB_none (fun i hi j hj => HI.out i hi j hj hi))
      go_wp2
      go_ret
      exact ⟨by first | (rw [MM.out]; done) | (rw [MM.out]; rfl), rfl⟩

end Go.Proofs.YtgelojhpanbnaaaGreatDoor
