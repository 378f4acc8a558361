/- Slices of events, as they lie. No condition. -/
import Derived.Test.YtkpmddlinlcobaaGreatDoorTimJ
namespace Go.Proofs.YtkpmddlinlcobaaGreatDoor
open Go.RowKit Go.Shelf
set_option linter.unusedVariables false

/-- an event: what it says, and where its lists lie. -/
structure Ev where
  nm : List UInt8
  tx : List UInt8
  st : Int
  ln : Int
  rp : Bool
  fr : Int
  ev : Int
  ct : Int
  ti : Int
  vm : Value
  vd : Value
  vw : Value
  vp : Value
  vM : Value
  vN : Value
  vC : Value
  vA : Value
  mo : List Int
  da : List Int
  we : List (Int × Int)
  pk : List Int
  M : List Int
  N : List Int
  C : List (Int × Int)
  A : List Alm

def Ev.cells (e : Ev) : List Value := [.string (bs e.nm), .string (bs e.tx), .int .i64 e.st, .int .i64 e.ln, .bool e.rp, .int .i64 e.fr, .int .i64 e.ev, .int .i64 e.ct, .int .i64 e.ti, e.vm, e.vd, e.vw, e.vp, e.vM, e.vN, e.vC, e.vA]

/-- the fault of an event. -/
def Ev.F (e : Ev) : Int := evF e.nm e.tx e.st e.ln e.rp e.fr e.ev e.ct e.ti e.mo e.da e.we e.pk e.M e.N e.C e.A

/-- the times of its rule. -/
noncomputable def Ev.T (e : Ev) : List Int := ruleT e.rp e.st e.fr e.ev e.ct e.ti e.mo e.da e.we e.pk

/-- its times in a zone, from one to below another one. -/
noncomputable def Ev.times (ah : Int) (Z : List (Int × Int)) (a b : Int) (e : Ev) : List (Int × Int) := tmsOf ah Z e.T e.M e.N e.C e.ln a b

/-- what times.Between says is wrong. -/
noncomputable def Ev.err (ah : Int) (Z : List (Int × Int)) (a b : Int) (e : Ev) : Int := fullN (betE e.F (zfault ah Z) a b) (e.times ah Z a b).length

/-- its lists, as they lie, of a size that any machine's are. -/
structure Ev.Rd (w : World) (e : Ev) : Prop where
  r : EvR w e.vm e.vd e.vw e.vp e.vM e.vN e.vC e.vA e.mo e.da e.we e.pk e.M e.N e.C e.A
  nm : e.nm.length ≤ 140737488351232
  tx : e.tx.length ≤ 140737488351232
  cl : e.C.length ≤ 8796093022208

theorem Ev.Rd.below {w w2 : World} {e : Ev} (h : e.Rd w) (hb : Below w.heap.size w w2) : e.Rd w2 := ⟨h.r.below hb, h.nm, h.tx, h.cl⟩

/-- a slice of events, as it lies. -/
def EvsR (w : World) (v : Value) (L : List Ev) : Prop := Reads w v 17 L.length (L.flatMap Ev.cells) ∧ ∀ e ∈ L, e.Rd w

theorem EvsR.below {w w2 : World} {v : Value} {L : List Ev} (h : EvsR w v L) (hb : Below w.heap.size w w2) : EvsR w2 v L := ⟨h.1.below hb, fun e he => (h.2 e he).below hb⟩

theorem ev_between (e : Ev) (ah : Int) (vZ : Value) (Z : List (Int × Int)) (a b : Int) (w : World) (hw : Months w) (h : e.Rd w) (hZ : PairsR w vZ Z) :
    Calls Tryz.prog 28 #[.agg #[.int .i64 ah, vZ], .agg e.cells.toArray, .int .i64 a, .int .i64 b] w (BetP e.ln (e.err ah Z a b) (e.times ah Z a b) w) :=
  between_any e.nm e.tx e.st e.ln e.rp e.fr e.ev e.ct e.ti _ _ _ _ _ _ _ _ e.mo e.da e.we e.pk e.M e.N e.C e.A ah vZ Z a b w hw h.r hZ h.nm h.tx h.cl

end Go.Proofs.YtkpmddlinlcobaaGreatDoor
