/- What event.Check knows within its region of lists. -/
import Derived.Test.YtkpmddlinlcobaaDoorEvM
import Derived.Test.YtkpmddlinlcobaaDoorEvK
namespace Go.Proofs.YtkpmddlinlcobaaDoor
open Go.RowKit

structure HoldE (w6 W : World) (b fb : Nat) (vM vN vT : Value) (M N T : List Int) : Prop where
  bl : Below w6.heap.size w6 W
  k13 : W.cell? ⟨b, 13, none⟩ = some vM
  k14 : W.cell? ⟨b, 14, none⟩ = some vN
  kf : W.cell? ⟨fb, 0, none⟩ = some (.func (.func 10) #[] #[])
  rM : IntsR W vM M
  rN : IntsR W vN N
  rT : IntsR W vT T

theorem HoldE.next {w6 W W' : World} {b fb : Nat} {vM vN vT : Value} {M N T : List Int} (h : HoldE w6 W b fb vM vN vT M N T) (hb : Below W.heap.size W W') : HoldE w6 W' b fb vM vN vT M N T :=
  ⟨h.bl.trans (hb.mono h.bl.size), cell_below hb h.k13, cell_below hb h.k14, cell_below hb h.kf, h.rM.below hb, h.rN.below hb, h.rT.below hb⟩

theorem HoldE.drew {w6 W : World} {b fb : Nat} {vM vN vT : Value} {M N T : List Int} (h : HoldE w6 W b fb vM vN vT M N T) {n : Nat} : HoldE w6 (W.drewN n) b fb vM vN vT M N T := h.next (below_drewN (Below.refl _ _) _)

theorem HoldE.drew1 {w6 W : World} {b fb : Nat} {vM vN vT : Value} {M N T : List Int} (h : HoldE w6 W b fb vM vN vT M N T) : HoldE w6 W.drew b fb vM vN vT M N T := h.next ((Below.refl _ _).drew)

theorem HoldE.alloc {w6 W : World} {b fb : Nat} {vM vN vT : Value} {M N T : List Int} (h : HoldE w6 W b fb vM vN vT M N T) {o : Obj} : HoldE w6 (W.alloc o) b fb vM vN vT M N T := h.next ((Below.refl _ _).alloc (Nat.le_refl _) _)

theorem cell_allocE {W : World} {p : Addr} {v : Value} {o : Obj} (h : W.cell? p = some v) : (W.alloc o).cell? p = some v := cell_below ((Below.refl _ _).alloc (Nat.le_refl _) _) h

end Go.Proofs.YtkpmddlinlcobaaDoor
