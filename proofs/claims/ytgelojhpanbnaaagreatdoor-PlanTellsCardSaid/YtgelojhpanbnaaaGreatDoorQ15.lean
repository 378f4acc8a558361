/- Texts joined into one (a claim has at most 60 files): event.Really of an event that is right: its contract. -/
import Derived.Test.YtgelojhpanbnaaaGreatDoorQ14
import Derived.Test.YtgelojhpanbnaaaGreatDoorQ31
namespace Go.Proofs.YtgelojhpanbnaaaGreatDoor
open Go.RowKit Go.Shelf
set_option linter.unusedSimpArgs false
set_option linter.unusedVariables false

structure EvR (w : World) (vm vd vw vp vM vN vC vA : Value) (mo da : List Int) (we : List (Int × Int)) (pk M N : List Int) (C : List (Int × Int)) (A : List Alm) : Prop where
  mo : IntsR w vm mo
  da : IntsR w vd da
  we : PairsR w vw we
  pk : IntsR w vp pk
  M : IntsR w vM M
  N : IntsR w vN N
  C : PairsR w vC C
  A : AlmsR w vA A

theorem EvR.below {w w' : World} {vm vd vw vp vM vN vC vA : Value} {mo da : List Int} {we : List (Int × Int)} {pk M N : List Int} {C : List (Int × Int)} {A : List Alm} (h : EvR w vm vd vw vp vM vN vC vA mo da we pk M N C A) (hb : Below w.heap.size w w') : EvR w' vm vd vw vp vM vN vC vA mo da we pk M N C A :=
  ⟨h.mo.below hb, h.da.below hb, h.we.below hb, h.pk.below hb, h.M.below hb, h.N.below hb, h.C.below hb, h.A.below hb⟩

set_option maxRecDepth 100000 in
set_option maxHeartbeats 8000000 in
theorem really_any (snm stx : ByteArray) (st ln : Int) (rp : Bool) (fr ev ct ti : Int) (vm vd vw vp vM vN vC vA : Value) (mo da : List Int) (we : List (Int × Int)) (pk M N : List Int) (C : List (Int × Int)) (A : List Alm) (t : Int) (w : World)
    (hR : EvR w vm vd vw vp vM vN vC vA mo da we pk M N C A) (hp : C.Pairwise (fun x y => x.1 < y.1)) (hl : C.length ≤ 100) :
    Calls Tryz.prog 81 #[.agg #[.string snm, .string stx, .int .i64 st, .int .i64 ln, .bool rp, .int .i64 fr, .int .i64 ev, .int .i64 ct, .int .i64 ti, vm, vd, vw, vp, vM, vN, vC, vA], .int .i64 t] w
      fun e w' => e = .returned (.tuple #[.int .i64 (reallyC C t).1, .bool (reallyC C t).2]) ∧ Below w.heap.size w w' := by
  obtain ⟨h1, h2, h3, h4, hM, hN, hC, hA⟩ := hR
  obtain ⟨am, km, rfl, -, -, -⟩ := intsR_open h1
  obtain ⟨ad, kd, rfl, -, -, -⟩ := intsR_open h2
  obtain ⟨aw, kw, rfl, -, -, -⟩ := pairsR_open h3
  obtain ⟨ap, kp, rfl, -, -, -⟩ := intsR_open h4
  obtain ⟨aM, kM, rfl, -, -, -⟩ := intsR_open hM
  obtain ⟨aN, kN, rfl, -, -, -⟩ := intsR_open hN
  obtain ⟨aC, kC, rfl, -, kC2, hds⟩ := pairsR_open hC
  obtain ⟨aA, kA, rfl, -, -, -⟩ := almsR_open hA
  unfold maxLen at kC2
  obtain ⟨eb, heb⟩ : ∃ x, x = w.heap.size := ⟨_, rfl⟩
  obtain ⟨w0, hw0⟩ : ∃ x, x = w.alloc (.cells #[.string snm, .string stx, .int .i64 st, .int .i64 ln, .bool rp, .int .i64 fr, .int .i64 ev, .int .i64 ct, .int .i64 ti, .slice am mo.length km, .slice ad da.length kd, .slice aw we.length kw, .slice ap pk.length kp, .slice aM M.length kM, .slice aN N.length kN, .slice aC C.length kC, .slice aA A.length kA] 29) := ⟨_, rfl⟩
  have hb0 : Below w.heap.size w w0 := by rw [hw0]; exact (Below.refl _ _).alloc (Nat.le_refl _) _
  have ec := hw0 ▸ evC_new w 29 snm stx st ln rp fr ev ct ti (.slice am mo.length km) (.slice ad da.length kd) (.slice aw we.length kw) (.slice ap pk.length kp) (.slice aM M.length kM) (.slice aN N.length kN) (.slice aC C.length kC) (.slice aA A.length kA)
  obtain ⟨rt, hrt⟩ : ∃ r, r = reallyC C t := ⟨_, rfl⟩
  rw [← hrt]
  have EC := Lib.hid ec; have B0 := Lib.hid hb0; have W0 := Lib.hid hw0; have RT := Lib.hid hrt; have HP := Lib.hid hp
  have RC := Lib.hid (hC.below hb0); have EB := Lib.hid heb; have HC := Lib.hid hds
  rw [← heb] at EC
  clear h1 h2 h3 h4 hM hN hC hA hw0 hb0 ec hrt hp heb hds
  go_enter Tryz.func81, Tryz.ntmps81
  go_upto_region 1 with fail
  rw [← W0.out]
  rw [← EB.out]
  have k15 := EC.out.k15
  go_wp2_with fail
  refine (csearch_any _ C t _ RC.out HP.out (by omega)).mono ?_; rintro e w1 ⟨k, b, rfl, hf, hb1⟩
  have B1 := Lib.hid (B0.out.trans (hb1.mono B0.out.size))
  have k15 := cell_below hb1 k15
  rcases hf with ⟨rfl, hk, he⟩ | ⟨rfl, hno⟩
  · have E := Lib.hid (found_yes HP.out hk he)
    obtain ⟨b2, o2, rfl, hcs⟩ := HC.out (by omega)
    have c1 := cell_below B1.out (hcs k hk).2
    obtain ⟨y, hy⟩ : ∃ y, y = C[k].2 := ⟨_, rfl⟩
    rw [← hy] at c1
    have Y := Lib.hid hy
    have i0 : (0 : Int) ≤ (k : Int) := Int.natCast_nonneg _
    have i1 : (k : Int) < (C.length : Int) := by omega
    clear hy hcs hb1 he
    go_upto_region 4 with fail
    go_quiet (fail)
    go_wp2
    go_ret2
    exact ⟨by rw [RT.out, E.out, ← Y.out]; rfl, below_drewN B1.out _⟩
  · have E := Lib.hid (found_no hno)
    clear hno hb1
    go_wp2
    go_ret2
    exact ⟨by rw [RT.out, E.out]; rfl, B1.out⟩

end Go.Proofs.YtgelojhpanbnaaaGreatDoor
