/- Texts joined into one (a claim has at most 60 files): times.Order, the sort of times, times.one: their contracts; times.one: its contract. -/
import Derived.Test.YtgelojhpanbnaaaGreatDoorTimD
import Derived.Test.YtgelojhpanbnaaaGreatDoorQ08
import Derived.Test.YtgelojhpanbnaaaGreatDoorShTimes
import Derived.Test.YtgelojhpanbnaaaGreatDoorQ09
import Derived.Deep.RegionHeld3
import Derived.StillTailTactics
import Derived.Deep.MidRow
namespace Go.Proofs.YtgelojhpanbnaaaGreatDoor
open Go.RowKit Go.Shelf Go.Sort
set_option linter.unusedSimpArgs false
set_option linter.unusedVariables false
attribute [local go_sem] Oper.semAt_some

def encT (ln : Int) (x : Int × Int) : List Value := [.int .i64 x.1, .int .i64 x.2, .int .i64 (x.2 + ln)]

def timeC (x y : Int × Int) : Int := orQ [cmpQ x.2 y.2, cmpQ x.1 y.1]

theorem grow_end3T (w : World) (a b c : Obj) : ∃ q os, ((((w.alloc a).alloc b).alloc c).drew) = grow (w.drewN q) os :=
  ⟨1, #[a, b, c], by rw [alloc_eq_grow, alloc_eq_grow, alloc_eq_grow, grow_grow, grow_grow]; rfl⟩

set_option maxHeartbeats 2000000 in
theorem timeC_any (ln : Int) (x y : Int × Int) (w : World) :
    Calls Tryz.prog 151 #[.agg #[.int .i64 x.1, .int .i64 x.2, .int .i64 (x.2 + ln)], .agg #[.int .i64 y.1, .int .i64 y.2, .int .i64 (y.2 + ln)]] w fun e w' => e = .returned (.int .i64 (timeC x y)) ∧ ∃ q os, w' = grow (w.drewN q) os := by
  obtain ⟨r, hr⟩ : ∃ r, r = timeC x y := ⟨_, rfl⟩
  have R := Lib.hid (show orQ [cmpQ x.2 y.2, cmpQ x.1 y.1] = r by rw [hr]; rfl)
  rw [← hr]
  clear hr
  obtain ⟨x1, x2⟩ := x
  obtain ⟨y1, y2⟩ := y
  simp only at R ⊢
  obtain ⟨x3, hx3⟩ : ∃ z, z = x2 + ln := ⟨_, rfl⟩
  obtain ⟨y3, hy3⟩ : ∃ z, z = y2 + ln := ⟨_, rfl⟩
  rw [← hx3, ← hy3]
  clear hx3 hy3
  go_enter Tryz.func151, Tryz.ntmps151
  go_wp2_with fail
  obtain ⟨w0, hw0⟩ : ∃ w0, w0 = (w.alloc (.cells #[.int .i64 x1, .int .i64 x2, .int .i64 x3] 54)).alloc (.cells #[.int .i64 y1, .int .i64 y2, .int .i64 y3] 54) := ⟨_, rfl⟩
  rw [← hw0]
  have c0 : w0.cell? ⟨w.heap.size, 0, none⟩ = some (.int .i64 x1) := by rw [hw0]; simp
  have c1 : w0.cell? ⟨w.heap.size, 1, none⟩ = some (.int .i64 x2) := by rw [hw0]; simp
  have d0 : w0.cell? ⟨w.heap.size + 1, 0, none⟩ = some (.int .i64 y1) := by rw [hw0]; simp
  have d1 : w0.cell? ⟨w.heap.size + 1, 1, none⟩ = some (.int .i64 y2) := by rw [hw0]; simp
  have W0 := Lib.hid hw0
  clear hw0
  go_region_held3 (fun w' => w'.cell? ⟨w.heap.size, 0, none⟩ = some (.int .i64 x1) ∧ w'.cell? ⟨w.heap.size, 1, none⟩ = some (.int .i64 x2) ∧ w'.cell? ⟨w.heap.size + 1, 0, none⟩ = some (.int .i64 y1) ∧ w'.cell? ⟨w.heap.size + 1, 1, none⟩ = some (.int .i64 y2))
    (go_keep)
    (first
      | (go_at_call 101; refine (cmpq_any _ _ _).mono ?_; rintro e w' ⟨rfl, rfl⟩)
      | (go_at_call 100; refine (orq_any _ [cmpQ x2 y2, cmpQ x1 y1] _ ⟨_, 2, rfl, by simp, by simp, by decide, fun _ => ⟨_, 0, rfl, fun j u hj => by match j, hj with | 0, hj => (simp at hj; subst hj; simp) | 1, hj => (simp at hj; subst hj; simp)⟩⟩).mono ?_; rintro e w' ⟨rfl, rfl⟩))
  all_goals
    go_wp2
    go_ret
    exact ⟨by rw [← R.out]; rfl, by rw [W0.out]; first | exact grow_end3T w _ _ _ | exact ⟨1, #[_, _, _], by rw [alloc_eq_grow, alloc_eq_grow, alloc_eq_grow, grow_grow, drew_grow]; rfl⟩⟩

theorem timeC_lt (x y : Int × Int) : timeC x y < 0 ↔ Lt2 x y := by
  unfold timeC orQ cmpQ Lt2
  by_cases h1 : x.2 < y.2
  · simp [h1]
  · by_cases h2 : y.2 < x.2
    · simp [h1, h2]; omega
    · by_cases h3 : x.1 < y.1
      · simp [h1, h2, h3]; omega
      · by_cases h4 : y.1 < x.1
        · simp [h1, h2, h3, h4]
        · simp [h1, h2, h3, h4]

theorem timeLt (x y : Int × Int) : ltOf timeC x y = true ↔ Lt2 x y := by
  rw [ltOf, decide_eq_true_eq, timeC_lt]

theorem timeLt_no (x y : Int × Int) : ltOf timeC x y = false ↔ ¬ Lt2 x y := by
  rw [ltOf, decide_eq_false_iff_not, timeC_lt]

theorem timeSWO : SWO (ltOf timeC) where
  irrefl x := by rw [timeLt_no]; exact lt2_irr x
  trans x y z h1 h2 := by rw [timeLt] at *; exact lt2_trans h1 h2
  ntrans x y z h1 h2 := by rw [timeLt_no] at *; unfold Lt2 at *; omega

theorem timeTot (x y : Int × Int) (h1 : ltOf timeC x y = false) (h2 : ltOf timeC y x = false) : x = y := by
  rw [timeLt_no] at h1 h2
  unfold Lt2 at h1 h2
  exact Prod.ext (by omega) (by omega)

theorem srtT_eq (L : List (Int × Int)) : (L.mergeSort fun x y => !(ltOf timeC) y x) = srtT L := by
  have : (fun x y => !(ltOf timeC) y x) = leT := by
    funext x y
    rw [Bool.eq_iff_iff, leT_iff, Bool.not_eq_true', timeLt_no]
  rw [this]; rfl

def OwnT (ln : Int) (B : Nat) (w : World) (v : Value) (L : List (Int × Int)) : Prop := w.ownsRow B 54 3 v L.length (L.flatMap (encT ln))

theorem sortT_any {base : Nat} (ln : Int) (v : Value) (L : List (Int × Int)) (w : World) (hown : OwnT ln base w v L) (hlen : L.length < 4611686018427387904) :
    Calls Tryz.prog 150 #[v, .func (.func 151) #[] #[]] w fun e w' => e = .returned (.tuple #[]) ∧ OwnT ln base w' v (srtT L) ∧ w.grownBy w' v.ownBlock := by
  have hk : ∀ x : Int × Int, (encT ln x).length = 3 := fun _ => rfl
  have hown0 := hown
  rcases hown.2 with ⟨rfl, h0⟩ | ⟨g, cap, cur, rfl, hb, hg, hn, hc, hs, ht⟩
  · obtain rfl : L = [] := List.length_eq_zero_iff.1 h0
    refine (show Calls Tryz.prog 150 _ _ _ from AnyF.slices_SortFunc_none Tryz.sortTime none 0 _ w).mono fun e w' ⟨h1, h2⟩ => ?_
    subst h2
    exact ⟨h1, by rw [show srtT [] = [] by simp [srtT]]; exact hown0, World.grownBy.refl _ _⟩
  · have hgl : g < w.heap.size := (Array.getElem?_eq_some_iff.1 hg).1
    have hH : HoldsK (encT ln) 3 w g 0 L.toArray := holdsK_own hk L hg ht
    have eg : ∀ args w, (callFunc 151 args).run Tryz.prog w = .ok (.enter 151 args) w := enters_of Tryz.func151 (by kernel_rfl) rfl
    have hcmp : CmpLays Tryz.prog 151 #[] (encT ln) 3 timeC g 0 L.toArray.size w := fun _ _ _ _ x y => timeC_any ln x y _
    have h := AnyQ.slices_SortFunc_total Tryz.sortTime 3 Tryz.isAgg54 Tryz.sizeOf54 (encT ln) hk (fun x u hu => by simp [encT] at hu; rcases hu with rfl | rfl | rfl <;> rfl) timeC timeSWO 151 #[] g 0 cap L.toArray w eg hcmp hH hgl (by simpa using hlen) timeTot
    change Calls Tryz.prog 150 _ _ _ at h
    refine h.mono ?_
    rintro e w' ⟨rfl, n, os, rfl⟩
    refine ⟨rfl, ?_, grownBy_putId _⟩
    have := ownsRow_sortedK (e := 54) (os := os) (n := n) hk (srtT L) (srtT_len L) hb hg hn hc hs
    unfold OwnT
    rw [srtT_len]
    simpa [srtT_eq] using this

end Go.Proofs.YtgelojhpanbnaaaGreatDoor

namespace Go.Proofs.YtgelojhpanbnaaaGreatDoor
open Go.RowKit Go.Shelf
set_option linter.unusedSimpArgs false
set_option linter.unusedVariables false

def oneV (ln : Int) : Option (Int × Int) → Value
  | none => .tuple #[.agg #[.int .i64 0, .int .i64 0, .int .i64 0], .bool false]
  | some x => .tuple #[.agg #[.int .i64 x.1, .int .i64 x.2, .int .i64 (x.2 + ln)], .bool true]

theorem valid_q (n : Int) (q : Bool) (w : World) (h : q = timeB n) : Calls Tryz.prog 58 #[.int .i64 n] w fun e w' => e = .returned (.bool q) ∧ w = w' := by
  rw [h]; exact valid_any n w

theorem one_there {w : World} {b : Nat} {a1 a2 a3 : Value} {t : TypeId} (h : w.heap[b]? = some (.cells #[a1, a2, a3] t (0, 0))) : w.there b 0 3 := by
  intro j hj
  have : j = 0 ∨ j = 1 ∨ j = 2 := by omega
  rcases this with rfl | rfl | rfl <;> simp [World.cell?, World.frozen?, h]

theorem one_cells {w : World} {b0 : Nat} {a1 a2 a3 a b c : Value} {t : TypeId} (h : w.heap[b0]? = some (.cells #[a1, a2, a3] t (0, 0))) :
    (w.setCells b0 0 [a, b, c]).cell? ⟨b0, 0, none⟩ = some a ∧ (w.setCells b0 0 [a, b, c]).cell? ⟨b0, 1, none⟩ = some b ∧ (w.setCells b0 0 [a, b, c]).cell? ⟨b0, 2, none⟩ = some c := by
  refine ⟨?_, ?_, ?_⟩ <;> simp [World.setCells, World.setCell, World.cell?, h, Array.getElem?_modify]

theorem one_below {B : Nat} {w0 w : World} {b0 : Nat} {a b c : Value} (h : Below B w0 w) (hb : B ≤ b0) : Below B w0 (w.setCells b0 0 [a, b, c]) :=
  ((h.setCell hb a).setCell hb b).setCell hb c

theorem results_one {tmps : Array Value} {W : World} {p : Nat} {b : Bool} {v1 v2 v3 : Value} (h6 : tmps[6]?.getD undef = .pointer (some ⟨p, 0, none⟩)) (h7 : tmps[7]?.getD undef = .bool b)
    (c0 : W.cell? ⟨p, 0, none⟩ = some v1) (c1 : W.cell? ⟨p, 1, none⟩ = some v2) (c2 : W.cell? ⟨p, 2, none⟩ = some v3) : (results Tryz.f149 tmps).run Tryz.prog W = .ok (.tuple #[.agg #[v1, v2, v3], .bool b]) W := by
  simp only [results, show Tryz.f149.results = #[.cell 6 54, .tmp 7] from rfl]
  simp [Sem.run_bind, Result.andThen, h6, h7, asAddr, loadVar, isAgg, underlying, Tryz.isAgg54, c0, c1, c2, loadCells, loadCellsFrom, load, Addr.add, Sem.run, go_sem]

set_option maxRecDepth 100000 in
set_option maxHeartbeats 8000000 in
theorem one_t (snm stx : ByteArray) (st ln : Int) (rp : Bool) (fr ev ct ti : Int) (vm vd vw vp vM vN vC vA : Value) (mo da : List Int) (we : List (Int × Int)) (pk M N : List Int) (C : List (Int × Int)) (A : List Alm) (ah : Int) (vZ : Value) (Z : List (Int × Int)) (t : Int) (w : World)
    (hR : EvR w vm vd vw vp vM vN vC vA mo da we pk M N C A) (hF : EvFacts st ln rp fr ev ct ti mo da we pk M N C A) (hZ : PairsR w vZ Z) (hz : zfault ah Z = 0) (ht : 0 ≤ (reallyC C t).1 ∧ (reallyC C t).1 < 157785120) :
    Calls Tryz.prog 149 #[.agg #[.int .i64 ah, vZ], .agg #[.string snm, .string stx, .int .i64 st, .int .i64 ln, .bool rp, .int .i64 fr, .int .i64 ev, .int .i64 ct, .int .i64 ti, vm, vd, vw, vp, vM, vN, vC, vA], .int .i64 t] w
      fun e w' => e = .returned (oneV ln (oneT ah Z C ln t)) ∧ Below w.heap.size w w' := by
  obtain ⟨h1, h2, h3, h4, hM, hN, hC, hA⟩ := hR
  obtain ⟨am, km, rfl, -, -, -⟩ := intsR_open h1
  obtain ⟨ad, kd, rfl, -, -, -⟩ := intsR_open h2
  obtain ⟨aw, kw, rfl, -, -, -⟩ := pairsR_open h3
  obtain ⟨ap, kp, rfl, -, -, -⟩ := intsR_open h4
  obtain ⟨aM, kM, rfl, -, -, -⟩ := intsR_open hM
  obtain ⟨aN, kN, rfl, -, -, -⟩ := intsR_open hN
  obtain ⟨aC, kC, rfl, -, kC2, hds⟩ := pairsR_open hC
  obtain ⟨aA, kA, rfl, -, -, -⟩ := almsR_open hA
  unfold maxLen at kC2
  obtain ⟨aZ, kZ, rfl, -, -, -⟩ := pairsR_open hZ
  obtain ⟨eb, heb⟩ : ∃ x, x = w.heap.size := ⟨_, rfl⟩
  obtain ⟨wz, hwz⟩ : ∃ x, x = w.alloc (.cells #[.int .i64 ah, .slice aZ Z.length kZ] 33) := ⟨_, rfl⟩
  have hbz : Below w.heap.size w wz := by rw [hwz]; exact (Below.refl _ _).alloc (Nat.le_refl _) _
  have hsz : wz.heap.size = eb + 1 := by rw [hwz, heb]; simp
  have z0 : wz.cell? ⟨eb, 0, none⟩ = some (.int .i64 ah) := by rw [hwz, heb]; simp
  have z1 : wz.cell? ⟨eb, 1, none⟩ = some (.slice aZ Z.length kZ) := by rw [hwz, heb]; simp
  obtain ⟨w0, hw0⟩ : ∃ x, x = wz.alloc (.cells #[.string snm, .string stx, .int .i64 st, .int .i64 ln, .bool rp, .int .i64 fr, .int .i64 ev, .int .i64 ct, .int .i64 ti, .slice am mo.length km, .slice ad da.length kd, .slice aw we.length kw, .slice ap pk.length kp, .slice aM M.length kM, .slice aN N.length kN, .slice aC C.length kC, .slice aA A.length kA] 29) := ⟨_, rfl⟩
  have hb0 : Below wz.heap.size wz w0 := by rw [hw0]; exact (Below.refl _ _).alloc (Nat.le_refl _) _
  have hs0 : w0.heap.size = eb + 1 + 1 := by rw [hw0]; simp [hsz]
  have ec := hw0 ▸ evC_new wz 29 snm stx st ln rp fr ev ct ti (.slice am mo.length km) (.slice ad da.length kd) (.slice aw we.length kw) (.slice ap pk.length kp) (.slice aM M.length kM) (.slice aN N.length kN) (.slice aC C.length kC) (.slice aA A.length kA)
  rw [hsz] at ec
  obtain ⟨w1, hw1⟩ : ∃ x, x = w0.alloc (.cells #[.int .i64 0, .int .i64 0, .int .i64 0] 54) := ⟨_, rfl⟩
  have hb1 : Below w0.heap.size w0 w1 := by rw [hw1]; exact (Below.refl _ _).alloc (Nat.le_refl _) _
  have hs1 : w1.heap.size = eb + 1 + 1 + 1 := by rw [hw1]; simp [hs0]
  have hh1 : w1.heap[eb + 1 + 1]? = some (.cells #[.int .i64 0, .int .i64 0, .int .i64 0] 54 (0, 0)) := by rw [hw1, ← hs0]; exact heap_alloc_new _ _
  have z0 := cell_below hb1 (cell_below hb0 z0); have z1 := cell_below hb1 (cell_below hb0 z1)
  have hbw : Below w.heap.size w w1 := (hbz.trans (hb0.mono hbz.size)).trans (hb1.mono (Nat.le_trans hbz.size hb0.size))
  obtain ⟨rt, hrt⟩ : ∃ r, r = reallyC C t := ⟨_, rfl⟩
  obtain ⟨OT, hOT⟩ : ∃ o, o = oneT ah Z C ln t := ⟨_, rfl⟩
  rw [← hOT]
  have RA := Lib.hid (show Calls Tryz.prog 81 #[.agg #[.string snm, .string stx, .int .i64 st, .int .i64 ln, .bool rp, .int .i64 fr, .int .i64 ev, .int .i64 ct, .int .i64 ti, .slice am mo.length km, .slice ad da.length kd, .slice aw we.length kw, .slice ap pk.length kp, .slice aM M.length kM, .slice aN N.length kN, .slice aC C.length kC, .slice aA A.length kA], .int .i64 t] w1 (fun e w' => e = .returned (.tuple #[.int .i64 rt.1, .bool rt.2]) ∧ Below w1.heap.size w1 w') by
    rw [hrt]
    exact really_any snm stx st ln rp fr ev ct ti _ _ _ _ _ _ _ _ mo da we pk M N C A t w1 ⟨h1.below hbw, h2.below hbw, h3.below hbw, h4.below hbw, hM.below hbw, hN.below hbw, hC.below hbw, hA.below hbw⟩ hF.upC hF.lenC)
  have ZA := Lib.hid (show ∀ wx, Below w1.heap.size w1 wx → Calls Tryz.prog 197 #[.agg #[.int .i64 ah, .slice aZ Z.length kZ], .int .i64 rt.1] wx (fun e w' => ∃ u, e = .returned u ∧ IntsR w' u (zoneAll ah Z rt.1) ∧ Below wx.heap.size wx w') from fun wx hbx => by
    rw [← hrt] at ht
    refine (zall_any _ Z ah rt.1 wx (hZ.below (hbw.trans (hbx.mono hbw.size))) hz ht.1 ht.2).mono ?_
    rintro e w' ⟨u, e1, e2, e3⟩
    exact ⟨u, e1, ownsRow_reads e2, e3⟩)
  have LN := Lib.hid hF.ln
  have EC := Lib.hid (ec.below hb1); have BW := Lib.hid hbw; have WZ := Lib.hid hwz; have W0 := Lib.hid hw0; have W1 := Lib.hid hw1; have EB := Lib.hid heb
  have H1 := Lib.hid hh1; have S1 := Lib.hid hs1; have Z0 := Lib.hid z0; have Z1 := Lib.hid z1
  have OE := Lib.hid (show OT = if rt.2 = true then none else match zoneAll ah Z rt.1 with
    | [] => none
    | x :: _ => if timeB (x + ln) = true then some (t, x) else none by rw [hOT, hrt]; rfl)
  have ZM := Lib.hid (show ∀ x ∈ zoneAll ah Z rt.1, 1 ≤ x ∧ x < 157785120 from fun x hx => timeB_yes (zoneAll_mem.1 hx).1)
  obtain ⟨r1, r2⟩ := rt
  simp only at RA ZA OE ZM
  clear h1 h2 h3 h4 hM hN hC hA hF hZ hz ht hwz hbz hsz z0 z1 hw0 hb0 hs0 ec hw1 hb1 hs1 hh1 hbw hrt hOT heb hds
  go_enter Tryz.func149, Tryz.ntmps149
  go_upto_region 1 with fail
  rw [← WZ.out, ← W0.out, ← W1.out]
  rw [← EB.out]
  have k0 := EC.out.k0; have k1 := EC.out.k1; have k2 := EC.out.k2; have k3 := EC.out.k3; have k4 := EC.out.k4; have k5 := EC.out.k5; have k6 := EC.out.k6; have k7 := EC.out.k7; have k8 := EC.out.k8; have k9 := EC.out.k9; have k10 := EC.out.k10; have k11 := EC.out.k11; have k12 := EC.out.k12; have k13 := EC.out.k13; have k14 := EC.out.k14; have k15 := EC.out.k15; have k16 := EC.out.k16
  go_cut [8, 9] (fun s8 s9 wx => s8 = .int .i64 r1 ∧ s9 = .bool r2 ∧ Below w1.heap.size w1 wx)
  case first =>
    go_wp2_with fail
    refine RA.out.mono ?_; rintro e w2 ⟨rfl, hb⟩
    have HB := Lib.hid hb
    clear hb k0 k1 k2 k3 k4 k5 k6 k7 k8 k9 k10 k11 k12 k13 k14 k15 k16
    go_wp2
    go_meet
    exact ⟨rfl, rfl, HB.out⟩
  case rest =>
  clear k0 k1 k2 k3 k4 k5 k6 k7 k8 k9 k10 k11 k12 k13 k14 k15 k16
  obtain ⟨rfl, rfl, hb2⟩ := hcut
  obtain ⟨w2, rfl⟩ : ∃ x, x = wc := ⟨_, rfl⟩
  have B2 := Lib.hid hb2
  have z0 := cell_below hb2 Z0.out
  have z1 := cell_below hb2 Z1.out
  clear hb2
  obtain ⟨K, hK⟩ : ∃ K, K = zoneAll ah Z r1 := ⟨_, rfl⟩
  rw [← hK] at OE ZM ZA
  go_upto_region 2 with fail
  go_cut [10] (fun s10 wx => IntsR wx s10 K ∧ Below w2.heap.size w2 wx)
  case first =>
    go_wp2_with fail
    refine (ZA.out _ B2.out).mono ?_; rintro e w3 ⟨u, rfl, hu, hb⟩
    have HU := Lib.hid hu; have HB := Lib.hid hb
    clear hu hb z0 z1
    go_wp2
    go_meet
    exact ⟨HU.out, HB.out⟩
  case rest =>
  obtain ⟨hu, hb3⟩ := hcut
  obtain ⟨w3, rfl⟩ : ∃ x, x = wc := ⟨_, rfl⟩
  have B3 := Lib.hid (B2.out.trans (hb3.mono B2.out.size))
  obtain ⟨ak, ck, rfl, -, ck2, hcs⟩ := intsR_open hu
  unfold maxLen at ck2
  obtain ⟨n, hn⟩ : ∃ n, n = K.length := ⟨_, rfl⟩
  rw [← hn]
  have NE := Lib.hid hn
  have E3 := Lib.hid (EC.out.below B3.out)
  clear hb3 hu z0 z1 hK hn
  have k3 := E3.out.k3
  obtain ⟨l1, l2⟩ := LN.out
  go_upto_region 3 with fail
  go_cut [35] (fun s35 wx => ∃ q : Bool, s35 = .bool q ∧ Hid ((q = true ∧ OT = none) ∨ (q = false ∧ ∃ x r, K = x :: r ∧ OT = some (t, x))) ∧ Below w3.heap.size w3 wx)
  case first => as_aux_lemma =>
    cases r2
    · cases K with
      | nil =>
        have d1 : ((n : Int) == 0) = true := by rw [NE.out]; rfl
        go_quiet (fail)
        go_wp2
        go_meet
        exact ⟨true, by first | rfl | simp, Lib.hid (.inl ⟨rfl, by rw [OE.out]; rfl⟩), below_drewN (Below.refl _ _) _⟩
      | cons x r =>
        obtain ⟨b4, o4, rfl, hc4⟩ := hcs (by simp)
        have g0 := hc4 0 (by simp)
        rw [Nat.add_zero] at g0
        obtain ⟨x1, x2⟩ := ZM.out x List.mem_cons_self
        have g0 : w3.cell? ⟨b4, o4, none⟩ = some (.int .i64 x) := g0
        have d1 : ((n : Int) == 0) = false := by rw [beq_eq_false_iff_ne, NE.out]; simp; omega
        have d2 : 0 < n := by rw [NE.out]; simp
        have d3 : (0 : Int) < (n : Int) := by omega
        obtain ⟨q, hq⟩ : ∃ q, q = timeB (x + ln) := ⟨_, rfl⟩
        have Q := Lib.hid hq
        clear hcs hc4 hq
        go_quiet ((go_at_call 58; exact quiet_l (valid_q _ q _ Q.out)))
        go_wp2
        go_meet
        cases q
        · exact ⟨true, by first | rfl | simp, Lib.hid (.inl ⟨rfl, by rw [OE.out]; simp [← Q.out]⟩), below_drewN (Below.refl _ _) _⟩
        · exact ⟨false, by first | rfl | simp, Lib.hid (.inr ⟨rfl, x, r, rfl, by rw [OE.out]; simp [← Q.out]⟩), below_drewN (Below.refl _ _) _⟩
    · go_quiet (fail)
      go_wp2
      go_meet
      exact ⟨true, by first | rfl | simp, Lib.hid (.inl ⟨rfl, by rw [OE.out]; rfl⟩), below_drewN (Below.refl _ _) _⟩
  case rest =>
  obtain ⟨q, rfl, QE, hb4⟩ := hcut
  obtain ⟨w4, rfl⟩ : ∃ x, x = wc := ⟨_, rfl⟩
  have B4 := Lib.hid (B3.out.trans (hb4.mono B3.out.size))
  have k3 := cell_below hb4 k3
  have hh := (B4.out.block (eb + 1 + 1) (by have := S1.out; omega)).trans H1.out
  have T4 := Lib.hid (one_there hh)
  have HH := Lib.hid hh
  have RS := Lib.hid (fun a b c => one_cells (a := a) (b := b) (c := c) hh)
  have SB := Lib.hid (fun a b c => one_below (a := a) (b := b) (c := c) (h := (BW.out.trans (B4.out.mono BW.out.size))) (hb := show w.heap.size ≤ eb + 1 + 1 by rw [EB.out]; omega))
  rcases QE.out with ⟨rfl, hO⟩ | ⟨rfl, x, r, rfl, hO⟩
  · clear hb4 k3 hh
    go_wp2_with (refine wpList_store_mid rfl 54 _ _ rfl (eb + 1 + 1) 0 #[.int .i64 0, .int .i64 0, .int .i64 0] rfl rfl T4.out (by kernel_rfl) (by simp [Value.oneCell']) ?_)
    refine bodyPost_ret (results_one rfl rfl (RS.out _ _ _).1 (RS.out _ _ _).2.1 (RS.out _ _ _).2.2) rfl ?_
    exact ⟨by (try rw [hO]); rfl, SB.out _ _ _⟩
  · obtain ⟨b4, o4, rfl, hc4⟩ := hcs (by simp)
    have g0 := hc4 0 (by simp)
    rw [Nat.add_zero] at g0
    have g0 : w4.cell? ⟨b4, o4, none⟩ = some (.int .i64 x) := cell_below hb4 g0
    obtain ⟨x1, x2⟩ := ZM.out x List.mem_cons_self
    have d2 : 0 < n := by rw [NE.out]; simp
    have d3 : (0 : Int) < (n : Int) := by omega
    have WR := Lib.hid (show IntKind.i64.wrap (x + ln) = x + ln from IntWalk.i64_in _ (by omega))
    clear hb4 hh hc4 hcs
    go_upto_region 5 with fail
    go_still_tail 11, (by kernel_rfl)
    change wpList _ _ _ _ _ w4.drew
    obtain ⟨w5, hw5⟩ : ∃ z, z = w4.drew := ⟨_, rfl⟩
    have T5 := Lib.hid (show w5.there (eb + 1 + 1) 0 3 by rw [hw5]; exact T4.out)
    have RS5 := Lib.hid (show ∀ a b c, (w5.setCells (eb + 1 + 1) 0 [a, b, c]).cell? ⟨eb + 1 + 1, 0, none⟩ = some a ∧ (w5.setCells (eb + 1 + 1) 0 [a, b, c]).cell? ⟨eb + 1 + 1, 1, none⟩ = some b ∧ (w5.setCells (eb + 1 + 1) 0 [a, b, c]).cell? ⟨eb + 1 + 1, 2, none⟩ = some c from fun a b c => by rw [hw5]; exact one_cells (w := w4.drew) HH.out)
    have SB5 := Lib.hid (show ∀ a b c, Below w.heap.size w (w5.setCells (eb + 1 + 1) 0 [a, b, c]) from fun a b c => by rw [hw5]; exact one_below (BW.out.trans (B4.out.mono BW.out.size)).drew (by rw [EB.out]; omega))
    rw [← hw5]
    clear hw5 g0
    refine wpList_store_mid rfl 54 _ _ rfl (eb + 1 + 1) 0 #[.int .i64 t, .int .i64 x, .int .i64 (x + ln)] ?a1 ?a2 T5.out (by kernel_rfl) (by simp [Value.oneCell']) ?_
    case a1 => first | rfl | simp [Act.eval, Act.put]
    case a2 => simp [Act.eval, Act.put, WR.out]
    go_wp2
    refine bodyPost_ret (results_one rfl rfl (RS5.out _ _ _).1 (RS5.out _ _ _).2.1 (RS5.out _ _ _).2.2) rfl ?_
    exact ⟨by (try rw [hO]); rfl, SB5.out _ _ _⟩

end Go.Proofs.YtgelojhpanbnaaaGreatDoor
