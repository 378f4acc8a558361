/- Texts joined into one (a claim has at most 60 files): times.Order, the sort of times, times.one: their contracts. -/
import Derived.Test.YtkpmddlinlcobaaGreatDoorTimD
import Derived.Test.YtkpmddlinlcobaaGreatDoorQ08
import Derived.Test.YtkpmddlinlcobaaGreatDoorShTimes
import Derived.Test.YtkpmddlinlcobaaGreatDoorQ09
import Derived.Deep.RegionHeld3
namespace Go.Proofs.YtkpmddlinlcobaaGreatDoor
open Go.RowKit Go.Shelf Go.Sort
set_option linter.unusedSimpArgs false
set_option linter.unusedVariables false
attribute [local go_sem] Oper.semAt_some

/-- a time as cells: which, from when, to when. -/
def encT (ln : Int) (x : Int × Int) : List Value := [.int .i64 x.1, .int .i64 x.2, .int .i64 (x.2 + ln)]

/-- how one time stands to another. -/
def timeC (x y : Int × Int) : Int := orQ [cmpQ x.2 y.2, cmpQ x.1 y.1]

theorem grow_end3T (w : World) (a b c : Obj) : ∃ q os, ((((w.alloc a).alloc b).alloc c).drew) = grow (w.drewN q) os :=
  ⟨1, #[a, b, c], by rw [alloc_eq_grow, alloc_eq_grow, alloc_eq_grow, grow_grow, grow_grow]; rfl⟩

set_option maxHeartbeats 2000000 in
theorem timeC_any (ln : Int) (x y : Int × Int) (w : World) :
    Calls Tryz.prog 137 #[.agg #[.int .i64 x.1, .int .i64 x.2, .int .i64 (x.2 + ln)], .agg #[.int .i64 y.1, .int .i64 y.2, .int .i64 (y.2 + ln)]] w fun e w' => e = .returned (.int .i64 (timeC x y)) ∧ ∃ q os, w' = grow (w.drewN q) os := by
  obtain ⟨r, hr⟩ : ∃ r, r = timeC x y := ⟨_, rfl⟩
  have R := Lib.hid (show orQ [cmpQ x.2 y.2, cmpQ x.1 y.1] = r by rw [hr]; rfl)
  rw [← hr]
  clear hr
  obtain ⟨x1, x2⟩ := x
  obtain ⟨y1, y2⟩ := y
  simp only at R ⊢
  obtain ⟨x3, hx3⟩ : ∃ z, z = x2 + ln := ⟨_, rfl⟩
  obtain ⟨y3, hy3⟩ : ∃ z, z = y2 + ln := ⟨_, rfl⟩
  rw [← hx3, ← hy3]
  clear hx3 hy3
  go_enter Tryz.func137, Tryz.ntmps137
  go_wp2_with fail
  obtain ⟨w0, hw0⟩ : ∃ w0, w0 = (w.alloc (.cells #[.int .i64 x1, .int .i64 x2, .int .i64 x3] 51)).alloc (.cells #[.int .i64 y1, .int .i64 y2, .int .i64 y3] 51) := ⟨_, rfl⟩
  rw [← hw0]
  have c0 : w0.cell? ⟨w.heap.size, 0, none⟩ = some (.int .i64 x1) := by rw [hw0]; simp
  have c1 : w0.cell? ⟨w.heap.size, 1, none⟩ = some (.int .i64 x2) := by rw [hw0]; simp
  have d0 : w0.cell? ⟨w.heap.size + 1, 0, none⟩ = some (.int .i64 y1) := by rw [hw0]; simp
  have d1 : w0.cell? ⟨w.heap.size + 1, 1, none⟩ = some (.int .i64 y2) := by rw [hw0]; simp
  have W0 := Lib.hid hw0
  clear hw0
  go_region_held3 (fun w' => w'.cell? ⟨w.heap.size, 0, none⟩ = some (.int .i64 x1) ∧ w'.cell? ⟨w.heap.size, 1, none⟩ = some (.int .i64 x2) ∧ w'.cell? ⟨w.heap.size + 1, 0, none⟩ = some (.int .i64 y1) ∧ w'.cell? ⟨w.heap.size + 1, 1, none⟩ = some (.int .i64 y2))
    (go_keep)
    (first
      | (go_at_call 88; refine (cmpq_any _ _ _).mono ?_; rintro e w' ⟨rfl, rfl⟩)
      | (go_at_call 87; refine (orq_any _ [cmpQ x2 y2, cmpQ x1 y1] _ ⟨_, 2, rfl, by simp, by simp, by decide, fun _ => ⟨_, 0, rfl, fun j u hj => by match j, hj with | 0, hj => (simp at hj; subst hj; simp) | 1, hj => (simp at hj; subst hj; simp)⟩⟩).mono ?_; rintro e w' ⟨rfl, rfl⟩))
  all_goals
    go_wp2
    go_ret
    exact ⟨by rw [← R.out]; rfl, by rw [W0.out]; first | exact grow_end3T w _ _ _ | exact ⟨1, #[_, _, _], by rw [alloc_eq_grow, alloc_eq_grow, alloc_eq_grow, grow_grow, drew_grow]; rfl⟩⟩

theorem timeC_lt (x y : Int × Int) : timeC x y < 0 ↔ Lt2 x y := by
  unfold timeC orQ cmpQ Lt2
  by_cases h1 : x.2 < y.2
  · simp [h1]
  · by_cases h2 : y.2 < x.2
    · simp [h1, h2]; omega
    · by_cases h3 : x.1 < y.1
      · simp [h1, h2, h3]; omega
      · by_cases h4 : y.1 < x.1
        · simp [h1, h2, h3, h4]
        · simp [h1, h2, h3, h4]

theorem timeLt (x y : Int × Int) : ltOf timeC x y = true ↔ Lt2 x y := by
  rw [ltOf, decide_eq_true_eq, timeC_lt]

theorem timeLt_no (x y : Int × Int) : ltOf timeC x y = false ↔ ¬ Lt2 x y := by
  rw [ltOf, decide_eq_false_iff_not, timeC_lt]

theorem timeSWO : SWO (ltOf timeC) where
  irrefl x := by rw [timeLt_no]; exact lt2_irr x
  trans x y z h1 h2 := by rw [timeLt] at *; exact lt2_trans h1 h2
  ntrans x y z h1 h2 := by rw [timeLt_no] at *; unfold Lt2 at *; omega

theorem timeTot (x y : Int × Int) (h1 : ltOf timeC x y = false) (h2 : ltOf timeC y x = false) : x = y := by
  rw [timeLt_no] at h1 h2
  unfold Lt2 at h1 h2
  exact Prod.ext (by omega) (by omega)

theorem srtT_eq (L : List (Int × Int)) : (L.mergeSort fun x y => !(ltOf timeC) y x) = srtT L := by
  have : (fun x y => !(ltOf timeC) y x) = leT := by
    funext x y
    rw [Bool.eq_iff_iff, leT_iff, Bool.not_eq_true', timeLt_no]
  rw [this]; rfl

/-- times of one's own. -/
def OwnT (ln : Int) (B : Nat) (w : World) (v : Value) (L : List (Int × Int)) : Prop := w.ownsRow B 51 3 v L.length (L.flatMap (encT ln))

theorem sortT_any {base : Nat} (ln : Int) (v : Value) (L : List (Int × Int)) (w : World) (hown : OwnT ln base w v L) (hlen : L.length < 4611686018427387904) :
    Calls Tryz.prog 136 #[v, .func (.func 137) #[] #[]] w fun e w' => e = .returned (.tuple #[]) ∧ OwnT ln base w' v (srtT L) ∧ w.grownBy w' v.ownBlock := by
  have hk : ∀ x : Int × Int, (encT ln x).length = 3 := fun _ => rfl
  have hown0 := hown
  rcases hown.2 with ⟨rfl, h0⟩ | ⟨g, cap, cur, rfl, hb, hg, hn, hc, hs, ht⟩
  · obtain rfl : L = [] := List.length_eq_zero_iff.1 h0
    refine (show Calls Tryz.prog 136 _ _ _ from AnyF.slices_SortFunc_none Tryz.sortTime none 0 _ w).mono fun e w' ⟨h1, h2⟩ => ?_
    subst h2
    exact ⟨h1, by rw [show srtT [] = [] by simp [srtT]]; exact hown0, World.grownBy.refl _ _⟩
  · have hgl : g < w.heap.size := (Array.getElem?_eq_some_iff.1 hg).1
    have hH : HoldsK (encT ln) 3 w g 0 L.toArray := holdsK_own hk L hg ht
    have eg : ∀ args w, (callFunc 137 args).run Tryz.prog w = .ok (.enter 137 args) w := enters_of Tryz.func137 (by kernel_rfl) rfl
    have hcmp : CmpLays Tryz.prog 137 #[] (encT ln) 3 timeC g 0 L.toArray.size w := fun _ _ _ _ x y => timeC_any ln x y _
    have h := AnyQ.slices_SortFunc_total Tryz.sortTime 3 Tryz.isAgg51 Tryz.sizeOf51 (encT ln) hk (fun x u hu => by simp [encT] at hu; rcases hu with rfl | rfl | rfl <;> rfl) timeC timeSWO 137 #[] g 0 cap L.toArray w eg hcmp hH hgl (by simpa using hlen) timeTot
    change Calls Tryz.prog 136 _ _ _ at h
    refine h.mono ?_
    rintro e w' ⟨rfl, n, os, rfl⟩
    refine ⟨rfl, ?_, grownBy_putId _⟩
    have := ownsRow_sortedK (e := 51) (os := os) (n := n) hk (srtT L) (srtT_len L) hb hg hn hc hs
    unfold OwnT
    rw [srtT_len]
    simpa [srtT_eq] using this

end Go.Proofs.YtkpmddlinlcobaaGreatDoor
