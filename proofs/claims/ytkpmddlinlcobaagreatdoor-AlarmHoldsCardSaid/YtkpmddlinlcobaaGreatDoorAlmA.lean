/- alarm.Order, and the sort of rings of one event: their contracts. No condition but those stated. -/
import Derived.Test.YtkpmddlinlcobaaGreatDoorRngM
import Derived.Test.YtkpmddlinlcobaaGreatDoorQ16
import Derived.Test.YtkpmddlinlcobaaGreatDoorShAlm
import Derived.StillTailTactics
namespace Go.Proofs.YtkpmddlinlcobaaGreatDoor
open Go.RowKit Go.Shelf Go.Sort
set_option linter.unusedSimpArgs false
set_option linter.unusedVariables false

theorem compare_self : ∀ l : List UInt8, Lib.compareBytes l l = 0
  | [] => rfl
  | a :: r => by rw [Lib.compareBytes, if_neg (by simp), if_neg (by simp)]; exact compare_self r

/-- how one text stands to another. -/
def strQ (a b : ByteArray) : Int := Lib.compareBytes a.data.toList b.data.toList

theorem strQ_self (a : ByteArray) : strQ a a = 0 := compare_self _

theorem strq_any (a b : ByteArray) (w : World) : Calls Tryz.prog 89 #[.string a, .string b] w fun e w' => e = .returned (.int .i64 (strQ a b)) ∧ w' = w := Tryz.strings_Compare a b w

theorem cmpq_st (a b : Int) (w : World) : Calls Tryz.prog 88 #[.int .i64 a, .int .i64 b] w fun e w' => e = .returned (.int .i64 (cmpQ a b)) ∧ w' = w := (cmpq_any a b w).mono fun e w' h => ⟨h.1, h.2.symm⟩

theorem ints_five {w : World} {b : Nat} {x1 x2 x3 x4 x5 : Int} (h0 : w.cell? ⟨b, 0, none⟩ = some (.int .i64 x1)) (h1 : w.cell? ⟨b, 1, none⟩ = some (.int .i64 x2)) (h2 : w.cell? ⟨b, 2, none⟩ = some (.int .i64 x3)) (h3 : w.cell? ⟨b, 3, none⟩ = some (.int .i64 x4)) (h4 : w.cell? ⟨b, 4, none⟩ = some (.int .i64 x5)) : IntsR w (.slice (some ⟨b, 0, none⟩) 5 5) [x1, x2, x3, x4, x5] :=
  ⟨_, 5, rfl, by simp, by simp, by decide, fun _ => ⟨b, 0, rfl, fun j u hj => by
    match j, hj with
    | 0, hj => (simp at hj; subst hj; simpa using h0)
    | 1, hj => (simp at hj; subst hj; simpa using h1)
    | 2, hj => (simp at hj; subst hj; simpa using h2)
    | 3, hj => (simp at hj; subst hj; simpa using h3)
    | 4, hj => (simp at hj; subst hj; simpa using h4)⟩⟩

set_option maxRecDepth 100000 in
set_option maxHeartbeats 8000000 in
theorem rorder_any (a1 : Int) (na : ByteArray) (a2 a3 a4 b1 : Int) (nb : ByteArray) (b2 b3 b4 : Int) (w : World) :
    Calls Tryz.prog 34 #[.agg #[.int .i64 a1, .string na, .int .i64 a2, .int .i64 a3, .int .i64 a4], .agg #[.int .i64 b1, .string nb, .int .i64 b2, .int .i64 b3, .int .i64 b4]] w
      fun e w' => e = .returned (.int .i64 (orQ [cmpQ a1 b1, strQ na nb, cmpQ a2 b2, cmpQ a3 b3, cmpQ a4 b4])) ∧ ∃ q os, w' = grow (w.drewN q) os := by
  go_enter Tryz.func34, Tryz.ntmps34
  go_wp2_with fail
  obtain ⟨w0, hw0⟩ : ∃ w0, w0 = (w.alloc (.cells #[.int .i64 a1, .string na, .int .i64 a2, .int .i64 a3, .int .i64 a4] 73)).alloc (.cells #[.int .i64 b1, .string nb, .int .i64 b2, .int .i64 b3, .int .i64 b4] 73) := ⟨_, rfl⟩
  rw [← hw0]
  obtain ⟨pb, hpb⟩ : ∃ p, p = w.heap.size := ⟨_, rfl⟩
  have c0 : w0.cell? ⟨pb, 0, none⟩ = some (.int .i64 a1) := by rw [hw0, hpb]; simp
  have c1 : w0.cell? ⟨pb, 1, none⟩ = some (.string na) := by rw [hw0, hpb]; simp
  have c2 : w0.cell? ⟨pb, 2, none⟩ = some (.int .i64 a2) := by rw [hw0, hpb]; simp
  have c3 : w0.cell? ⟨pb, 3, none⟩ = some (.int .i64 a3) := by rw [hw0, hpb]; simp
  have c4 : w0.cell? ⟨pb, 4, none⟩ = some (.int .i64 a4) := by rw [hw0, hpb]; simp
  have d0 : w0.cell? ⟨pb + 1, 0, none⟩ = some (.int .i64 b1) := by rw [hw0, hpb]; simp
  have d1 : w0.cell? ⟨pb + 1, 1, none⟩ = some (.string nb) := by rw [hw0, hpb]; simp
  have d2 : w0.cell? ⟨pb + 1, 2, none⟩ = some (.int .i64 b2) := by rw [hw0, hpb]; simp
  have d3 : w0.cell? ⟨pb + 1, 3, none⟩ = some (.int .i64 b3) := by rw [hw0, hpb]; simp
  have d4 : w0.cell? ⟨pb + 1, 4, none⟩ = some (.int .i64 b4) := by rw [hw0, hpb]; simp
  have W0 := Lib.hid hw0
  rw [← hpb]
  clear hw0 hpb
  refine wp_region_still_tail 25 (by kernel_rfl) (by kernel_rfl) ?_
  simp only [List.append_eq, List.cons_append, List.nil_append, List.take_succ_cons, List.take_zero, List.drop_succ_cons, List.drop_zero]
  repeat (first | still_step | still_call (cmpq_st _ _ _) | still_call (strq_any _ _ _))
  refine wpStill_nil ?_
  change wpList _ _ _ _ _ w0.drew
  go_wp2_with fail
  refine (orq_any _ [cmpQ a1 b1, strQ na nb, cmpQ a2 b2, cmpQ a3 b3, cmpQ a4 b4] _ (ints_five (by simp) (by simp) (by simp) (by simp) (by simp))).mono ?_; rintro e w' ⟨rfl, rfl⟩
  go_wp2
  go_ret
  exact ⟨rfl, 1, #[_, _, _], by rw [W0.out]; simp only [alloc_eq_grow, drew_grow, grow_grow]; rfl⟩

theorem orQ_cons (x : Int) (L : List Int) : orQ (x :: L) = if x = 0 then orQ L else x := by
  unfold orQ
  by_cases h : x = 0
  · rw [if_pos h, List.find?_cons_of_neg (by simp [h])]
  · rw [if_neg h, List.find?_cons_of_pos (by simpa using h)]; rfl

theorem orQ_nil : orQ [] = 0 := rfl

theorem cmpQ_way (a b : Int) : (cmpQ a b = -1 ∧ a < b) ∨ (cmpQ a b = 1 ∧ b < a) ∨ (cmpQ a b = 0 ∧ a = b) := by
  unfold cmpQ
  by_cases h1 : a < b
  · exact .inl ⟨if_pos h1, h1⟩
  · by_cases h2 : b < a
    · exact .inr (.inl ⟨by rw [if_neg h1, if_pos h2], h2⟩)
    · exact .inr (.inr ⟨by rw [if_neg h1, if_neg h2], by omega⟩)

/-- how one ring stands to another one of its event. -/
def ringC (x y : Rng) : Int := orQ [cmpQ x.1 y.1, 0, cmpQ x.2.1 y.2.1, cmpQ x.2.2.1 y.2.2.1, cmpQ x.2.2.2 y.2.2.2]

theorem ringC_lt (x y : Rng) : ringC x y < 0 ↔ Lt4 x y := by
  unfold ringC Lt4
  simp only [orQ_cons, orQ_nil, if_true]
  rcases cmpQ_way x.1 y.1 with ⟨e1, h1⟩ | ⟨e1, h1⟩ | ⟨e1, h1⟩
  · rw [e1, if_neg (by decide)]; omega
  · rw [e1, if_neg (by decide)]; omega
  rw [e1, if_pos rfl]
  rcases cmpQ_way x.2.1 y.2.1 with ⟨e2, h2⟩ | ⟨e2, h2⟩ | ⟨e2, h2⟩
  · rw [e2, if_neg (by decide)]; omega
  · rw [e2, if_neg (by decide)]; omega
  rw [e2, if_pos rfl]
  rcases cmpQ_way x.2.2.1 y.2.2.1 with ⟨e3, h3⟩ | ⟨e3, h3⟩ | ⟨e3, h3⟩
  · rw [e3, if_neg (by decide)]; omega
  · rw [e3, if_neg (by decide)]; omega
  rw [e3, if_pos rfl]
  rcases cmpQ_way x.2.2.2 y.2.2.2 with ⟨e4, h4⟩ | ⟨e4, h4⟩ | ⟨e4, h4⟩
  · rw [e4, if_neg (by decide)]; omega
  · rw [e4, if_neg (by decide)]; omega
  · rw [e4, if_pos rfl]; omega

theorem ringLt (x y : Rng) : ltOf ringC x y = true ↔ Lt4 x y := by
  rw [ltOf, decide_eq_true_eq, ringC_lt]

theorem ringLt_no (x y : Rng) : ltOf ringC x y = false ↔ ¬ Lt4 x y := by
  rw [ltOf, decide_eq_false_iff_not, ringC_lt]

theorem ringSWO : SWO (ltOf ringC) where
  irrefl x := by rw [ringLt_no]; exact lt4_irr x
  trans x y z h1 h2 := by rw [ringLt] at *; exact lt4_trans h1 h2
  ntrans x y z h1 h2 := by rw [ringLt_no] at *; unfold Lt4 at *; omega

theorem ringTot (x y : Rng) (h1 : ltOf ringC x y = false) (h2 : ltOf ringC y x = false) : x = y := by
  rw [ringLt_no] at h1 h2
  unfold Lt4 at h1 h2
  exact Prod.ext (by omega) (Prod.ext (by omega) (Prod.ext (by omega) (by omega)))

theorem srtR_eq (L : List Rng) : (L.mergeSort fun x y => !(ltOf ringC) y x) = srtR L := by
  have : (fun x y => !(ltOf ringC) y x) = leR := by
    funext x y
    rw [Bool.eq_iff_iff, leR_iff, Bool.not_eq_true', ringLt_no]
  rw [this]; rfl

/-- a ring as cells: when, of whom, of which time, of which alarm, which turn. -/
def encR (nm : ByteArray) (x : Rng) : List Value := [.int .i64 x.1, .string nm, .int .i64 x.2.1, .int .i64 x.2.2.1, .int .i64 x.2.2.2]

/-- rings of one's own. -/
def OwnR (nm : ByteArray) (B : Nat) (w : World) (v : Value) (L : List Rng) : Prop := w.ownsRow B 73 5 v L.length (L.flatMap (encR nm))

theorem ringC_any (nm : ByteArray) (x y : Rng) (w : World) :
    Calls Tryz.prog 34 #[.agg (encR nm x).toArray, .agg (encR nm y).toArray] w fun e w' => e = .returned (.int .i64 (ringC x y)) ∧ ∃ q os, w' = grow (w.drewN q) os := by
  have h := rorder_any x.1 nm x.2.1 x.2.2.1 x.2.2.2 y.1 nm y.2.1 y.2.2.1 y.2.2.2 w
  rw [strQ_self] at h
  exact h

theorem sortR_any {base : Nat} (nm : ByteArray) (v : Value) (L : List Rng) (w : World) (hown : OwnR nm base w v L) (hlen : L.length < 4611686018427387904) :
    Calls Tryz.prog 139 #[v, .func (.func 34) #[] #[]] w fun e w' => e = .returned (.tuple #[]) ∧ OwnR nm base w' v (srtR L) ∧ w.grownBy w' v.ownBlock := by
  have hk : ∀ x : Rng, (encR nm x).length = 5 := fun _ => rfl
  have hown0 := hown
  rcases hown.2 with ⟨rfl, h0⟩ | ⟨g, cap, cur, rfl, hb, hg, hn, hc, hs, ht⟩
  · obtain rfl : L = [] := List.length_eq_zero_iff.1 h0
    refine (show Calls Tryz.prog 139 _ _ _ from AnyF.slices_SortFunc_none Tryz.sortRing none 0 _ w).mono fun e w' ⟨h1, h2⟩ => ?_
    subst h2
    exact ⟨h1, by rw [show srtR [] = [] by simp [srtR]]; exact hown0, World.grownBy.refl _ _⟩
  · have hgl : g < w.heap.size := (Array.getElem?_eq_some_iff.1 hg).1
    have hH : HoldsK (encR nm) 5 w g 0 L.toArray := holdsK_own hk L hg ht
    have eg : ∀ args w, (callFunc 34 args).run Tryz.prog w = .ok (.enter 34 args) w := enters_of Tryz.func34 (by kernel_rfl) rfl
    have hcmp : CmpLays Tryz.prog 34 #[] (encR nm) 5 ringC g 0 L.toArray.size w := fun _ _ _ _ x y => ringC_any nm x y _
    have h := AnyQ.slices_SortFunc_total Tryz.sortRing 5 Tryz.isAgg73 Tryz.sizeOf73 (encR nm) hk (fun x u hu => by simp [encR] at hu; rcases hu with rfl | rfl | rfl | rfl | rfl <;> rfl) ringC ringSWO 34 #[] g 0 cap L.toArray w eg hcmp hH hgl (by simpa using hlen) ringTot
    change Calls Tryz.prog 139 _ _ _ at h
    refine h.mono ?_
    rintro e w' ⟨rfl, n, os, rfl⟩
    refine ⟨rfl, ?_, grownBy_putId _⟩
    have := ownsRow_sortedK (e := 73) (os := os) (n := n) hk (srtR L) (srtR_len L) hb hg hn hc hs
    unfold OwnR
    rw [srtR_len]
    simpa [srtR_eq] using this

end Go.Proofs.YtkpmddlinlcobaaGreatDoor
