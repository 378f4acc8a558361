/- The law TimesHold, plainly: the next time is the next one of a list; the fact. No program in sight. -/
import Derived.Test.YtkpmddlinlcobaaGreatDoorQ14
namespace Go.Proofs.YtkpmddlinlcobaaGreatDoor
open Go.RowKit Go.Shelf
set_option linter.unusedSimpArgs false
set_option linter.unusedVariables false

theorem tms_next1 {ah : Int} {Z : List (Int × Int)} {B M N : List Int} {C : List (Int × Int)} {ln a b : Int} (hz : MayZ ah Z) (hC : C.Pairwise (fun x y => x.1 < y.1)) {i : Nat} (hi : i + 1 < (tmsOf ah Z B M N C ln a b).length)
    (h1 : (tmsOf ah Z B M N C ln a b)[i].2 < (tmsOf ah Z B M N C ln a b)[i + 1].2) (h2 : (tmsOf ah Z B M N C ln a b)[i + 1].2 - (tmsOf ah Z B M N C ln a b)[i].2 ≤ 500000) :
    ∃ r, tmsOf ah Z B M N C ln ((tmsOf ah Z B M N C ln a b)[i].2 + 1) ((tmsOf ah Z B M N C ln a b)[i].2 + 500000 + 1) = (tmsOf ah Z B M N C ln a b)[i + 1] :: r := by
  have hm := fun {x} => tmsOf_mem hz hC (B := B) (M := M) (N := N) (ln := ln) (a := a) (b := b) (x := x)
  have ho := tmsOf_ord ah Z B M N C ln a b
  obtain ⟨R, hR⟩ : ∃ R, R = tmsOf ah Z B M N C ln a b := ⟨_, rfl⟩
  simp only [← hR] at hi h1 h2 hm ho ⊢
  obtain ⟨x, hx⟩ : ∃ x, x = R[i] := ⟨_, rfl⟩
  obtain ⟨y, hy⟩ : ∃ y, y = R[i + 1] := ⟨_, rfl⟩
  rw [← hx] at h1 h2 ⊢
  rw [← hy] at h1 h2 ⊢
  have hym : y ∈ R := by rw [hy]; exact List.getElem_mem _
  have hxm : x ∈ R := by rw [hx]; exact List.getElem_mem _
  have hyL := (tmsOf_mem hz hC (B := B) (M := M) (N := N) (ln := ln) (a := x.2 + 1) (b := x.2 + 500000 + 1) (x := y)).2 ⟨(hm.1 hym).1, (hm.1 hym).2.1, by omega, by omega⟩
  have hoL := tmsOf_ord ah Z B M N C ln (x.2 + 1) (x.2 + 500000 + 1)
  have hmL := fun {u} => tmsOf_mem hz hC (B := B) (M := M) (N := N) (ln := ln) (a := x.2 + 1) (b := x.2 + 500000 + 1) (x := u)
  obtain ⟨L, hL⟩ : ∃ L, L = tmsOf ah Z B M N C ln (x.2 + 1) (x.2 + 500000 + 1) := ⟨_, rfl⟩
  rw [← hL] at hyL hoL hmL ⊢
  cases L with
  | nil => cases hyL
  | cons u r =>
    refine ⟨r, ?_⟩
    rcases List.mem_cons.1 hyL with h3 | h3
    · rw [h3]
    · exfalso
      have h4 := (List.pairwise_cons.1 hoL).1 y h3
      have h5 := (hmL (u := u)).1 List.mem_cons_self
      have h6 : u.2 ≤ y.2 := by unfold Lt2 at h4; omega
      have h7 : u ∈ R := hm.2 ⟨h5.1, h5.2.1, by have := (hm.1 hxm).2.2.1; omega, by have := (hm.1 hym).2.2.2; omega⟩
      obtain ⟨j, hj, rfl⟩ := List.mem_iff_getElem.1 h7
      have hp := List.pairwise_iff_getElem.1 ho
      rcases Nat.lt_trichotomy j i with h | h | h
      · have := hp j i hj (by omega) h
        rw [← hx] at this
        unfold Lt2 at this; omega
      · subst h; rw [← hx] at h5; omega
      · rcases Nat.lt_trichotomy j (i + 1) with h8 | h8 | h8
        · omega
        · subst h8; rw [← hy] at h4; exact lt2_irr _ h4
        · have := hp (i + 1) j hi hj h8
          rw [← hy] at this
          exact lt2_irr _ (lt2_trans h4 this)

theorem tms_up {ah : Int} {Z : List (Int × Int)} {B M N : List Int} {C : List (Int × Int)} {ln a b : Int} {i : Nat} (hi : i + 1 < (tmsOf ah Z B M N C ln a b).length) : (tmsOf ah Z B M N C ln a b)[i].2 ≤ (tmsOf ah Z B M N C ln a b)[i + 1].2 := by
  have := List.pairwise_iff_getElem.1 (tmsOf_ord ah Z B M N C ln a b) i (i + 1) (by omega) hi (by omega)
  unfold Lt2 at this; omega

end Go.Proofs.YtkpmddlinlcobaaGreatDoor
