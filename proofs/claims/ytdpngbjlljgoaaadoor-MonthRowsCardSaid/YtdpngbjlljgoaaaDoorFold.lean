/- The contract of line.Fold: the pieces of a text. -/
import Derived.Test.YtdpngbjlljgoaaaDoorProg
import Derived.Test.YtdpngbjlljgoaaaDoorSl
import Derived.WalkSpells
import Derived.WalkLawsBesides
import Derived.Deep.LoopGhost
namespace Go.Proofs.YtdpngbjlljgoaaaDoor
open Go.RowKit

/-- the pieces behind the first one. -/
def foldRest (l : List UInt8) : List (List UInt8) := if l = [] then [] else (32 :: l.take 39) :: foldRest (l.drop 39)
termination_by l.length
decreasing_by
  rename_i h
  cases l
  · exact absurd rfl h
  · simp; omega

/-- the pieces of a text. -/
def foldL (l : List UInt8) : List (List UInt8) := l.take 40 :: foldRest (l.drop 40)

theorem foldRest_nil : foldRest [] = [] := by rw [foldRest]; simp

theorem foldRest_cons {l : List UInt8} (h : l ≠ []) : foldRest l = (32 :: l.take 39) :: foldRest (l.drop 39) := by rw [foldRest, if_neg h]

def strs (L : List (List UInt8)) : List Value := L.map fun x => Value.string (bs x)

theorem stringInfo : (Tryd.prog.info? 9).map (fun i => (i.zero, i.size, i.bytes)) = some (some (.string ⟨#[]⟩), 1, 16) := by kernel_rfl

/-- what holds at the loop's head: the pieces that are made, and what is left of the text. -/
def FoldAt (l rest : List UInt8) (done : List (List UInt8)) : Prop := done ++ foldRest rest = foldL l ∧ 1 ≤ done.length ∧ (rest ≠ [] → 39 * done.length + rest.length ≤ l.length + 39)

theorem foldAt_start (l : List UInt8) : FoldAt l (l.drop 40) [l.take 40] := by
  refine ⟨rfl, by simp, fun h => ?_⟩
  have : (l.drop 40).length ≠ 0 := fun h0 => h (List.length_eq_zero_iff.1 h0)
  simp at *
  omega

theorem foldAt_step {l rest : List UInt8} {done : List (List UInt8)} (h : FoldAt l rest done) (hr : rest ≠ []) : FoldAt l (rest.drop 39) (done ++ [32 :: rest.take 39]) := by
  obtain ⟨h1, h2, h3⟩ := h
  refine ⟨by rw [← h1, foldRest_cons hr]; simp, by simp, fun h => ?_⟩
  have : (rest.drop 39).length ≠ 0 := fun h0 => h (List.length_eq_zero_iff.1 h0)
  have := h3 hr
  simp at *
  omega

theorem strs_snoc (L : List (List UInt8)) (x : List UInt8) : strs (L ++ [x]) = strs L ++ [.string (bs x)] := by simp [strs]

set_option maxRecDepth 100000 in
set_option maxHeartbeats 2000000 in
theorem fold_any (l : List UInt8) (w : World) (hs : l.length ≤ 140737488351232) :
    Calls Tryd.prog 26 #[.string (bs l)] w fun e w' => ∃ v, e = .returned v ∧ w'.ownsRow w.heap.size 9 1 v (foldL l).length (strs (foldL l)) ∧ Below w.heap.size w w' := by
  obtain ⟨i0, hi, hz0, hz1, hz2⟩ := info_parts stringInfo
  have hsz := bs_size l
  have hs2 : (bs l).size ≤ 140737488351232 := by omega
  have H := Lib.hid hsz; clear hsz
  obtain ⟨x0, hx0⟩ : ∃ x0, x0 = bs (l.take 40) := ⟨_, rfl⟩
  obtain ⟨r0, hr0⟩ : ∃ r0, r0 = bs (l.drop 40) := ⟨_, rfl⟩
  have X0 := Lib.hid hx0; have R0 := Lib.hid hr0; clear hx0 hr0
  have hcase : ((bs l).size ≤ 40 ∧ Hid (bs l = x0) ∧ Hid (ByteArray.empty = r0)) ∨ (40 < (bs l).size ∧ Hid ((bs l).extract 0 40 = x0) ∧ Hid ((bs l).extract 40 (bs l).size = r0)) := by
    by_cases h40 : (bs l).size ≤ 40
    · refine .inl ⟨h40, ?_, ?_⟩
      · exact Lib.hid (by rw [X0.out, List.take_of_length_le (by have := H.out; omega)])
      · exact Lib.hid (by rw [R0.out, List.drop_of_length_le (by have := H.out; omega)]; rfl)
    · refine .inr ⟨by omega, ?_, ?_⟩
      · exact Lib.hid (by rw [X0.out, bs_extract]; simp)
      · exact Lib.hid (by rw [R0.out, bs_extract, H.out, ← List.length_drop, List.take_length])
  rcases hcase with ⟨h40, E1, E2⟩ | ⟨h40, E1, E2⟩
  all_goals
    go_enter Tryd.func26, Tryd.ntmps26
    go_wp2
    go_loopg [0, 3, 4] ((l.drop 40).length) (fun g sv nv v wr => ∃ (rest : List UInt8) (done : List (List UInt8)) (k : Int), sv = .string (bs rest) ∧ nv = .int .i64 k ∧ wr.ownsRow w.heap.size 9 1 v done.length (strs done) ∧ FoldAt l rest done ∧ g = rest.length ∧ Below w.heap.size w wr)
    case atStart => exact ⟨l.drop 40, [l.take 40], _, by rw [E2.out, R0.out], rfl, by rw [E1.out, X0.out]; exact owns_one w _ _, foldAt_start l, rfl, (Below.refl _ _).alloc (Nat.le_refl _) _⟩
    case round =>
      obtain ⟨rest, done, k, rfl, rfl, hown, hF, hg, hb⟩ := hrel
      have G := Lib.hid hg; have F := Lib.hid hF; clear hg hF
      by_cases hr : rest = []
      · subst hr
        have q1 : (bs []).toList.isEmpty = true := by rw [bs_toList]; rfl
        have q2 : (bs []).toList = [] := by rw [bs_toList]
        go_wp2
        go_ret
        have hd : done = foldL l := by have := F.out.1; rw [foldRest_nil, List.append_nil] at this; exact this
        exact ⟨_, rfl, by rw [← hd]; exact hown, hb⟩
      · have q1 : (bs rest).toList.isEmpty = false := by rw [bs_toList]; simpa using hr
        have q2 : ¬ (bs rest).toList = [] := by rw [bs_toList]; exact hr
        have F2 := Lib.hid (foldAt_step F.out hr)
        have hd3 : 39 * done.length + (bs rest).size ≤ (bs l).size + 39 := by rw [bs_size, H.out]; exact F.out.2.2 hr
        have hrl : 0 < (bs rest).size := by rw [bs_size]; exact List.length_pos_iff.2 hr
        have G2 := Lib.hid (show (rest.drop 39).length < rest.length by have := List.length_pos_iff.2 hr; simp; omega)
        have hbs := hb.size
        obtain ⟨x1, hx1⟩ : ∃ x1, x1 = bs (32 :: rest.take 39) := ⟨_, rfl⟩
        have X1 := Lib.hid hx1; clear hx1
        have RS := Lib.hid (bs_size rest)
        clear hr
        by_cases h39 : (bs rest).size ≤ 39
        · have Y := Lib.hid (show ({ data := #[32] } : ByteArray) ++ bs rest = x1 by rw [X1.out, show ({ data := #[32] } : ByteArray) = bs [32] from rfl, bs_append, List.take_of_length_le (by have := RS.out; omega)]; rfl)
          have Z := Lib.hid (show ByteArray.empty = bs (rest.drop 39) by rw [List.drop_of_length_le (by have := RS.out; omega)]; rfl)
          go_wp2_with (at_builtin; refine wpList_append_lies _ rfl _ _ 49 rfl w.heap.size 9 i0 _ 1 16 Tryd.underlying49 hi hz0 hz1 hz2 rfl (by decide) _ _ _ rfl (hown.alloc _) ⟨wr.heap.size, 0, none⟩ 1 1 [.string ({ data := #[32] } ++ bs rest)] rfl rfl ?c1 ?c2 (by decide) (by unfold maxLen; omega) (by omega) (by simp; omega) _ rfl ?_)
          case c1 => exact cell_one_new _ _ _
          case c2 => intro u hu; simp at hu; subst hu; rfl
          intro g cap w1 hown1 hgrow1 hat1 hlt1
          have hown2 : w1.ownsRow w.heap.size 9 1 (.slice (some ⟨g, 0, none⟩) (done.length + 1) cap) (done ++ [32 :: rest.take 39]).length (strs (done ++ [32 :: rest.take 39])) := by
            rw [strs_snoc, List.length_append, ← X1.out, ← Y.out]; exact hown1
          have hb1 : Below w.heap.size w w1 := (hb.alloc hbs _).grown hgrow1 (by simp; omega) (ownBlock_ge hown)
          have O := Lib.hid hown2; have B := Lib.hid hb1
          clear hown1 hown2 hb1 hgrow1 hat1
          go_wp2
          go_roundg ((rest.drop 39).length)
          case measure => rw [G.out]; exact G2.out
          case rel => exact ⟨rest.drop 39, done ++ [32 :: rest.take 39], _, by rw [Z.out], rfl, by have := O.out; rw [List.length_append] at this ⊢; exact this, F2.out, rfl, B.out⟩
        · have Y := Lib.hid (show ({ data := #[32] } : ByteArray) ++ (bs rest).extract 0 39 = x1 by rw [X1.out, bs_extract, show ({ data := #[32] } : ByteArray) = bs [32] from rfl, bs_append]; simp)
          have Z := Lib.hid (show (bs rest).extract 39 (bs rest).size = bs (rest.drop 39) by rw [bs_extract, RS.out, ← List.length_drop, List.take_length])
          go_wp2_with (at_builtin; refine wpList_append_lies _ rfl _ _ 49 rfl w.heap.size 9 i0 _ 1 16 Tryd.underlying49 hi hz0 hz1 hz2 rfl (by decide) _ _ _ rfl (hown.alloc _) ⟨wr.heap.size, 0, none⟩ 1 1 [.string ({ data := #[32] } ++ (bs rest).extract 0 39)] rfl rfl ?c1 ?c2 (by decide) (by unfold maxLen; omega) (by omega) (by simp; omega) _ rfl ?_)
          case c1 => exact cell_one_new _ _ _
          case c2 => intro u hu; simp at hu; subst hu; rfl
          intro g cap w1 hown1 hgrow1 hat1 hlt1
          have hown2 : w1.ownsRow w.heap.size 9 1 (.slice (some ⟨g, 0, none⟩) (done.length + 1) cap) (done ++ [32 :: rest.take 39]).length (strs (done ++ [32 :: rest.take 39])) := by
            rw [strs_snoc, List.length_append, ← X1.out, ← Y.out]; exact hown1
          have hb1 : Below w.heap.size w w1 := (hb.alloc hbs _).grown hgrow1 (by simp; omega) (ownBlock_ge hown)
          have O := Lib.hid hown2; have B := Lib.hid hb1
          clear hown1 hown2 hb1 hgrow1 hat1
          go_wp2
          go_roundg ((rest.drop 39).length)
          case measure => rw [G.out]; exact G2.out
          case rel => exact ⟨rest.drop 39, done ++ [32 :: rest.take 39], _, by rw [Z.out], rfl, by have := O.out; rw [List.length_append] at this ⊢; exact this, F2.out, rfl, B.out⟩

theorem foldRest_len (l : List UInt8) : (foldRest l).length = (l.length + 38) / 39 := by
  induction h : l.length using Nat.strongRecOn generalizing l with
  | _ n ih =>
    by_cases hl : l = []
    · subst hl; rw [foldRest_nil]; simp at h; subst h; rfl
    · have hp := List.length_pos_iff.2 hl
      rw [foldRest_cons hl, List.length_cons, ih (l.drop 39).length (by simp; omega) (l.drop 39) rfl]
      simp
      omega

theorem foldL_len (l : List UInt8) : (foldL l).length = 1 + (l.length - 40 + 38) / 39 := by
  rw [foldL, List.length_cons, foldRest_len]; simp; omega

end Go.Proofs.YtdpngbjlljgoaaaDoor
