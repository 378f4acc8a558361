/- The contract of period.pick. Condition: the list has at most 1000 numbers. -/
import Derived.Test.YtkpmddlinlcobaaDoorPerD
import Derived.Deep.AppendLies
import Derived.Deep.Onto
import Derived.Laws.OwnMore
import Derived.Outline
namespace Go.Proofs.YtkpmddlinlcobaaDoor
open Go.RowKit
set_option linter.unusedSimpArgs false
set_option linter.unusedVariables false

theorem intInfoP : (Tryd.prog.info? 3).map (fun i => (i.zero, i.size, i.bytes)) = some (some (.int .i64 0), 1, 8) := by kernel_rfl

theorem own_kept {B : Nat} {e : TypeId} {k : Nat} {v : Value} {n : Nat} {xs : List Value} {w w' : World} (h : w.ownsRow B e k v n xs) (hb : Below w.heap.size w w') : w'.ownsRow B e k v n xs := by
  refine h.kept (row := none) ⟨hb.os, hb.tape, hb.output, hb.size, fun j hj _ => hb.block j hj⟩ ?_
  cases hv : v.ownBlock with
  | none => exact .inl rfl
  | some k => exact .inr (by simp)

/-- a slice that lies in no block below B. -/
def FreshV (B : Nat) (v : Value) : Prop := ∀ g, v.ownBlock = some g → B ≤ g

/-- is the i-th of so many numbers picked? -/
def pickB (wh : List Int) (n i : Int) : Bool := inB wh (i + 1) || inB wh (i - n)

/-- the numbers that are picked, the first of them the i-th of so many. -/
def pickG (wh : List Int) (n : Int) : Int → List Int → List Int
  | _, [] => []
  | i, x :: r => (if pickB wh n i = true then [x] else []) ++ pickG wh n (i + 1) r

theorem pickG_snoc (wh : List Int) (n : Int) (x : Int) : ∀ (L : List Int) (i : Int), pickG wh n i (L ++ [x]) = pickG wh n i L ++ (if pickB wh n (i + L.length) = true then [x] else [])
  | [], i => by simp [pickG]
  | y :: r, i => by rw [List.cons_append, pickG, pickG_snoc wh n x r (i + 1), pickG, List.append_assoc, List.length_cons, show i + 1 + (r.length : Int) = i + ((r.length + 1 : Nat) : Int) by omega]

theorem pickG_len (wh : List Int) (n : Int) : ∀ (L : List Int) (i : Int), (pickG wh n i L).length ≤ L.length
  | [], i => by simp [pickG]
  | y :: r, i => by
    rw [pickG, List.length_append, List.length_cons]
    have := pickG_len wh n r (i + 1)
    split <;> simp <;> omega

/-- what is picked of a list; nothing to pick by: all of it. -/
def pickL (L wh : List Int) : List Int := if wh = [] then L else pickG wh L.length 0 L

theorem pick_yes {L wh : List Int} {n : Int} {k : Nat} (h : k < L.length) (hp : pickB wh n k = true) : pickG wh n 0 (L.take (k + 1)) = pickG wh n 0 (L.take k) ++ [L[k]] := by
  rw [List.take_succ_eq_append_getElem h, pickG_snoc, if_pos (by rw [List.length_take, Nat.min_eq_left (by omega), Int.zero_add]; exact hp)]

theorem pick_no {L wh : List Int} {n : Int} {k : Nat} (h : k < L.length) (hp : pickB wh n k = false) : pickG wh n 0 (L.take (k + 1)) = pickG wh n 0 (L.take k) := by
  rw [List.take_succ_eq_append_getElem h, pickG_snoc, if_neg (by rw [List.length_take, Nat.min_eq_left (by omega), Int.zero_add, hp]; simp), List.append_nil]

set_option maxRecDepth 100000 in
set_option maxHeartbeats 8000000 in
theorem pick_own (u v : Value) (L wh : List Int) (w : World) (hL : IntsR w u L) (hW : IntsR w v wh) (hn : L.length ≤ 1000) :
    Calls Tryd.prog 77 #[u, v] w fun e w' => ∃ r, e = .returned r ∧ (IntsR w' r (pickL L wh) ∧ (r = u ∨ FreshV w.heap.size r)) ∧ Below w.heap.size w w' := by
  obtain ⟨i0, hi, hz0, hz1, hz2⟩ := info_parts intInfoP
  have HW := Lib.hid hW
  have HL := Lib.hid hL
  obtain ⟨a, cap, rfl, hc1, hc2, hcell⟩ := intsR_open hL
  obtain ⟨a2, cap2, rfl, hd1, hd2, hdell⟩ := intsR_open hW
  unfold maxLen at hc2 hd2
  have HC := Lib.hid hcell; clear hcell hL hW hdell
  by_cases h0 : wh = []
  · have P := Lib.hid (show pickL L wh = L by rw [pickL, if_pos h0])
    have hz : wh.length = 0 := by rw [h0]; rfl
    clear h0
    go_enter Tryd.func77, Tryd.ntmps77
    go_wp2
    go_ret
    exact ⟨_, rfl, ⟨by rw [P.out]; exact HL.out, .inl rfl⟩, Below.refl _ _⟩
  · have P := Lib.hid (show pickL L wh = pickG wh L.length 0 L by rw [pickL, if_neg h0])
    have hz : 0 < wh.length := List.length_pos_iff.2 h0
    have hzz : ((wh.length : Int) == 0) = false := by simpa using (show ¬ ((wh.length : Int) = 0) by omega)
    clear h0
    go_enter Tryd.func77, Tryd.ntmps77
    go_wp2
    go_loopg [5, 14] L.length (fun g ov i wr => ∃ k : Nat, k ≤ L.length ∧ i = .int .i64 k ∧ g = L.length - k ∧ wr.ownsRow w.heap.size 3 1 ov (pickG wh L.length 0 (L.take k)).length ((pickG wh L.length 0 (L.take k)).map (Value.int .i64)) ∧ Below w.heap.size w wr)
    case atStart => exact ⟨0, Nat.zero_le _, rfl, rfl, World.ownsRow_nil _ _ _ _, Below.refl _ _⟩
    case round =>
      obtain ⟨k, hk, rfl, hg, hown, hb⟩ := hrel
      have G := Lib.hid hg; clear hg
      by_cases hlt : k < L.length
      · obtain ⟨b, off, rfl, hcs⟩ := HC.out (by omega)
        have c0 := cell_below hb (hcs k hlt)
        obtain ⟨x, hx⟩ : ∃ x, x = L[k] := ⟨_, rfl⟩
        rw [← hx] at c0
        have X := Lib.hid hx; clear hx hcs
        have hpl := Nat.le_trans (pickG_len wh L.length (L.take k) 0) (Nat.le_of_eq (List.length_take))
        obtain ⟨done, hdone⟩ : ∃ done, done = pickG wh L.length 0 (L.take k) := ⟨_, rfl⟩
        rw [← hdone] at hown hpl
        have hdl : done.length ≤ 1000 := by omega
        have DN := Lib.hid hdone
        have OW := Lib.hid hown; have B := Lib.hid hb
        have hbs := hb.size
        clear hdone hown hb hpl
        obtain ⟨p1, hp1⟩ : ∃ p1, p1 = inB wh ((k : Int) + 1) := ⟨_, rfl⟩
        obtain ⟨p2, hp2⟩ : ∃ p2, p2 = inB wh ((k : Int) - L.length) := ⟨_, rfl⟩
        have P1 := Lib.hid hp1; have P2 := Lib.hid hp2
        have PB := Lib.hid (show pickB wh L.length k = (p1 || p2) by rw [pickB, ← hp1, ← hp2])
        clear hp1 hp2
        have hk0 : (0 : Int) ≤ (k : Int) := Int.natCast_nonneg _
        go_wp2_with fail
        refine (scont_any _ wh _ _ (HW.out.below B.out)).mono ?_; rintro e w1 ⟨rfl, hb1⟩
        rw [← P1.out]
        have c1 := cell_below hb1 c0
        have OW1 := Lib.hid (own_kept OW.out hb1)
        have B1 := Lib.hid (B.out.trans (hb1.mono B.out.size))
        have hbs1 := B1.out.size
        clear hb1 c0
        cases p1
        · go_wp2_with fail
          refine (scont_any _ wh _ _ (HW.out.below B1.out)).mono ?_; rintro e w2 ⟨rfl, hb2⟩
          rw [← P2.out]
          have OW2 := Lib.hid (own_kept OW1.out hb2)
          have B2 := Lib.hid (B1.out.trans (hb2.mono B1.out.size))
          have hbs2 := B2.out.size
          clear hb2
          cases p2
          · have E := Lib.hid (pick_no hlt PB.out)
            go_wp2
            go_roundg (L.length - (k + 1))
            case measure => rw [G.out]; omega
            case rel => exact ⟨k + 1, by omega, by go_num, rfl, by rw [E.out, ← DN.out]; exact OW2.out, B2.out⟩
          · have E := Lib.hid (pick_yes hlt PB.out)
            have hown := OW2.out
            go_wp2_with (at_builtin; refine wpList_append_lies _ rfl _ _ 22 rfl w.heap.size 3 i0 _ 1 8 Tryd.underlying22 hi hz0 hz1 hz2 rfl (by decide) _ _ _ rfl (hown.alloc _) ⟨w2.heap.size, 0, none⟩ 1 1 [.int .i64 x] rfl rfl ?d1 ?d2 (by decide) (by unfold maxLen; omega) (by omega) (by simp; omega) _ rfl ?_)
            case d1 => exact cell_one_new _ _ _
            case d2 => intro u hu; simp at hu; subst hu; rfl
            intro g3 cap3 w3 hown3 hgrow3 hat3 hlt3
            have hB3 := Lib.hid ((B2.out.alloc hbs2 (.cells #[.int .i64 x] 3)).grown hgrow3 (by simp; omega) (fun c hc => (hown.lt c hc).1))
            have O3 := Lib.hid hown3
            clear hown3 hgrow3 hat3 hlt3 hown
            go_wp2
            go_roundg (L.length - (k + 1))
            case measure => rw [G.out]; omega
            case rel => exact ⟨k + 1, by omega, by go_num, rfl, by rw [E.out, ← DN.out, ← X.out, List.length_append, List.map_append]; exact O3.out, hB3.out⟩
        · have E := Lib.hid (pick_yes hlt PB.out)
          have hown := OW1.out
          go_wp2_with (at_builtin; refine wpList_append_lies _ rfl _ _ 22 rfl w.heap.size 3 i0 _ 1 8 Tryd.underlying22 hi hz0 hz1 hz2 rfl (by decide) _ _ _ rfl (hown.alloc _) ⟨w1.heap.size, 0, none⟩ 1 1 [.int .i64 x] rfl rfl ?d1 ?d2 (by decide) (by unfold maxLen; omega) (by omega) (by simp; omega) _ rfl ?_)
          case d1 => exact cell_one_new _ _ _
          case d2 => intro u hu; simp at hu; subst hu; rfl
          intro g3 cap3 w3 hown3 hgrow3 hat3 hlt3
          have hB3 := Lib.hid ((B1.out.alloc hbs1 (.cells #[.int .i64 x] 3)).grown hgrow3 (by simp; omega) (fun c hc => (hown.lt c hc).1))
          have O3 := Lib.hid hown3
          clear hown3 hgrow3 hat3 hlt3 hown
          go_wp2
          go_roundg (L.length - (k + 1))
          case measure => rw [G.out]; omega
          case rel => exact ⟨k + 1, by omega, by go_num, rfl, by rw [E.out, ← DN.out, ← X.out, List.length_append, List.map_append]; exact O3.out, hB3.out⟩
      · obtain rfl : k = L.length := by omega
        rw [List.take_length] at hown
        have OW := Lib.hid hown; have B := Lib.hid hb
        clear hown hb
        go_wp2
        go_ret
        exact ⟨_, rfl, ⟨by rw [P.out]; exact intsR_of_owns OW.out, .inr (ownBlock_ge OW.out)⟩, B.out⟩

theorem pick_any (u v : Value) (L wh : List Int) (w : World) (hL : IntsR w u L) (hW : IntsR w v wh) (hn : L.length ≤ 1000) :
    Calls Tryd.prog 77 #[u, v] w fun e w' => ∃ r, e = .returned r ∧ IntsR w' r (pickL L wh) ∧ Below w.heap.size w w' :=
  (pick_own u v L wh w hL hW hn).mono fun _ _ ⟨r, h1, h2, h3⟩ => ⟨r, h1, h2.1, h3⟩

end Go.Proofs.YtkpmddlinlcobaaDoor
