/- Texts joined into one (a claim has at most 60 files): The contract of period.pick; A region's operations may be cut: what the first ones leave, and what the others do from there; A range over a function whose iterator keeps a count in a cell of its own: the law of the statement; The contract of line.Fold: the pieces of a text; Lines, plain laws: what is escaped is plain again; what is folded is unfolded; The reference's Rises: its contract. -/
import Derived.Test.YtgelojhpanbnaaaGreatDoorQ04
import Derived.Deep.AppendLies
import Derived.Deep.Onto
import Derived.Laws.OwnMore
import Derived.Outline
import Derived.WalkKit
import Derived.Orders
import Derived.RangeFuncLeaves
import Derived.RangeFuncSeq
import Derived.Shelf.Abstract
import Derived.Below
import Derived.Test.YtgelojhpanbnaaaGreatDoorProg
import Derived.Test.YtgelojhpanbnaaaGreatDoorQ01
import Derived.WalkSpells
import Derived.WalkLawsBesides
import Derived.Deep.LoopGhost
namespace Go.Proofs.YtgelojhpanbnaaaGreatDoor
open Go.RowKit
set_option linter.unusedSimpArgs false
set_option linter.unusedVariables false

theorem intInfoP : (Tryz.prog.info? 3).map (fun i => (i.zero, i.size, i.bytes)) = some (some (.int .i64 0), 1, 8) := by kernel_rfl

theorem own_kept {B : Nat} {e : TypeId} {k : Nat} {v : Value} {n : Nat} {xs : List Value} {w w' : World} (h : w.ownsRow B e k v n xs) (hb : Below w.heap.size w w') : w'.ownsRow B e k v n xs := by
  refine h.kept (row := none) ⟨hb.os, hb.tape, hb.output, hb.size, fun j hj _ => hb.block j hj⟩ ?_
  cases hv : v.ownBlock with
  | none => exact .inl rfl
  | some k => exact .inr (by simp)

def FreshV (B : Nat) (v : Value) : Prop := ∀ g, v.ownBlock = some g → B ≤ g

def pickB (wh : List Int) (n i : Int) : Bool := inB wh (i + 1) || inB wh (i - n)

def pickG (wh : List Int) (n : Int) : Int → List Int → List Int
  | _, [] => []
  | i, x :: r => (if pickB wh n i = true then [x] else []) ++ pickG wh n (i + 1) r

theorem pickG_snoc (wh : List Int) (n : Int) (x : Int) : ∀ (L : List Int) (i : Int), pickG wh n i (L ++ [x]) = pickG wh n i L ++ (if pickB wh n (i + L.length) = true then [x] else [])
  | [], i => by simp [pickG]
  | y :: r, i => by rw [List.cons_append, pickG, pickG_snoc wh n x r (i + 1), pickG, List.append_assoc, List.length_cons, show i + 1 + (r.length : Int) = i + ((r.length + 1 : Nat) : Int) by omega]

theorem pickG_len (wh : List Int) (n : Int) : ∀ (L : List Int) (i : Int), (pickG wh n i L).length ≤ L.length
  | [], i => by simp [pickG]
  | y :: r, i => by
    rw [pickG, List.length_append, List.length_cons]
    have := pickG_len wh n r (i + 1)
    split <;> simp <;> omega

def pickL (L wh : List Int) : List Int := if wh = [] then L else pickG wh L.length 0 L

theorem pick_yes {L wh : List Int} {n : Int} {k : Nat} (h : k < L.length) (hp : pickB wh n k = true) : pickG wh n 0 (L.take (k + 1)) = pickG wh n 0 (L.take k) ++ [L[k]] := by
  rw [List.take_succ_eq_append_getElem h, pickG_snoc, if_pos (by rw [List.length_take, Nat.min_eq_left (by omega), Int.zero_add]; exact hp)]

theorem pick_no {L wh : List Int} {n : Int} {k : Nat} (h : k < L.length) (hp : pickB wh n k = false) : pickG wh n 0 (L.take (k + 1)) = pickG wh n 0 (L.take k) := by
  rw [List.take_succ_eq_append_getElem h, pickG_snoc, if_neg (by rw [List.length_take, Nat.min_eq_left (by omega), Int.zero_add, hp]; simp), List.append_nil]

set_option maxRecDepth 100000 in
set_option maxHeartbeats 8000000 in
theorem pick_own (u v : Value) (L wh : List Int) (w : World) (hL : IntsR w u L) (hW : IntsR w v wh) (hn : L.length ≤ 1000) :
    Calls Tryz.prog 239 #[u, v] w fun e w' => ∃ r, e = .returned r ∧ (IntsR w' r (pickL L wh) ∧ (r = u ∨ FreshV w.heap.size r)) ∧ Below w.heap.size w w' := by
  obtain ⟨i0, hi, hz0, hz1, hz2⟩ := info_parts intInfoP
  have HW := Lib.hid hW
  have HL := Lib.hid hL
  obtain ⟨a, cap, rfl, hc1, hc2, hcell⟩ := intsR_open hL
  obtain ⟨a2, cap2, rfl, hd1, hd2, hdell⟩ := intsR_open hW
  unfold maxLen at hc2 hd2
  have HC := Lib.hid hcell; clear hcell hL hW hdell
  by_cases h0 : wh = []
  · have P := Lib.hid (show pickL L wh = L by rw [pickL, if_pos h0])
    have hz : wh.length = 0 := by rw [h0]; rfl
    clear h0
    go_enter Tryz.func239, Tryz.ntmps239
    go_wp2
    go_ret
    exact ⟨_, rfl, ⟨by rw [P.out]; exact HL.out, .inl rfl⟩, Below.refl _ _⟩
  · have P := Lib.hid (show pickL L wh = pickG wh L.length 0 L by rw [pickL, if_neg h0])
    have hz : 0 < wh.length := List.length_pos_iff.2 h0
    have hzz : ((wh.length : Int) == 0) = false := by simpa using (show ¬ ((wh.length : Int) = 0) by omega)
    clear h0
    go_enter Tryz.func239, Tryz.ntmps239
    go_wp2
    go_loopg [5, 14] L.length (fun g ov i wr => ∃ k : Nat, k ≤ L.length ∧ i = .int .i64 k ∧ g = L.length - k ∧ wr.ownsRow w.heap.size 3 1 ov (pickG wh L.length 0 (L.take k)).length ((pickG wh L.length 0 (L.take k)).map (Value.int .i64)) ∧ Below w.heap.size w wr)
    case atStart => exact ⟨0, Nat.zero_le _, rfl, rfl, World.ownsRow_nil _ _ _ _, Below.refl _ _⟩
    case round =>
      obtain ⟨k, hk, rfl, hg, hown, hb⟩ := hrel
      have G := Lib.hid hg; clear hg
      by_cases hlt : k < L.length
      · obtain ⟨b, off, rfl, hcs⟩ := HC.out (by omega)
        have c0 := cell_below hb (hcs k hlt)
        obtain ⟨x, hx⟩ : ∃ x, x = L[k] := ⟨_, rfl⟩
        rw [← hx] at c0
        have X := Lib.hid hx; clear hx hcs
        have hpl := Nat.le_trans (pickG_len wh L.length (L.take k) 0) (Nat.le_of_eq (List.length_take))
        obtain ⟨done, hdone⟩ : ∃ done, done = pickG wh L.length 0 (L.take k) := ⟨_, rfl⟩
        rw [← hdone] at hown hpl
        have hdl : done.length ≤ 1000 := by omega
        have DN := Lib.hid hdone
        have OW := Lib.hid hown; have B := Lib.hid hb
        have hbs := hb.size
        clear hdone hown hb hpl
        obtain ⟨p1, hp1⟩ : ∃ p1, p1 = inB wh ((k : Int) + 1) := ⟨_, rfl⟩
        obtain ⟨p2, hp2⟩ : ∃ p2, p2 = inB wh ((k : Int) - L.length) := ⟨_, rfl⟩
        have P1 := Lib.hid hp1; have P2 := Lib.hid hp2
        have PB := Lib.hid (show pickB wh L.length k = (p1 || p2) by rw [pickB, ← hp1, ← hp2])
        clear hp1 hp2
        have hk0 : (0 : Int) ≤ (k : Int) := Int.natCast_nonneg _
        go_wp2_with fail
        refine (scont_any _ wh _ _ (HW.out.below B.out)).mono ?_; rintro e w1 ⟨rfl, hb1⟩
        rw [← P1.out]
        have c1 := cell_below hb1 c0
        have OW1 := Lib.hid (own_kept OW.out hb1)
        have B1 := Lib.hid (B.out.trans (hb1.mono B.out.size))
        have hbs1 := B1.out.size
        clear hb1 c0
        cases p1
        · go_wp2_with fail
          refine (scont_any _ wh _ _ (HW.out.below B1.out)).mono ?_; rintro e w2 ⟨rfl, hb2⟩
          rw [← P2.out]
          have OW2 := Lib.hid (own_kept OW1.out hb2)
          have B2 := Lib.hid (B1.out.trans (hb2.mono B1.out.size))
          have hbs2 := B2.out.size
          clear hb2
          cases p2
          · have E := Lib.hid (pick_no hlt PB.out)
            go_wp2
            go_roundg (L.length - (k + 1))
            case measure => rw [G.out]; omega
            case rel => exact ⟨k + 1, by omega, by go_num, rfl, by rw [E.out, ← DN.out]; exact OW2.out, B2.out⟩
          · have E := Lib.hid (pick_yes hlt PB.out)
            have hown := OW2.out
            go_wp2_with (at_builtin; refine wpList_append_lies _ rfl _ _ 22 rfl w.heap.size 3 i0 _ 1 8 Tryz.underlying22 hi hz0 hz1 hz2 rfl (by decide) _ _ _ rfl (hown.alloc _) ⟨w2.heap.size, 0, none⟩ 1 1 [.int .i64 x] rfl rfl ?d1 ?d2 (by decide) (by unfold maxLen; omega) (by omega) (by simp; omega) _ rfl ?_)
            case d1 => exact cell_one_new _ _ _
            case d2 => intro u hu; simp at hu; subst hu; rfl
            intro g3 cap3 w3 hown3 hgrow3 hat3 hlt3
            have hB3 := Lib.hid ((B2.out.alloc hbs2 (.cells #[.int .i64 x] 3)).grown hgrow3 (by simp; omega) (fun c hc => (hown.lt c hc).1))
            have O3 := Lib.hid hown3
            clear hown3 hgrow3 hat3 hlt3 hown
            go_wp2
            go_roundg (L.length - (k + 1))
            case measure => rw [G.out]; omega
            case rel => exact ⟨k + 1, by omega, by go_num, rfl, by rw [E.out, ← DN.out, ← X.out, List.length_append, List.map_append]; exact O3.out, hB3.out⟩
        · have E := Lib.hid (pick_yes hlt PB.out)
          have hown := OW1.out
          go_wp2_with (at_builtin; refine wpList_append_lies _ rfl _ _ 22 rfl w.heap.size 3 i0 _ 1 8 Tryz.underlying22 hi hz0 hz1 hz2 rfl (by decide) _ _ _ rfl (hown.alloc _) ⟨w1.heap.size, 0, none⟩ 1 1 [.int .i64 x] rfl rfl ?d1 ?d2 (by decide) (by unfold maxLen; omega) (by omega) (by simp; omega) _ rfl ?_)
          case d1 => exact cell_one_new _ _ _
          case d2 => intro u hu; simp at hu; subst hu; rfl
          intro g3 cap3 w3 hown3 hgrow3 hat3 hlt3
          have hB3 := Lib.hid ((B1.out.alloc hbs1 (.cells #[.int .i64 x] 3)).grown hgrow3 (by simp; omega) (fun c hc => (hown.lt c hc).1))
          have O3 := Lib.hid hown3
          clear hown3 hgrow3 hat3 hlt3 hown
          go_wp2
          go_roundg (L.length - (k + 1))
          case measure => rw [G.out]; omega
          case rel => exact ⟨k + 1, by omega, by go_num, rfl, by rw [E.out, ← DN.out, ← X.out, List.length_append, List.map_append]; exact O3.out, hB3.out⟩
      · obtain rfl : k = L.length := by omega
        rw [List.take_length] at hown
        have OW := Lib.hid hown; have B := Lib.hid hb
        clear hown hb
        go_wp2
        go_ret
        exact ⟨_, rfl, ⟨by rw [P.out]; exact intsR_of_owns OW.out, .inr (ownBlock_ge OW.out)⟩, B.out⟩

end Go.Proofs.YtgelojhpanbnaaaGreatDoor

namespace Go.Proofs.YtgelojhpanbnaaaGreatDoor
open Go.RowKit

def AtEnd (R : Act → World → Prop) : Exit → Act → World → Prop
  | .normal, a, w => R a w
  | _, _, _ => False

theorem AtEnd.intro {R : Act → World → Prop} {a : Act} {w : World} (h : R a w) : AtEnd R .normal a w := h

theorem oper_mono2 {P : Program} {o : Oper} {a : Act} {w : World} {K K' : Act → World → Prop} {Q Q' : Exit → Act → World → Prop} (h : ∀ a w, K a w → K' a w)
    (hq : ∀ c a w, Q (.panic c) a w → Q' (.panic c) a w) (hl : LetsOut Q → LetsOut Q') (hh : o.wp P a w K Q) : o.wp P a w K' Q' := by
  unfold Oper.wp at *
  generalize (execOp a.eval o).run P w = r at *
  cases r with
  | ok n w' =>
    cases n <;> simp only [Oper.upon] at hh ⊢ <;>
      first
        | exact h _ _ hh
        | exact Calls.mono hh (fun e w'' he => by
            cases e with
            | returned v => exact h _ _ he
            | panicked c => exact hq _ _ _ he
            | outgrown => exact hl he)
        | exact Rows.mono hh (fun _ _ he => h _ _ he)
  | halt x w' => cases x <;> simp only [Oper.upon] at hh ⊢ <;> first | exact hq _ _ _ hh | exact hh

theorem letsOut_atEnd {R : Act → World → Prop} (h : LetsOut (AtEnd R)) : False := by obtain ⟨a, w, h⟩ := h; exact h

theorem wpList_atEnd {P : Program} {ops : Array Oper} {Q : Exit → Act → World → Prop} {R : Act → World → Prop} : ∀ (k : Nat) (l : List Oper) (a : Act) (w : World),
    (∀ a w, R a w → wpList P ops Q (l.drop k) a w) → wpList P ops (AtEnd R) (l.take k) a w → wpList P ops Q l a w
  | 0, l, a, w, hr, h => hr a w h
  | k + 1, [], a, w, hr, h => hr a w h
  | k + 1, o :: l, a, w, hr, h => by
    rw [List.take_succ_cons] at h
    unfold wpList at h ⊢
    split
    · rename_i hw
      rw [if_pos hw] at h
      rcases h with h | ⟨_, h⟩
      · exact .inl (oper_mono2 (fun a w q => wpList_atEnd k l a w hr q) (fun c a w q => q.elim) (fun q => (letsOut_atEnd q).elim) h)
      · exact (letsOut_atEnd h).elim
    · rename_i hw
      rw [if_neg hw] at h
      exact wpList_atEnd k l _ w hr h

theorem wpList_cut {P : Program} {ops : Array Oper} {Q : Exit → Act → World → Prop} {l : List Oper} {a : Act} {w : World} (k : Nat) (R : Act → World → Prop)
    (first : ∀ J : Act → World → Prop, (∀ a w, R a w → J a w) → wpList P ops (AtEnd J) (l.take k) a w) (rest : ∀ a w, R a w → wpList P ops Q (l.drop k) a w) : wpList P ops Q l a w :=
  wpList_atEnd k l a w rest (first R fun _ _ h => h)

theorem range_at {us : List Value} (m c : Nat) (h : m + c ≤ us.length) : (List.range c).map (fun j => us.getD (m + j) undef) = (us.drop m).take c := by
  apply List.ext_getElem
  · simp; omega
  · intro i h1 h2
    simp at h1
    simp [List.getElem_take, List.getElem_drop, List.getD_eq_getElem?_getD, List.getElem?_eq_getElem (show m + i < us.length by omega)]

theorem wpList_cutF {P : Program} {ops : Array Oper} {Q : Exit → Act → World → Prop} {l : List Oper} {ts : List Value} {ds : List Deferred} {w : World} (k m c : Nat) (R : (Nat → Value) → World → Prop)
    (first : ∀ J : Act → World → Prop, (∀ (us : List Value) (w' : World), us.length = ts.length → us.take m = ts.take m → us.drop (m + c) = ts.drop (m + c) → R (fun j => us.getD (m + j) undef) w' → J ⟨us.toArray, ds⟩ w') →
      wpList P ops (AtEnd J) (l.take k) ⟨ts.toArray, ds⟩ w)
    (rest : ∀ (f : Nat → Value) (w' : World), R f w' → wpList P ops Q (l.drop k) ⟨(ts.take m ++ ((List.range c).map f ++ ts.drop (m + c))).toArray, ds⟩ w')
    (hm : m + c ≤ ts.length) : wpList P ops Q l ⟨ts.toArray, ds⟩ w := by
  refine wpList_cut k (fun a w' => ∃ us : List Value, us.length = ts.length ∧ us.take m = ts.take m ∧ us.drop (m + c) = ts.drop (m + c) ∧ R (fun j => us.getD (m + j) undef) w' ∧ a = ⟨us.toArray, ds⟩)
    (fun J hJ => first J fun us w' h1 h2 h3 h4 => hJ _ _ ⟨us, h1, h2, h3, h4, rfl⟩) ?_
  rintro a w' ⟨us, h1, h2, h3, h4, rfl⟩
  have h := rest _ w' h4
  have e : ts.take m ++ ((List.range c).map (fun j => us.getD (m + j) undef) ++ ts.drop (m + c)) = us := by
    rw [range_at m c (by omega), ← h2, ← h3, ← List.drop_drop, List.take_append_drop, List.take_append_drop]
  rw [e] at h
  exact h

theorem map_11 (f : Nat → Value) : (List.range 11).map f = [f 0, f 1, f 2, f 3, f 4, f 5, f 6, f 7, f 8, f 9, f 10] := rfl
theorem map_12 (f : Nat → Value) : (List.range 12).map f = [f 0, f 1, f 2, f 3, f 4, f 5, f 6, f 7, f 8, f 9, f 10, f 11] := rfl
theorem map_23 (f : Nat → Value) : (List.range 23).map f = [f 0, f 1, f 2, f 3, f 4, f 5, f 6, f 7, f 8, f 9, f 10, f 11, f 12, f 13, f 14, f 15, f 16, f 17, f 18, f 19, f 20, f 21, f 22] := rfl
theorem map_7 (f : Nat → Value) : (List.range 7).map f = [f 0, f 1, f 2, f 3, f 4, f 5, f 6] := rfl
theorem map_21 (f : Nat → Value) : (List.range 21).map f = [f 0, f 1, f 2, f 3, f 4, f 5, f 6, f 7, f 8, f 9, f 10, f 11, f 12, f 13, f 14, f 15, f 16, f 17, f 18, f 19, f 20] := rfl

end Go.Proofs.YtgelojhpanbnaaaGreatDoor

namespace Go.Proofs.YtgelojhpanbnaaaGreatDoor
open Go.RowKit

structure StepP (B : Nat) (Pr : Nat → Prop) (w w' : World) : Prop where
  below : Below B w w'
  rest : ∀ k, k < w.heap.size → ¬ Pr k → w'.heap[k]? = w.heap[k]?

structure KeepP (B : Nat) (Pr : Nat → Prop) (w w' : World) : Prop where
  below : Below B w w'
  kept : ∀ k, k < w.heap.size → Pr k → w'.heap[k]? = w.heap[k]?

def AbP (B : Nat) (J : (Nat → Prop) → List Int → World → Prop) : Prop :=
  ∀ Pr Pr' pre w w', J Pr pre w → StepP B Pr w w' → (∀ k, Pr' k → Pr k ∨ (w.heap.size ≤ k ∧ k < w'.heap.size)) → J Pr' pre w'

def SeqP (F : Fence) (n : Nat) (P : Program) (g : Nat) (lb : Array Value) (B : Nat) (Pr0 : Nat → Prop) (S Sp : List Int → Prop) (N : Nat) (w : World) : Prop :=
  ∀ (l : Nat) (J Jx : (Nat → Prop) → List Int → World → Prop) (W : World), Below w.heap.size w W → AbP B J → AbP B Jx →
    (∀ Pr pre x W1, J Pr pre W1 → pre.length < N → YieldAt F (n - 1) P l #[.int .i64 x] W1 fun e W' =>
      (e = .returned (.bool true) ∧ J Pr (pre ++ [x]) W' ∧ KeepP B Pr W1 W') ∨ (e = .returned (.bool false) ∧ Jx Pr (pre ++ [x]) W')) →
    J Pr0 [] W →
    CallsIn F n P g (#[.func (.yield l) #[] #[]] ++ lb) W fun e W' => (∃ v, e = .returned v) ∧ ((∃ Pr xs, S xs ∧ J Pr xs W') ∨ (∃ Pr pre, Sp pre ∧ Jx Pr pre W'))

def postP (B : Nat) (I : (Nat → Prop) → List Int → World → Prop) (Ix : Code → (Nat → Prop) → List Int → World → Prop) (Pr : Nat → Prop) (xs : List Int) (W : World) : Exit → Act → World → Prop
  | .normal, _, W' => KeepP B Pr W W' ∧ I Pr xs W'
  | .ret, _, W' => KeepP B Pr W W' ∧ Ix .ret Pr xs W'
  | .exit id, _, W' => KeepP B Pr W W' ∧ Ix (.exit id) Pr xs W'
  | .goto t, _, W' => KeepP B Pr W W' ∧ Ix (.goto t) Pr xs W'
  | .panic _, _, _ => False
  | .outgrown, _, _ => False

theorem below_put {B l : Nat} (W : World) (o : Obj) (h : B ≤ l) : Below B W (W.putObj l o) :=
  ⟨rfl, rfl, rfl, by simp, fun k hk => World.putObj_heap_other (by omega)⟩

theorem stepP_put {B l : Nat} {Pr : Nat → Prop} (W : World) (o : Obj) (h : B ≤ l) (hl : Pr l) : StepP B Pr W (W.putObj l o) :=
  ⟨below_put W o h, fun k _ hk => World.putObj_heap_other (fun e => hk (by rw [e]; exact hl))⟩

theorem stepP_alloc {B : Nat} {Pr : Nat → Prop} (W : World) (o : Obj) (h : B ≤ W.heap.size) : StepP B Pr W (W.alloc o) :=
  ⟨(Below.refl _ _).alloc h o, fun k hk _ => Below.heap_alloc W o k hk⟩

theorem StepP.trans {B : Nat} {Pr : Nat → Prop} {a b c : World} (h : StepP B Pr a b) (k : StepP B Pr b c) : StepP B Pr a c :=
  ⟨h.below.trans k.below, fun j hj hp => (k.rest j (Nat.lt_of_lt_of_le hj h.below.size) hp).trans (h.rest j hj hp)⟩

theorem StepP.widen {B : Nat} {Pr Pr' : Nat → Prop} {a b : World} (h : StepP B Pr a b) (hp : ∀ k, Pr k → Pr' k) : StepP B Pr' a b :=
  ⟨h.below, fun j hj hn => h.rest j hj (fun e => hn (hp j e))⟩

variable {F : Fence} {n : Nat} {P : Program}

theorem wpIn_rangeP {g : Operand} {ps : Array Tmp} {assign body : Code} {Q : Exit → Act → World → Prop} {a : Act} {w : World}
    (hro : F.round = none) (h1 : 1 ≤ n) {gf : Nat} {lb : Array Value} (hg : a.eval g = .func (.func gf) #[] lb) (hFg : F.fn gf) (eg : ∀ args w, (callFunc gf args).run P w = .ok (.enter gf args) w)
    {B : Nat} {Pr0 : Nat → Prop} {S Sp : List Int → Prop} {N : Nat} (hseq : SeqP F (n - 1) P gf lb B Pr0 S Sp N w) (hB : B ≤ w.heap.size) (hPr : ∀ k, Pr0 k → k < w.heap.size) (hps : ps.size = 1)
    (I : (Nat → Prop) → List Int → World → Prop) (Ix : Code → (Nat → Prop) → List Int → World → Prop) (hI : AbP B I) (hIx : ∀ c, AbP B (Ix c)) (h0 : I Pr0 [] w) (a₁ : Int → Act)
    (hassign : ∀ (l : Nat) (x : Int) (W : World) (K : Act → World → Prop), K (a₁ x) W →
      assign.wpIn (F.inRound l) (n - 1 - 1) P (Exit.then K (fun _ _ _ => False)) { tmps := (ps.zip #[Value.int .i64 x]).foldl (fun t (p, v) => t.setIfInBounds p v) a.tmps, defers := [] } W)
    (hbody : ∀ (l : Nat) (Pr : Nat → Prop) (pre : List Int) (x : Int) (W : World), I Pr pre W → pre.length < N → body.wpIn (F.inRound l) (n - 1 - 1) P (postP B I Ix Pr (pre ++ [x]) W) (a₁ x) W)
    (hdone : ∀ (D : Nat) (Pr : Nat → Prop) (xs : List Int) (W : World), w.heap.size ≤ D → S xs → I Pr xs W → W.heap[D]? = some (.deferred (some [])) → Q .normal { a with defers := { target := .collected D, args := #[] } :: a.defers } W)
    (hstop : ∀ (D : Nat) (c : Code) (Pr : Nat → Prop) (pre : List Int) (W : World), w.heap.size ≤ D → Sp pre → Ix c Pr pre W → W.heap[D]? = some (.deferred (some [])) → c.wpIn F n P Q { a with defers := { target := .collected D, args := #[] } :: a.defers } W) :
    (Code.rangeFunc g ps assign body).wpIn F n P Q a w := by
  refine wpIn_rangeFunc fun fn hfn => ?_
  rw [hro]
  obtain ⟨D, hD⟩ : ∃ D, D = w.heap.size := ⟨_, rfl⟩
  obtain ⟨L, hL⟩ : ∃ L, L = w.heap.size + 1 := ⟨_, rfl⟩
  obtain ⟨rec, hrec⟩ : ∃ rec : LoopState → Option Code → Loop, rec = fun st pe => { state := st, pending := pe, fn, tmps := a.tmps, params := ps, assign, body, defers := w.heap.size } := ⟨_, rfl⟩
  obtain ⟨W1, hW1⟩ : ∃ W1, W1 = (w.alloc (.deferred (some []))).alloc (.loop (rec .ready none)) := ⟨_, rfl⟩
  have recL : W1.heap[L]? = some (.loop (rec .ready none)) := by
    rw [hW1, hL]; have := World.alloc_heap_new (w.alloc (.deferred (some []))) (.loop (rec .ready none)); rwa [World.size_alloc] at this
  have recD : W1.heap[D]? = some (.deferred (some [])) := by
    rw [hW1, hD]; exact (Below.heap_alloc _ _ _ (by simp)).trans (World.alloc_heap_new w _)
  have st1 : StepP B Pr0 w W1 := by rw [hW1]; exact (stepP_alloc w _ hB).trans (stepP_alloc _ _ (by simp; omega))
  have hb1 : Below w.heap.size w W1 := by rw [hW1]; exact ((Below.refl _ w).alloc (Nat.le_refl _) _).alloc (by simp) _
  have hDL : D ≠ L := by omega
  have hBD : B ≤ D := by omega
  have hBL : B ≤ L := by omega
  have hwD : w.heap.size ≤ D := by omega
  refine ⟨L, [{ target := .collected D, args := #[] }], W1, { target := .fn (.func gf) lb, args := #[.func (.yield L) #[] #[]] }, W1, gf, #[.func (.yield L) #[] #[]] ++ lb, W1, ?_, ?_, ?_, ?_, fun _ => h1, ?_⟩
  · rw [hW1, hrec, hL, hD]; exact run_enterLoop_outer _ _ _ _ _
  · simp only [resolve, hg]
    simp [go_sem]
  · intro f' hf'; simp [Target.leads] at hf'; subst hf'; exact hFg
  · simp [invoke, go_sem, eg]
  have lt_of : ∀ {X : World} {k : Nat} {o : Obj}, X.heap[k]? = some o → k < X.heap.size := fun h => (Array.getElem?_eq_some_iff.1 h).1
  refine (hseq L (fun Pr pre W => I (fun k => Pr k ∨ k = L ∨ k = D) pre W ∧ (W.heap[L]? = some (.loop (rec .ready none)) ∧ W.heap[D]? = some (.deferred (some []))) ∧ ¬ Pr L ∧ ¬ Pr D)
    (fun Pr pre W => ∃ c, Ix c (fun k => Pr k ∨ k = L ∨ k = D) pre W ∧ (W.heap[L]? = some (.loop (rec .done (some c))) ∧ W.heap[D]? = some (.deferred (some []))) ∧ ¬ Pr L ∧ ¬ Pr D)
    W1 hb1 ?_ ?_ ?_ ?_).mono ?_
  · rintro Pr Pr' pre X X' ⟨hi, ⟨hl, hd⟩, nl, nd⟩ hs hp
    refine ⟨hI _ _ _ _ _ hi (hs.widen fun k hk => .inl hk) (fun k hk => ?_), ⟨(hs.rest L (lt_of hl) nl).trans hl, (hs.rest D (lt_of hd) nd).trans hd⟩, fun h => ?_, fun h => ?_⟩
    · rcases hk with hk | hk | hk
      · exact (hp k hk).imp .inl id
      · exact .inl (.inr (.inl hk))
      · exact .inl (.inr (.inr hk))
    · rcases hp L h with h | h
      · exact nl h
      · have := lt_of hl; omega
    · rcases hp D h with h | h
      · exact nd h
      · have := lt_of hd; omega
  · rintro Pr Pr' pre X X' ⟨c, hi, ⟨hl, hd⟩, nl, nd⟩ hs hp
    refine ⟨c, hIx c _ _ _ _ _ hi (hs.widen fun k hk => .inl hk) (fun k hk => ?_), ⟨(hs.rest L (lt_of hl) nl).trans hl, (hs.rest D (lt_of hd) nd).trans hd⟩, fun h => ?_, fun h => ?_⟩
    · rcases hk with hk | hk | hk
      · exact (hp k hk).imp .inl id
      · exact .inl (.inr (.inl hk))
      · exact .inl (.inr (.inr hk))
    · rcases hp L h with h | h
      · exact nl h
      · have := lt_of hl; omega
    · rcases hp D h with h | h
      · exact nd h
      · have := lt_of hd; omega
  · rintro Pr pre x W ⟨hi, ⟨hl, hd⟩, nl, nd⟩ hlen
    have hy := run_yield (P := P) (args := #[Value.int .i64 x]) hl (by rw [hrec]; exact hps.symm)
    rw [hrec] at hy
    refine ⟨fn, _, assign, body, hy, roundIn_of_wpIn hfn (hassign _ x W _ ⟨_, run_beginRound hl (by rw [hrec]), ?_⟩)⟩
    obtain ⟨W2, hW2⟩ : ∃ W2, W2 = W.putObj L (.loop { rec .ready none with state := .busy }) := ⟨_, rfl⟩
    rw [← hW2]
    have l2 : W2.heap[L]? = some (.loop { rec .ready none with state := .busy }) := by rw [hW2]; exact World.putObj_heap_same (lt_of hl)
    have o2 : ∀ k, k ≠ L → W2.heap[k]? = W.heap[k]? := fun k hk => by rw [hW2]; exact World.putObj_heap_other hk
    have i2 : I (fun k => Pr k ∨ k = L ∨ k = D) pre W2 := by
      rw [hW2]; exact hI _ _ _ _ _ hi (stepP_put W _ hBL (.inr (.inl rfl))) (fun k hk => .inl hk)
    have b2 : Below B W W2 := by rw [hW2]; exact below_put W _ hBL
    refine wpIn_mono (hbody L _ pre x W2 i2 hlen) ?_
    have fin : ∀ (jump : Option Code) (W3 : World), KeepP B (fun k => Pr k ∨ k = L ∨ k = D) W2 W3 →
        (Instr.endRound L jump).run P W3 = .ok (.bool jump.isNone) (W3.putObj L (.loop (rec (if jump.isNone then .ready else .done) jump))) ∧
        (W3.putObj L (.loop (rec (if jump.isNone then .ready else .done) jump))).heap[L]? = some (.loop (rec (if jump.isNone then .ready else .done) jump)) ∧
        (W3.putObj L (.loop (rec (if jump.isNone then .ready else .done) jump))).heap[D]? = some (.deferred (some [])) := fun jump W3 hk => by
      have l3 := (hk.kept L (lt_of l2) (.inr (.inl rfl))).trans l2
      have d3 := (hk.kept D (lt_of ((o2 D hDL).trans hd)) (.inr (.inr rfl))).trans ((o2 D hDL).trans hd)
      have := run_endRound (P := P) jump l3
      rw [hrec] at this ⊢
      exact ⟨this, World.putObj_heap_same (lt_of l3), (World.putObj_heap_other hDL).trans d3⟩
    have put3 : ∀ (W3 : World) (o : Obj), StepP B (fun k => Pr k ∨ k = L ∨ k = D) W3 (W3.putObj L o) := fun W3 o => stepP_put W3 o hBL (.inr (.inl rfl))
    rintro e a3 W3 hp
    cases e with
    | normal =>
      obtain ⟨hk, hi3⟩ := hp
      obtain ⟨hr, l4, d4⟩ := fin none W3 hk
      refine ⟨_, _, hr, .inl ⟨rfl, ⟨hI _ _ _ _ _ hi3 (put3 W3 _) (fun k hk => .inl hk), ⟨l4, d4⟩, nl, nd⟩, (b2.trans hk.below).trans (below_put W3 _ hBL), fun k hlk hPk => ?_⟩⟩
      have hkL : k ≠ L := fun e => nl (by rw [← e]; exact hPk)
      exact (World.putObj_heap_other hkL).trans ((hk.kept k (Nat.lt_of_lt_of_le hlk b2.size) (.inl hPk)).trans (o2 k hkL))
    | ret =>
      obtain ⟨hk, hi3⟩ := hp
      obtain ⟨hr, l4, d4⟩ := fin (some .ret) W3 hk
      exact ⟨_, _, hr, .inr ⟨rfl, .ret, hIx _ _ _ _ _ _ hi3 (put3 W3 _) (fun k hk => .inl hk), ⟨l4, d4⟩, nl, nd⟩⟩
    | exit id =>
      obtain ⟨hk, hi3⟩ := hp
      obtain ⟨hr, l4, d4⟩ := fin (some (.exit id)) W3 hk
      exact ⟨_, _, hr, .inr ⟨rfl, .exit id, hIx _ _ _ _ _ _ hi3 (put3 W3 _) (fun k hk => .inl hk), ⟨l4, d4⟩, nl, nd⟩⟩
    | goto t =>
      obtain ⟨hk, hi3⟩ := hp
      obtain ⟨hr, l4, d4⟩ := fin (some (.goto t)) W3 hk
      exact ⟨_, _, hr, .inr ⟨rfl, .goto t, hIx _ _ _ _ _ _ hi3 (put3 W3 _) (fun k hk => .inl hk), ⟨l4, d4⟩, nl, nd⟩⟩
    | panic ch => exact hp.elim
    | outgrown => exact hp.elim
  · have hW1s : W1.heap.size = w.heap.size + 2 := by rw [hW1]; simp
    refine ⟨hI _ _ _ _ _ h0 st1 (fun k hk => ?_), ⟨recL, recD⟩, fun h => ?_, fun h => ?_⟩
    · rcases hk with hk | hk | hk
      · exact .inl hk
      · exact .inr (by omega)
      · exact .inr (by omega)
    · have := hPr L h; omega
    · have := hPr D h; omega
  · rintro e W2 ⟨⟨v, rfl⟩, (⟨Pr, xs, hS, hi, ⟨hl, hd⟩, _, _⟩ | ⟨Pr, pre, hSp, c, hi, ⟨hl, hd⟩, _, _⟩)⟩
    · exact ⟨none, _, by have := run_endLoop (P := P) hl (by rw [hrec]; simp); rw [hrec] at this; exact this,
        hdone D _ xs _ hwD hS (hI _ _ _ _ _ hi (stepP_put W2 _ hBL (.inr (.inl rfl))) (fun k hk => .inl hk)) ((World.putObj_heap_other hDL).trans hd)⟩
    · exact ⟨some c, _, by have := run_endLoop (P := P) hl (by rw [hrec]; simp); rw [hrec] at this; exact this,
        hstop D c _ pre _ hwD hSp (hIx c _ _ _ _ _ hi (stepP_put W2 _ hBL (.inr (.inl rfl))) (fun k hk => .inl hk)) ((World.putObj_heap_other hDL).trans hd)⟩

end Go.Proofs.YtgelojhpanbnaaaGreatDoor

namespace Go.Proofs.YtgelojhpanbnaaaGreatDoor
open Go.RowKit

end Go.Proofs.YtgelojhpanbnaaaGreatDoor

namespace Go.Proofs.YtgelojhpanbnaaaGreatDoor

end Go.Proofs.YtgelojhpanbnaaaGreatDoor

namespace Go.Proofs.YtgelojhpanbnaaaGreatDoor
open Go.RowKit
set_option linter.unusedSimpArgs false
set_option linter.unusedVariables false

set_option maxHeartbeats 1000000 in
theorem rrises_any (v : Value) (L : List Int) (w : World) (hL : IntsR w v L) :
    Calls Tryz.prog 115 #[v] w fun e w' => e = .returned (.bool (risesB L)) ∧ Below w.heap.size w w' := by
  obtain ⟨a, cap, rfl, hc1, hc2, hcell⟩ := intsR_open hL
  unfold maxLen at hc2
  have HC := Lib.hid hcell; clear hcell hL
  go_enter Tryz.func115, Tryz.ntmps115
  go_wp2
  go_loopg [3] L.length (fun g i wr => ∃ k : Nat, 1 ≤ k ∧ k ≤ L.length + 1 ∧ i = .int .i64 k ∧ Hid ((L.take k).Pairwise (· < ·)) ∧ g = L.length + 1 - k ∧ Below w.heap.size w wr)
  case atStart => exact ⟨1, by omega, by omega, rfl, Lib.hid (by cases L <;> simp), by omega, Below.refl _ _⟩
  case round =>
    obtain ⟨k, hk1, hk, rfl, hS, hg, hb⟩ := hrel
    have G := Lib.hid hg; clear hg
    by_cases hlt : k < L.length
    · obtain ⟨b, off, rfl, hcs⟩ := HC.out (by omega)
      have hkm : k - 1 < L.length := by omega
      have c0 := cell_below hb (hcs k hlt)
      have d0 := cell_below hb (hcs (k - 1) hkm)
      obtain ⟨x, hx⟩ : ∃ x, x = L[k] := ⟨_, rfl⟩
      obtain ⟨p, hp⟩ : ∃ p, p = L[k - 1] := ⟨_, rfl⟩
      rw [← hx] at c0; rw [← hp] at d0
      have X := Lib.hid hx; have P := Lib.hid hp; have B := Lib.hid hb
      clear hx hp hcs hb
      have i1 : (0 : Int) ≤ (k : Int) := Int.natCast_nonneg _
      have i2 : (k : Int) < (L.length : Int) := by omega
      by_cases he : p < x
      · have E := Lib.hid (pw_snoc hlt (by omega) hS.out (by rw [← X.out, ← P.out]; exact he))
        have t1 : decide (x ≤ p) = false := decide_eq_false (by omega)
        clear he
        go_wp2
        have s1 : IntKind.i64.wrap ((k : Int) - 1) = (k : Int) - 1 := IntWalk.i64_in _ (by omega)
        have s2 : (0 : Int) ≤ (k : Int) - 1 := by omega
        have s3 : (1 : Int) ≤ (k : Int) := by omega
        have s4 : ((k : Int) - 1).toNat = k - 1 := by omega
        have s5 : (k : Int) - 1 < (L.length : Int) := by omega
        go_quiet (fail)
        clear s1 s2 s3 s4 s5
        go_wp2
        go_roundg (L.length + 1 - (k + 1))
        case measure => rw [G.out]; omega
        case rel => exact ⟨k + 1, by omega, by omega, by go_num, E, rfl, below_drewN B.out _⟩
      · have E := Lib.hid (risesB_no hlt (by omega) (by rw [← X.out, ← P.out]; omega))
        have t1 : decide (x ≤ p) = true := decide_eq_true (by omega)
        clear he
        go_wp2
        have s1 : IntKind.i64.wrap ((k : Int) - 1) = (k : Int) - 1 := IntWalk.i64_in _ (by omega)
        have s2 : (0 : Int) ≤ (k : Int) - 1 := by omega
        have s3 : (1 : Int) ≤ (k : Int) := by omega
        have s4 : ((k : Int) - 1).toNat = k - 1 := by omega
        have s5 : (k : Int) - 1 < (L.length : Int) := by omega
        go_quiet (fail)
        clear s1 s2 s3 s4 s5
        go_wp2
        go_ret
        exact ⟨by rw [E.out]; rfl, below_drewN B.out _⟩
    · have E := Lib.hid (risesB_yes (L := L) (by have := hS.out; rwa [List.take_of_length_le (by omega)] at this))
      have B := Lib.hid hb
      have hge : ¬ (k : Int) < (L.length : Int) := by omega
      clear hS hb
      go_wp2
      go_ret
      exact ⟨by rw [E.out]; rfl, B.out⟩

end Go.Proofs.YtgelojhpanbnaaaGreatDoor
