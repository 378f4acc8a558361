/- Contract of slices.Concat at three lists of numbers (of at most 100 each). -/
import Derived.Test.YtkpmddlinlcobaaDoorPerE
import Derived.Test.YtkpmddlinlcobaaDoorShGrowI
namespace Go.Proofs.YtkpmddlinlcobaaDoor
open Go.RowKit Go.Shelf
set_option linter.unusedSimpArgs false
set_option linter.unusedVariables false

theorem run_append_zeroI {P : Program} {w : World} (base : Nat) (t ty e : TypeId) (i : TypeInfo) (size : Nat) (ht : P.underlying t = some (.slice e)) (hi : P.info? e = some i)
    (v : Value) (n : Nat) (xs : List Value) (hown : w.ownsRow base e size v n xs) (p : Option Addr) (c : Nat) :
    (Builtin.append_ #[t, t] ty #[v, .slice p 0 c]).run P w = .ok v w := by
  rcases hown.2 with ⟨rfl, rfl⟩ | ⟨g, cap, cur, rfl, _, _, hnc, _⟩
  · cases p <;> simp [Builtin.append_, run_underlying ht, sizeOf, typeInfo, hi, Builtin.lenOf, Builtin.firstCells, loadCells, loadCellsFrom]
  · cases p <;> simp [Builtin.append_, run_underlying ht, sizeOf, typeInfo, hi, Builtin.lenOf, Builtin.firstCells, hnc, storeCells, loadCells, loadCellsFrom]

theorem wpList_append_zeroI {P : Program} {w : World} {ops : Array Oper} {rest : List Oper} {o : Oper} {a : Act} {Q : Exit → Act → World → Prop} (hgd : o.guard = none) (s x : Operand) (t : TypeId)
    (ho : o.op = .call { callee := .builtin .append, args := #[s, x], argTypes := #[t, t] })
    (base : Nat) (e : TypeId) (i : TypeInfo) (size : Nat) (ht : P.underlying t = some (.slice e)) (hi : P.info? e = some i)
    (v : Value) (n : Nat) (xs : List Value) (hs : a.eval s = v) (hown : w.ownsRow base e size v n xs) (p : Option Addr) (c : Nat) (hx : a.eval x = .slice p 0 c)
    (h : wpList P ops Q rest (a.put o.dst v) w) : wpList P ops Q (o :: rest) a w := by
  refine wpList_plain hgd fun K hK => ?_
  have hrun := run_append_zeroI (P := P) (w := w) base t o.type e i size ht hi v n xs hown p c
  unfold Oper.wp
  simp [execOp, ho, resolve, invoke, builtin, hs, hx, hrun, Result.andThen]
  exact hK _ _ h

/-- append of one list of numbers to a row of our own. -/
theorem wpList_append_ints {w : World} {ops : Array Oper} {rest : List Oper} {o : Oper} {a : Act} {Q : Exit → Act → World → Prop} (hgd : o.guard = none) (s x : Operand)
    (ho : o.op = .call { callee := .builtin .append, args := #[s, x], argTypes := #[22, 22] })
    (base : Nat) (v vx : Value) (O L : List Int) (hs : a.eval s = v) (hx : a.eval x = vx) (hown : w.ownsRow base 3 1 v O.length (O.map (Value.int .i64))) (hL : IntsR w vx L)
    (hbase : base ≤ w.heap.size) (hO : O.length ≤ 4398046511104) (hl : L.length ≤ 4398046511104)
    (h : ∀ v' w', w'.ownsRow base 3 1 v' (O ++ L).length ((O ++ L).map (Value.int .i64)) → Below base w w' → wpList Tryd.prog ops Q rest (a.put o.dst v') w') : wpList Tryd.prog ops Q (o :: rest) a w := by
  obtain ⟨i0, hi, hz0, hz1, hz2⟩ := info_parts intInfoP
  obtain ⟨p, cap, rfl, h1, h2, h3, h4⟩ := hL
  by_cases h0 : L.length = 0
  · obtain rfl : L = [] := List.length_eq_zero_iff.1 h0
    refine wpList_append_zeroI hgd s x _ ho base 3 i0 1 Tryd.underlying22 hi v O.length _ hs hown p cap hx (h _ _ (by rw [List.append_nil]; exact hown) (Below.refl _ _))
  · obtain ⟨b, off, rfl, hc⟩ := h4 (by omega)
    refine wpList_append_lies _ hgd s x _ ho base 3 i0 _ 1 8 Tryd.underlying22 hi hz0 hz1 hz2 rfl (by decide) v O.length _ hs hown ⟨b, off, none⟩ L.length cap (L.map (Value.int .i64)) hx (by simp) (fun j u hu => ?_) (fun u hu => ?_) (by omega) (by unfold maxLen; omega) (by omega) hbase _ rfl ?_
    · have hadd : (⟨b, off, none⟩ : Addr).add j = ⟨b, off + j, none⟩ := by unfold Addr.add; split <;> simp_all
      rw [hadd]; exact hc j u hu
    · obtain ⟨q, _, hq⟩ := List.mem_map.1 hu
      subst hq; rfl
    · intro g c2 w' hown' hg _ _
      refine h _ w' ?_ ((Below.refl _ _).grown hg hbase (ownBlock_ge hown))
      rw [List.length_append, List.map_append]
      exact hown'

/-- room for so many: a row of our own, or none, of no elements. -/
theorem growI_any (n : Nat) (hn : n ≤ 1000) (w : World) :
    Calls Tryd.prog 43 #[.slice none 0 0, .int .i64 n] w fun e w' => ∃ v, e = .returned v ∧ w'.ownsRow w.heap.size 3 1 v 0 [] ∧ Below w.heap.size w w' := by
  by_cases h0 : n = 0
  · subst h0
    refine (Any8.slices_Grow_room Tryd.growInt none 0 0 0 w (Nat.le_refl _) (by decide) (by decide) (Nat.le_refl _)).mono ?_
    rintro e w' ⟨rfl, rfl⟩
    exact ⟨_, rfl, World.ownsRow_nil _ _ _ _, Below.refl _ _⟩
  · obtain ⟨i0, hi, hz0, hz1, hz2⟩ := info_parts intInfoP
    refine (Any8.slices_Grow_grow Tryd.growInt i0 _ hi hz0 (by rw [hz1]; decide) none 0 0 n [] w (Nat.le_refl _) (by omega) (by rw [hz2]; omega) (by omega) (by simp) (fun _ => rfl) (fun a h => by cases h)).mono ?_
    rintro e w' ⟨rfl, rfl⟩
    refine ⟨_, rfl, ?_, ?_⟩
    · have h1 := grownCap_ge w (0 + n) 0 3
      have h2 := grownCap_le_maxLen w (0 + n) 0 3 (by unfold maxLen; omega)
      have hr : Tryd.growInt_ren.t 25 = 3 := rfl
      rw [hr]
      obtain ⟨G, hG⟩ : ∃ G, G = grownCap w (0 + n) 0 3 := ⟨_, rfl⟩
      rw [← hG] at h1 h2 ⊢
      refine ⟨rfl, .inr ⟨w.heap.size, G, _, rfl, Nat.le_refl _, heap_alloc_new w.drew _, Nat.zero_le _, h2, ?_, by simp⟩⟩
      rw [Array.size_append, Array.size_append, size_zeroCells, size_zeroCells]
      simp [Value.cells]
      omega
    · exact ((Below.refl _ _).drew).alloc (Nat.le_refl _) _

set_option maxRecDepth 100000 in
set_option maxHeartbeats 4000000 in
theorem concat3_any (va vb vd : Value) (A B D : List Int) (p : Nat) (w : World) (hA : IntsR w va A) (hB : IntsR w vb B) (hD : IntsR w vd D) (c0 : w.cell? ⟨p, 0, none⟩ = some va) (c1 : w.cell? ⟨p, 1, none⟩ = some vb) (c2 : w.cell? ⟨p, 2, none⟩ = some vd) (lA : A.length ≤ 100) (lB : B.length ≤ 100) (lD : D.length ≤ 100) :
    Calls Tryd.prog 17 #[.slice (some ⟨p, 0, none⟩) 3 3] w fun e w' => ∃ v, e = .returned v ∧ IntsR w' v (A ++ B ++ D) ∧ Below w.heap.size w w' := by
  have HA := Lib.hid hA
  have HB := Lib.hid hB
  have HD := Lib.hid hD
  obtain ⟨aa, ac, rfl, _, ka, _⟩ := intsR_open hA
  obtain ⟨ba, bc, rfl, _, kb, _⟩ := intsR_open hB
  obtain ⟨da, dc, rfl, _, kd, _⟩ := intsR_open hD
  unfold maxLen at ka kb kd
  clear hA hB hD
  have C0 := Lib.hid c0; have C1 := Lib.hid c1; have C2 := Lib.hid c2
  have a0 : (0 : Int) ≤ (A.length : Int) := Int.natCast_nonneg _
  have b0 : (0 : Int) ≤ (B.length : Int) := Int.natCast_nonneg _
  have d0 : (0 : Int) ≤ (D.length : Int) := Int.natCast_nonneg _
  have sab : ((A.length + B.length + D.length : Nat) : Int) = (A.length : Int) + (B.length : Int) + (D.length : Int) := by push_cast; rfl
  have SAB := Lib.hid sab
  clear sab
  go_enter Tryd.func17, Tryd.ntmps17
  go_wp2
  go_loopg [3, 11] 3 (fun g sv i wr => ((i = .int .i64 0 ∧ sv = .int .i64 0 ∧ g = 3) ∨ (i = .int .i64 1 ∧ sv = .int .i64 A.length ∧ g = 2) ∨ (i = .int .i64 2 ∧ sv = .int .i64 ((A.length : Int) + (B.length : Int)) ∧ g = 1) ∨ (i = .int .i64 3 ∧ sv = .int .i64 ((A.length : Int) + (B.length : Int) + (D.length : Int)) ∧ g = 0)) ∧ w = wr)
  case atStart => exact ⟨.inl ⟨rfl, rfl, rfl⟩, rfl⟩
  case round =>
    obtain ⟨⟨rfl, rfl, hg⟩ | ⟨rfl, rfl, hg⟩ | ⟨rfl, rfl, hg⟩ | ⟨rfl, rfl, hg⟩, rfl⟩ := hrel
    · subst hg
      go_wp2
      go_roundg 2
      case measure => omega
      case rel => exact ⟨.inr (.inl ⟨rfl, by first | rfl | go_num | simp, rfl⟩), rfl⟩
    · subst hg
      go_wp2
      go_roundg 1
      case measure => omega
      case rel => exact ⟨.inr (.inr (.inl ⟨rfl, by first | rfl | go_num | simp, rfl⟩)), rfl⟩
    · subst hg
      go_wp2
      go_roundg 0
      case measure => omega
      case rel => exact ⟨.inr (.inr (.inr ⟨rfl, by first | rfl | go_num | simp, rfl⟩)), rfl⟩
    · subst hg
      go_wp2_with fail
      rw [← SAB.out]
      refine (growI_any (A.length + B.length + D.length) (by omega) _).mono ?_; rintro e w1 ⟨v, rfl, hown, hb⟩
      have OW := Lib.hid hown
      have BW := Lib.hid hb
      clear hown hb c0 c1 c2
      go_wp2
      go_loopg [6, 27] 3 (fun g sv i wr => ∃ O : List Int, ((i = .int .i64 0 ∧ O = [] ∧ g = 3) ∨ (i = .int .i64 1 ∧ O = A ∧ g = 2) ∨ (i = .int .i64 2 ∧ O = A ++ B ∧ g = 1) ∨ (i = .int .i64 3 ∧ O = A ++ B ++ D ∧ g = 0)) ∧ wr.ownsRow w.heap.size 3 1 sv O.length (O.map (Value.int .i64)) ∧ Below w.heap.size w wr)
      case atStart => exact ⟨[], .inl ⟨rfl, rfl, rfl⟩, OW.out, BW.out⟩
      case round =>
        obtain ⟨O, h, hown, hb⟩ := hrel
        have OW := Lib.hid hown
        have BW := Lib.hid hb
        have hbs := hb.size
        have c0 := cell_below hb C0.out
        have c1 := cell_below hb C1.out
        have c2 := cell_below hb C2.out
        clear hown hb
        obtain ⟨rfl, rfl, hg⟩ | ⟨rfl, rfl, hg⟩ | ⟨rfl, rfl, hg⟩ | ⟨rfl, rfl, hg⟩ := h
        · subst hg
          go_wp2_with (at_builtin; refine wpList_append_ints rfl _ _ rfl w.heap.size _ _ [] A rfl rfl OW.out (HA.out.below BW.out) hbs (by simp) (by omega) ?_)
          intro v' w' hown' hb'
          have B9 := Lib.hid (BW.out.trans hb')
          have O9 := Lib.hid hown'
          clear hown' hb'
          go_wp2
          go_roundg 2
          case measure => omega
          case rel => exact ⟨A, .inr (.inl ⟨rfl, rfl, rfl⟩), O9.out, B9.out⟩
        · subst hg
          go_wp2_with (at_builtin; refine wpList_append_ints rfl _ _ rfl w.heap.size _ _ O B rfl rfl OW.out (HB.out.below BW.out) hbs (by omega) (by omega) ?_)
          intro v' w' hown' hb'
          have B9 := Lib.hid (BW.out.trans hb')
          have O9 := Lib.hid hown'
          clear hown' hb'
          go_wp2
          go_roundg 1
          case measure => omega
          case rel => exact ⟨O ++ B, .inr (.inr (.inl ⟨rfl, rfl, rfl⟩)), by rw [List.length_append, List.map_append]; exact O9.out, B9.out⟩
        · subst hg
          go_wp2_with (at_builtin; refine wpList_append_ints rfl _ _ rfl w.heap.size _ _ (A ++ B) D rfl rfl OW.out (HD.out.below BW.out) hbs (by rw [List.length_append]; omega) (by omega) ?_)
          intro v' w' hown' hb'
          have B9 := Lib.hid (BW.out.trans hb')
          have O9 := Lib.hid hown'
          clear hown' hb'
          go_wp2
          go_roundg 0
          case measure => omega
          case rel => exact ⟨A ++ B ++ D, .inr (.inr (.inr ⟨rfl, rfl, rfl⟩)), by rw [List.append_assoc, List.length_append, List.length_append, List.map_append, List.map_append]; exact O9.out, B9.out⟩
        · subst hg
          go_wp2
          go_ret
          exact ⟨_, rfl, ownsRow_reads OW.out, BW.out⟩

end Go.Proofs.YtkpmddlinlcobaaDoor
