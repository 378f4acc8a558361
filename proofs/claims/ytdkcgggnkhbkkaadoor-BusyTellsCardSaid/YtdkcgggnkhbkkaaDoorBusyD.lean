/- Contracts of slices.Concat at stretches (two lists of at most 200) and of busy.Join. -/
import Derived.Test.YtdkcgggnkhbkkaaDoorBusyC
import Derived.Test.YtdkcgggnkhbkkaaDoorShGrow
namespace Go.Proofs.YtdkcgggnkhbkkaaDoor
open Go.RowKit Go.Shelf
set_option linter.unusedSimpArgs false
set_option linter.unusedVariables false

theorem run_append_zero {P : Program} {w : World} (base : Nat) (t ty e : TypeId) (i : TypeInfo) (size : Nat) (ht : P.underlying t = some (.slice e)) (hi : P.info? e = some i)
    (v : Value) (n : Nat) (xs : List Value) (hown : w.ownsRow base e size v n xs) (p : Option Addr) (c : Nat) :
    (Builtin.append_ #[t, t] ty #[v, .slice p 0 c]).run P w = .ok v w := by
  rcases hown.2 with ⟨rfl, rfl⟩ | ⟨g, cap, cur, rfl, _, _, hnc, _⟩
  · cases p <;> simp [Builtin.append_, run_underlying ht, sizeOf, typeInfo, hi, Builtin.lenOf, Builtin.firstCells, loadCells, loadCellsFrom]
  · cases p <;> simp [Builtin.append_, run_underlying ht, sizeOf, typeInfo, hi, Builtin.lenOf, Builtin.firstCells, hnc, storeCells, loadCells, loadCellsFrom]

theorem wpList_append_zero {P : Program} {w : World} {ops : Array Oper} {rest : List Oper} {o : Oper} {a : Act} {Q : Exit → Act → World → Prop} (hgd : o.guard = none) (s x : Operand) (t : TypeId)
    (ho : o.op = .call { callee := .builtin .append, args := #[s, x], argTypes := #[t, t] })
    (base : Nat) (e : TypeId) (i : TypeInfo) (size : Nat) (ht : P.underlying t = some (.slice e)) (hi : P.info? e = some i)
    (v : Value) (n : Nat) (xs : List Value) (hs : a.eval s = v) (hown : w.ownsRow base e size v n xs) (p : Option Addr) (c : Nat) (hx : a.eval x = .slice p 0 c)
    (h : wpList P ops Q rest (a.put o.dst v) w) : wpList P ops Q (o :: rest) a w := by
  refine wpList_plain hgd fun K hK => ?_
  have hrun := run_append_zero (P := P) (w := w) base t o.type e i size ht hi v n xs hown p c
  unfold Oper.wp
  simp [execOp, ho, resolve, invoke, builtin, hs, hx, hrun, Result.andThen]
  exact hK _ _ h

/-- room for so many: a row of our own, or none, of no elements. -/
theorem growB_any (n : Nat) (hn : n ≤ 1000) (w : World) :
    Calls Tryd.prog 113 #[.slice none 0 0, .int .i64 n] w fun e w' => ∃ v, e = .returned v ∧ w'.ownsRow w.heap.size 41 2 v 0 [] ∧ Below w.heap.size w w' := by
  by_cases h0 : n = 0
  · subst h0
    refine (Any8.slices_Grow_room Tryd.growBusy none 0 0 0 w (Nat.le_refl _) (by decide) (by decide) (Nat.le_refl _)).mono ?_
    rintro e w' ⟨rfl, rfl⟩
    exact ⟨_, rfl, World.ownsRow_nil _ _ _ _, Below.refl _ _⟩
  · obtain ⟨i0, hi, hz0, hz1, hz2⟩ := info_parts busyInfo
    refine (Any8.slices_Grow_grow Tryd.growBusy i0 _ hi hz0 (by rw [hz1]; decide) none 0 0 n [] w (Nat.le_refl _) (by omega) (by rw [hz2]; omega) (by omega) (by simp) (fun _ => rfl) (fun a h => by cases h)).mono ?_
    rintro e w' ⟨rfl, rfl⟩
    refine ⟨_, rfl, ?_, ?_⟩
    · have h1 := grownCap_ge w (0 + n) 0 41
      have h2 := grownCap_le_maxLen w (0 + n) 0 41 (by unfold maxLen; omega)
      have hr : Tryd.growBusy_ren.t 25 = 41 := rfl
      rw [hr]
      obtain ⟨G, hG⟩ : ∃ G, G = grownCap w (0 + n) 0 41 := ⟨_, rfl⟩
      rw [← hG] at h1 h2 ⊢
      refine ⟨rfl, .inr ⟨w.heap.size, G, _, rfl, Nat.le_refl _, heap_alloc_new w.drew _, Nat.zero_le _, h2, ?_, by simp⟩⟩
      rw [Array.size_append, Array.size_append, size_zeroCells, size_zeroCells]
      simp [Value.cells]
      omega
    · exact ((Below.refl _ _).drew).alloc (Nat.le_refl _) _

/-- append of one list of stretches to a row of our own. -/
theorem wpList_append_pairs {w : World} {ops : Array Oper} {rest : List Oper} {o : Oper} {a : Act} {Q : Exit → Act → World → Prop} (hgd : o.guard = none) (s x : Operand)
    (ho : o.op = .call { callee := .builtin .append, args := #[s, x], argTypes := #[37, 37] })
    (base : Nat) (v vx : Value) (O L : List (Int × Int)) (hs : a.eval s = v) (hx : a.eval x = vx) (hown : w.ownsRow base 41 2 v O.length (pairsV O)) (hL : PairsR w vx L)
    (hbase : base ≤ w.heap.size) (hO : O.length ≤ 10000) (hl : L.length ≤ 10000)
    (h : ∀ v' w', w'.ownsRow base 41 2 v' (O ++ L).length (pairsV (O ++ L)) → Below base w w' → wpList Tryd.prog ops Q rest (a.put o.dst v') w') : wpList Tryd.prog ops Q (o :: rest) a w := by
  obtain ⟨i0, hi, hz0, hz1, hz2⟩ := info_parts busyInfo
  obtain ⟨p, cap, rfl, h1, h2, h3, h4⟩ := hL
  by_cases h0 : L.length = 0
  · obtain rfl : L = [] := List.length_eq_zero_iff.1 h0
    refine wpList_append_zero hgd s x _ ho base 41 i0 2 Tryd.underlying37 hi v O.length (pairsV O) hs hown p cap hx (h _ _ (by rw [List.append_nil]; exact hown) (Below.refl _ _))
  · obtain ⟨b, off, rfl, hc⟩ := h4 (by omega)
    refine wpList_append_lies _ hgd s x _ ho base 41 i0 _ 2 16 Tryd.underlying37 hi hz0 hz1 hz2 rfl (by decide) v O.length (pairsV O) hs hown ⟨b, off, none⟩ L.length cap (pairsV L) hx (pairsV_len L) (fun j u hu => ?_) (fun u hu => ?_) (by omega) (by unfold maxLen; omega) (by omega) hbase _ rfl ?_
    · have hadd : (⟨b, off, none⟩ : Addr).add j = ⟨b, off + j, none⟩ := by unfold Addr.add; split <;> simp_all
      rw [hadd]; exact hc j u hu
    · obtain ⟨q, _, hq⟩ := List.mem_flatMap.1 hu
      simp at hq
      rcases hq with rfl | rfl <;> rfl
    · intro g c2 w' hown' hg _ _
      refine h _ w' ?_ ((Below.refl _ _).grown hg hbase (ownBlock_ge hown))
      rw [List.length_append, show pairsV (O ++ L) = pairsV O ++ pairsV L by simp [pairsV]]
      exact hown'

set_option maxRecDepth 100000 in
set_option maxHeartbeats 4000000 in
theorem concat_any (va vb : Value) (A B : List (Int × Int)) (p : Nat) (w : World) (hA : PairsR w va A) (hB : PairsR w vb B) (c0 : w.cell? ⟨p, 0, none⟩ = some va) (c1 : w.cell? ⟨p, 1, none⟩ = some vb) (lA : A.length ≤ 200) (lB : B.length ≤ 200) :
    Calls Tryd.prog 69 #[.slice (some ⟨p, 0, none⟩) 2 2] w fun e w' => ∃ v, e = .returned v ∧ PairsR w' v (A ++ B) ∧ Below w.heap.size w w' := by
  have HA := Lib.hid hA
  have HB := Lib.hid hB
  obtain ⟨aa, ac, rfl, _, ka, _⟩ := pairsR_open hA
  obtain ⟨ba, bc, rfl, _, kb, _⟩ := pairsR_open hB
  unfold maxLen at ka kb
  clear hA hB
  have C0 := Lib.hid c0; have C1 := Lib.hid c1
  have a0 : (0 : Int) ≤ (A.length : Int) := Int.natCast_nonneg _
  have b0 : (0 : Int) ≤ (B.length : Int) := Int.natCast_nonneg _
  have sab : ((A.length + B.length : Nat) : Int) = (A.length : Int) + (B.length : Int) := Int.natCast_add _ _
  have SAB := Lib.hid sab
  clear sab
  go_enter Tryd.func69, Tryd.ntmps69
  go_wp2
  go_loopg [3, 11] 2 (fun g sv i wr => ((i = .int .i64 0 ∧ sv = .int .i64 0 ∧ g = 2) ∨ (i = .int .i64 1 ∧ sv = .int .i64 A.length ∧ g = 1) ∨ (i = .int .i64 2 ∧ sv = .int .i64 ((A.length : Int) + (B.length : Int)) ∧ g = 0)) ∧ w = wr)
  case atStart => exact ⟨.inl ⟨rfl, rfl, rfl⟩, rfl⟩
  case round =>
    obtain ⟨⟨rfl, rfl, hg⟩ | ⟨rfl, rfl, hg⟩ | ⟨rfl, rfl, hg⟩, rfl⟩ := hrel
    · subst hg
      go_wp2
      go_roundg 1
      case measure => omega
      case rel => exact ⟨.inr (.inl ⟨rfl, by first | rfl | go_num | simp, rfl⟩), rfl⟩
    · subst hg
      go_wp2
      go_roundg 0
      case measure => omega
      case rel => exact ⟨.inr (.inr ⟨rfl, by first | rfl | go_num | simp, rfl⟩), rfl⟩
    · subst hg
      go_wp2_with fail
      rw [← SAB.out]
      refine (growB_any (A.length + B.length) (by omega) _).mono ?_; rintro e w1 ⟨v, rfl, hown, hb⟩
      have OW := Lib.hid hown
      have BW := Lib.hid hb
      clear hown hb c0 c1
      go_wp2
      go_loopg [6, 27] 2 (fun g sv i wr => ∃ O : List (Int × Int), ((i = .int .i64 0 ∧ O = [] ∧ g = 2) ∨ (i = .int .i64 1 ∧ O = A ∧ g = 1) ∨ (i = .int .i64 2 ∧ O = A ++ B ∧ g = 0)) ∧ wr.ownsRow w.heap.size 41 2 sv O.length (pairsV O) ∧ Below w.heap.size w wr)
      case atStart => exact ⟨[], .inl ⟨rfl, rfl, rfl⟩, OW.out, BW.out⟩
      case round =>
        obtain ⟨O, h, hown, hb⟩ := hrel
        have OW := Lib.hid hown
        have BW := Lib.hid hb
        have hbs := hb.size
        have c0 := cell_below hb C0.out
        have c1 := cell_below hb C1.out
        clear hown hb
        obtain ⟨rfl, rfl, hg⟩ | ⟨rfl, rfl, hg⟩ | ⟨rfl, rfl, hg⟩ := h
        · subst hg
          go_wp2_with (at_builtin; refine wpList_append_pairs rfl _ _ rfl w.heap.size _ _ [] A rfl rfl OW.out (HA.out.below BW.out) hbs (by simp) (by omega) ?_)
          intro v' w' hown' hb'
          have B9 := Lib.hid (BW.out.trans hb')
          have O9 := Lib.hid hown'
          clear hown' hb'
          go_wp2
          go_roundg 1
          case measure => omega
          case rel => exact ⟨A, .inr (.inl ⟨rfl, rfl, rfl⟩), O9.out, B9.out⟩
        · subst hg
          go_wp2_with (at_builtin; refine wpList_append_pairs rfl _ _ rfl w.heap.size _ _ O B rfl rfl OW.out (HB.out.below BW.out) hbs (by omega) (by omega) ?_)
          intro v' w' hown' hb'
          have B9 := Lib.hid (BW.out.trans hb')
          have O9 := Lib.hid hown'
          clear hown' hb'
          go_wp2
          go_roundg 0
          case measure => omega
          case rel => exact ⟨O ++ B, .inr (.inr ⟨rfl, rfl, rfl⟩), by rw [List.length_append]; exact O9.out, B9.out⟩
        · subst hg
          go_wp2
          go_ret
          exact ⟨_, rfl, ownsRow_reads OW.out, BW.out⟩

/-- the fault of two lists to be joined. -/
def joinE (A B : List (Int × Int)) : Int := if busyE A = 0 then (if busyE B = 0 then busyE (A ++ B) else busyE B) else busyE A

/-- what busy.Join answers. -/
def JoinP (A B : List (Int × Int)) (w : World) (e : Ending) (w' : World) : Prop :=
  ((joinE A B ≠ 0 ∧ e = .returned (.tuple #[.slice none 0 0, errV (joinE A B)])) ∨ (joinE A B = 0 ∧ ∃ v, e = .returned (.tuple #[v, .nilIface]) ∧ PairsR w' v (normL (A ++ B)))) ∧ Below w.heap.size w w'

set_option maxRecDepth 100000 in
set_option maxHeartbeats 4000000 in
theorem join_any (va vb : Value) (A B : List (Int × Int)) (w : World) (hA : PairsR w va A) (hB : PairsR w vb B) :
    Calls Tryd.prog 23 #[va, vb] w (JoinP A B w) := by
  obtain ⟨w0, hw0⟩ : ∃ w0, w0 = w.alloc (.cells #[va, vb] 37) := ⟨_, rfl⟩
  have W0 := Lib.hid hw0
  have B0 := Lib.hid (show Below w.heap.size w w0 by rw [hw0]; exact (Below.refl _ _).alloc (Nat.le_refl _) _)
  have c0 : w0.cell? ⟨w.heap.size, 0, none⟩ = some va := by rw [hw0]; simp
  have c1 : w0.cell? ⟨w.heap.size, 1, none⟩ = some vb := by rw [hw0]; simp
  have HA := Lib.hid (hA.below B0.out)
  have HB := Lib.hid (hB.below B0.out)
  obtain ⟨aa, ac, rfl, _, ka, _⟩ := pairsR_open hA
  obtain ⟨ba, bc, rfl, _, kb, _⟩ := pairsR_open hB
  unfold maxLen at ka kb
  have C0 := Lib.hid c0; have C1 := Lib.hid c1
  clear hA hB c0 c1 hw0
  obtain ⟨pb, hpb⟩ : ∃ pb, pb = w.heap.size := ⟨_, rfl⟩
  rw [← hpb] at C0 C1
  have PB := Lib.hid hpb
  clear hpb
  go_enter Tryd.func23, Tryd.ntmps23
  go_wp2
  rw [← W0.out, ← PB.out]
  go_loopg [13] 2 (fun g i wr => ((i = .int .i64 0 ∧ g = 2) ∨ (i = .int .i64 1 ∧ g = 1 ∧ Hid (busyE A = 0)) ∨ (i = .int .i64 2 ∧ g = 0 ∧ Hid (busyE A = 0) ∧ Hid (busyE B = 0))) ∧ Below w0.heap.size w0 wr)
  case atStart => exact ⟨.inl ⟨rfl, rfl⟩, Below.refl _ _⟩
  case round =>
    obtain ⟨h, hb⟩ := hrel
    have BW := Lib.hid hb
    have hbs := hb.size
    have c0 := cell_below hb C0.out
    have c1 := cell_below hb C1.out
    have BT := Lib.hid (B0.out.trans (hb.mono B0.out.size))
    have HA2 := Lib.hid (HA.out.below hb)
    have HB2 := Lib.hid (HB.out.below hb)
    clear hb
    obtain ⟨rfl, hg⟩ | ⟨rfl, hg, EA⟩ | ⟨rfl, hg, EA, EB⟩ := h
    · subst hg
      go_wp2_with fail
      refine (bzcheck_any _ A _ HA2.out).mono ?_; rintro e w1 ⟨rfl, hb1⟩
      have B1 := Lib.hid (BW.out.trans (hb1.mono hbs))
      have B9 := Lib.hid (BT.out.trans (hb1.mono BT.out.size))
      clear hb1
      by_cases hE : busyE A = 0
      · have E := Lib.hid (show errV (busyE A) = .nilIface by rw [hE]; rfl)
        have EA := Lib.hid hE
        clear hE
        rw [E.out]
        go_wp2
        go_roundg 1
        case measure => omega
        case rel => exact ⟨.inr (.inl ⟨rfl, rfl, EA⟩), B1.out⟩
      · have E := Lib.hid (show errV (busyE A) = .iface 108 (.int .i64 (busyE A)) by rw [errV, if_neg hE])
        have J := Lib.hid (show joinE A B = busyE A by rw [joinE, if_neg hE])
        have HE := Lib.hid hE
        clear hE
        rw [E.out]
        go_wp2
        go_ret2
        exact ⟨.inl ⟨by rw [J.out]; exact HE.out, by rw [J.out, E.out]; rfl⟩, B9.out⟩
    · subst hg
      go_wp2_with fail
      refine (bzcheck_any _ B _ HB2.out).mono ?_; rintro e w1 ⟨rfl, hb1⟩
      have B1 := Lib.hid (BW.out.trans (hb1.mono hbs))
      have B9 := Lib.hid (BT.out.trans (hb1.mono BT.out.size))
      clear hb1
      by_cases hE : busyE B = 0
      · have E := Lib.hid (show errV (busyE B) = .nilIface by rw [hE]; rfl)
        have EB := Lib.hid hE
        clear hE
        rw [E.out]
        go_wp2
        go_roundg 0
        case measure => omega
        case rel => exact ⟨.inr (.inr ⟨rfl, rfl, EA, EB⟩), B1.out⟩
      · have E := Lib.hid (show errV (busyE B) = .iface 108 (.int .i64 (busyE B)) by rw [errV, if_neg hE])
        have J := Lib.hid (show joinE A B = busyE B by rw [joinE, if_pos EA.out, if_neg hE])
        have HE := Lib.hid hE
        clear hE
        rw [E.out]
        go_wp2
        go_ret2
        exact ⟨.inl ⟨by rw [J.out]; exact HE.out, by rw [J.out, E.out]; rfl⟩, B9.out⟩
    · subst hg
      have J := Lib.hid (show joinE A B = busyE (A ++ B) by rw [joinE, if_pos EA.out, if_pos EB.out])
      have lA := (busyE_ok EA.out).1
      have lB := (busyE_ok EB.out).1
      have D := Lib.hid (show Below wr.heap.size wr (wr.alloc (.cells #[.slice aa A.length ac, .slice ba B.length bc] 37)) from (Below.refl _ _).alloc (Nat.le_refl _) _)
      have d0 := Lib.hid (show (wr.alloc (.cells #[.slice aa A.length ac, .slice ba B.length bc] 37)).cell? ⟨wr.heap.size, 0, none⟩ = some (.slice aa A.length ac) by simp)
      have d1 := Lib.hid (show (wr.alloc (.cells #[.slice aa A.length ac, .slice ba B.length bc] 37)).cell? ⟨wr.heap.size, 1, none⟩ = some (.slice ba B.length bc) by simp)
      go_wp2_with fail
      refine (concat_any _ _ A B wr.heap.size _ (HA2.out.below D.out) (HB2.out.below D.out) d0.out d1.out lA lB).mono ?_; rintro e w1 ⟨v, rfl, hv, hb1⟩
      have HV := Lib.hid hv
      have B1 := Lib.hid (BT.out.trans ((D.out.trans (hb1.mono D.out.size)).mono BT.out.size))
      clear hv hb1
      by_cases hE : busyE (A ++ B) = 0
      · have HE := Lib.hid hE
        clear hE
        go_wp2_with fail
        refine (norm_yes _ (A ++ B) _ HV.out HE.out).mono ?_; rintro e w2 ⟨u, rfl, hown, hb2⟩
        have OW := Lib.hid hown
        have B9 := Lib.hid (B1.out.trans (hb2.mono B1.out.size))
        clear hown hb2
        go_wp2
        go_ret2
        exact ⟨.inr ⟨by rw [J.out]; exact HE.out, u, rfl, ownsRow_reads OW.out⟩, B9.out⟩
      · have HE := Lib.hid hE
        have E := Lib.hid (show errV (busyE (A ++ B)) = .iface 108 (.int .i64 (busyE (A ++ B))) by rw [errV, if_neg hE])
        clear hE
        go_wp2_with fail
        refine (norm_no _ (A ++ B) _ HV.out HE.out).mono ?_; rintro e w2 ⟨rfl, hb2⟩
        rw [E.out]
        have B9 := Lib.hid (B1.out.trans (hb2.mono B1.out.size))
        clear hb2
        go_wp2
        go_ret2
        exact ⟨.inl ⟨by rw [J.out]; exact HE.out, by rw [J.out, E.out]; rfl⟩, B9.out⟩

end Go.Proofs.YtdkcgggnkhbkkaaDoor
