/- Texts joined into one (a claim has at most 60 files): Contracts of slices.Concat at stretches (two lists of at most 200) and of busy.Join; The reference's Norm: in as few as may be; The reference's Free, and chimesame.Busies; chimesame.Busies: two lists that are the same; The references of what is taken: chimeref2.Busy, Slot, Free (its list by Norm's contract: XRefV), chimesame.Busies. -/
import Derived.Test.YtgelojhpanbnaaaGreatDoorQ18
import Derived.Test.YtgelojhpanbnaaaGreatDoorShGrowT
import Derived.BigQuiet
namespace Go.Proofs.YtgelojhpanbnaaaGreatDoor
open Go.RowKit Go.Shelf
set_option linter.unusedSimpArgs false
set_option linter.unusedVariables false

theorem run_append_zero {P : Program} {w : World} (base : Nat) (t ty e : TypeId) (i : TypeInfo) (size : Nat) (ht : P.underlying t = some (.slice e)) (hi : P.info? e = some i)
    (v : Value) (n : Nat) (xs : List Value) (hown : w.ownsRow base e size v n xs) (p : Option Addr) (c : Nat) :
    (Builtin.append_ #[t, t] ty #[v, .slice p 0 c]).run P w = .ok v w := by
  rcases hown.2 with ⟨rfl, rfl⟩ | ⟨g, cap, cur, rfl, _, _, hnc, _⟩
  · cases p <;> simp [Builtin.append_, run_underlying ht, sizeOf, typeInfo, hi, Builtin.lenOf, Builtin.firstCells, loadCells, loadCellsFrom]
  · cases p <;> simp [Builtin.append_, run_underlying ht, sizeOf, typeInfo, hi, Builtin.lenOf, Builtin.firstCells, hnc, storeCells, loadCells, loadCellsFrom]

theorem wpList_append_zero {P : Program} {w : World} {ops : Array Oper} {rest : List Oper} {o : Oper} {a : Act} {Q : Exit → Act → World → Prop} (hgd : o.guard = none) (s x : Operand) (t : TypeId)
    (ho : o.op = .call { callee := .builtin .append, args := #[s, x], argTypes := #[t, t] })
    (base : Nat) (e : TypeId) (i : TypeInfo) (size : Nat) (ht : P.underlying t = some (.slice e)) (hi : P.info? e = some i)
    (v : Value) (n : Nat) (xs : List Value) (hs : a.eval s = v) (hown : w.ownsRow base e size v n xs) (p : Option Addr) (c : Nat) (hx : a.eval x = .slice p 0 c)
    (h : wpList P ops Q rest (a.put o.dst v) w) : wpList P ops Q (o :: rest) a w := by
  refine wpList_plain hgd fun K hK => ?_
  have hrun := run_append_zero (P := P) (w := w) base t o.type e i size ht hi v n xs hown p c
  unfold Oper.wp
  simp [execOp, ho, resolve, invoke, builtin, hs, hx, hrun, Result.andThen]
  exact hK _ _ h

theorem wpList_append_pairs {w : World} {ops : Array Oper} {rest : List Oper} {o : Oper} {a : Act} {Q : Exit → Act → World → Prop} (hgd : o.guard = none) (s x : Operand)
    (ho : o.op = .call { callee := .builtin .append, args := #[s, x], argTypes := #[89, 89] })
    (base : Nat) (v vx : Value) (O L : List (Int × Int)) (hs : a.eval s = v) (hx : a.eval x = vx) (hown : w.ownsRow base 177 2 v O.length (pairsV O)) (hL : PairsR w vx L)
    (hbase : base ≤ w.heap.size) (hO : O.length ≤ 10000) (hl : L.length ≤ 10000)
    (h : ∀ v' w', w'.ownsRow base 177 2 v' (O ++ L).length (pairsV (O ++ L)) → Below base w w' → wpList Tryz.prog ops Q rest (a.put o.dst v') w') : wpList Tryz.prog ops Q (o :: rest) a w := by
  obtain ⟨i0, hi, hz0, hz1, hz2⟩ := info_parts busyInfo
  obtain ⟨p, cap, rfl, h1, h2, h3, h4⟩ := hL
  by_cases h0 : L.length = 0
  · obtain rfl : L = [] := List.length_eq_zero_iff.1 h0
    refine wpList_append_zero hgd s x _ ho base 177 i0 2 Tryz.underlying89 hi v O.length (pairsV O) hs hown p cap hx (h _ _ (by rw [List.append_nil]; exact hown) (Below.refl _ _))
  · obtain ⟨b, off, rfl, hc⟩ := h4 (by omega)
    refine wpList_append_lies _ hgd s x _ ho base 177 i0 _ 2 16 Tryz.underlying89 hi hz0 hz1 hz2 rfl (by decide) v O.length (pairsV O) hs hown ⟨b, off, none⟩ L.length cap (pairsV L) hx (pairsV_len L) (fun j u hu => ?_) (fun u hu => ?_) (by omega) (by unfold maxLen; omega) (by omega) hbase _ rfl ?_
    · have hadd : (⟨b, off, none⟩ : Addr).add j = ⟨b, off + j, none⟩ := by unfold Addr.add; split <;> simp_all
      rw [hadd]; exact hc j u hu
    · obtain ⟨q, _, hq⟩ := List.mem_flatMap.1 hu
      simp at hq
      rcases hq with rfl | rfl <;> rfl
    · intro g c2 w' hown' hg _ _
      refine h _ w' ?_ ((Below.refl _ _).grown hg hbase (ownBlock_ge hown))
      rw [List.length_append, show pairsV (O ++ L) = pairsV O ++ pairsV L by simp [pairsV]]
      exact hown'

end Go.Proofs.YtgelojhpanbnaaaGreatDoor

namespace Go.Proofs.YtgelojhpanbnaaaGreatDoor
open Go.RowKit
set_option linter.unusedSimpArgs false
set_option linter.unusedVariables false

theorem wpList_append_pairs2 {w : World} {ops : Array Oper} {rest : List Oper} {o : Oper} {a : Act} {Q : Exit → Act → World → Prop} (hgd : o.guard = none) (s x : Operand)
    (ho : o.op = .call { callee := .builtin .append, args := #[s, x], argTypes := #[89, 89] })
    (base : Nat) (v vx : Value) (O L : List (Int × Int)) (hs : a.eval s = v) (hx : a.eval x = vx) (hown : w.ownsRow base 177 2 v O.length (pairsV O)) (hL : PairsR w vx L)
    (hbase : base ≤ w.heap.size) (hO : O.length ≤ 10000) (hl : L.length ≤ 10000) (hl0 : 0 < L.length)
    (h : ∀ v' w', w'.ownsRow base 177 2 v' (O ++ L).length (pairsV (O ++ L)) → Below base w w' → (∀ p : Addr, p.block < w.heap.size → v.ownBlock ≠ some p.block → w'.cell? p = w.cell? p) → wpList Tryz.prog ops Q rest (a.put o.dst v') w') : wpList Tryz.prog ops Q (o :: rest) a w := by
  obtain ⟨i0, hi, hz0, hz1, hz2⟩ := info_parts busyInfo
  obtain ⟨p, cap, rfl, h1, h2, h3, h4⟩ := hL
  obtain ⟨b, off, rfl, hc⟩ := h4 (by omega)
  refine wpList_append_lies _ hgd s x _ ho base 177 i0 _ 2 16 Tryz.underlying89 hi hz0 hz1 hz2 rfl (by decide) v O.length (pairsV O) hs hown ⟨b, off, none⟩ L.length cap (pairsV L) hx (pairsV_len L) (fun j u hu => ?_) (fun u hu => ?_) (by omega) (by unfold maxLen; omega) (by omega) hbase _ rfl ?_
  · have hadd : (⟨b, off, none⟩ : Addr).add j = ⟨b, off + j, none⟩ := by unfold Addr.add; split <;> simp_all
    rw [hadd]; exact hc j u hu
  · obtain ⟨q, _, hq⟩ := List.mem_flatMap.1 hu
    simp at hq
    rcases hq with rfl | rfl <;> rfl
  · intro g c2 w' hown' hg _ _
    refine h _ w' ?_ ((Below.refl _ _).grown hg hbase (ownBlock_ge hown)) (fun p h1 h2 => hg.cell_far p h1 (Ne.symm h2))
    rw [List.length_append, show pairsV (O ++ L) = pairsV O ++ pairsV L by simp [pairsV]]
    exact hown'

theorem ins_a {O : List (Int × Int)} {k : Nat} (h : k < O.length) {b : Int × Int} (h1 : O[k].2 < b.1) : insL b (O.drop k) = O[k] :: insL b (O.drop (k + 1)) := by
  rw [List.drop_eq_getElem_cons h, insL, if_pos h1]
theorem ins_b {O : List (Int × Int)} {k : Nat} (h : k < O.length) {b : Int × Int} (h1 : ¬ O[k].2 < b.1) (h2 : b.2 < O[k].1) : insL b (O.drop k) = b :: O[k] :: O.drop (k + 1) := by
  rw [List.drop_eq_getElem_cons h, insL, if_neg h1, if_pos h2]
theorem ins_c {O : List (Int × Int)} {k : Nat} (h : k < O.length) {b : Int × Int} (h1 : ¬ O[k].2 < b.1) (h2 : ¬ b.2 < O[k].1) : insL b (O.drop k) = insL (min O[k].1 b.1, max O[k].2 b.2) (O.drop (k + 1)) := by
  rw [List.drop_eq_getElem_cons h, insL, if_neg h1, if_neg h2]

def nstep (out : List (Int × Int)) (b : Int × Int) : List (Int × Int) := if b.1 = b.2 then out else insL b out
theorem norm_snoc (L : List (Int × Int)) (k : Nat) (h : k < L.length) : normL (L.take (k + 1)) = nstep (normL (L.take k)) L[k] := by
  rw [List.take_succ_eq_append_getElem h, normL, List.foldl_append]; rfl

theorem sep_drop {O : List (Int × Int)} (h : Sep O) {k : Nat} (hk : k < O.length) : ∀ c ∈ O.drop (k + 1), O[k].2 < c.1 := by
  obtain ⟨h1, h2⟩ := h
  have h3 : (O.drop k).Pairwise (fun a b => a.2 < b.1) := h2.sublist (List.drop_sublist k O)
  rw [List.drop_eq_getElem_cons hk] at h3
  exact (List.pairwise_cons.1 h3).1

def InS (O : List (Int × Int)) (b0 : Int × Int) (k : Nat) (Nx : List (Int × Int)) (put : Bool) (bx byy : Int) : Prop :=
  Nx.length ≤ k + 1 ∧ bx ≤ byy ∧ (put = false → Nx.length ≤ k ∧ Nx ++ insL (bx, byy) (O.drop k) = insL b0 O) ∧ (put = true → Nx ++ O.drop k = insL b0 O ∧ ∀ c ∈ O.drop k, byy < c.1)

theorem inS_a {O : List (Int × Int)} {b0 : Int × Int} {k : Nat} {Nx : List (Int × Int)} {bx byy : Int} (h : InS O b0 k Nx false bx byy) (hk : k < O.length) (h1 : O[k].2 < bx) : InS O b0 (k + 1) (Nx ++ [O[k]]) false bx byy := by
  obtain ⟨a1, a2, a3, a4⟩ := h
  refine ⟨by simp; omega, a2, fun _ => ⟨by have := (a3 rfl).1; simp; omega, ?_⟩, (fun h => by cases h)⟩
  rw [← (a3 rfl).2, ins_a hk (b := (bx, byy)) h1]; simp

theorem inS_b {O : List (Int × Int)} {b0 : Int × Int} {k : Nat} {Nx : List (Int × Int)} {bx byy : Int} (h : InS O b0 k Nx false bx byy) (hS : Sep O) (hk : k < O.length) (h1 : ¬ O[k].2 < bx) (h2 : byy < O[k].1) : InS O b0 (k + 1) ((Nx ++ [(bx, byy)]) ++ [O[k]]) true bx byy := by
  obtain ⟨a1, a2, a3, a4⟩ := h
  refine ⟨by have := (a3 rfl).1; simp; omega, a2, (fun h => by cases h), fun _ => ⟨?_, fun c hc => ?_⟩⟩
  · rw [← (a3 rfl).2, ins_b hk (b := (bx, byy)) h1 h2]; simp
  · have := sep_drop hS hk c hc; have := hS.1 O[k] (List.getElem_mem hk); omega

theorem inS_c {O : List (Int × Int)} {b0 : Int × Int} {k : Nat} {Nx : List (Int × Int)} {bx byy : Int} (h : InS O b0 k Nx false bx byy) (hk : k < O.length) (h1 : ¬ O[k].2 < bx) (h2 : ¬ byy < O[k].1) : InS O b0 (k + 1) Nx false (min O[k].1 bx) (max O[k].2 byy) := by
  obtain ⟨a1, a2, a3, a4⟩ := h
  refine ⟨by omega, by omega, fun _ => ⟨by have := (a3 rfl).1; omega, ?_⟩, (fun h => by cases h)⟩
  rw [← (a3 rfl).2, ins_c hk (b := (bx, byy)) h1 h2]

theorem inS_d {O : List (Int × Int)} {b0 : Int × Int} {k : Nat} {Nx : List (Int × Int)} {bx byy : Int} (h : InS O b0 k Nx true bx byy) (hS : Sep O) (hk : k < O.length) : InS O b0 (k + 1) (Nx ++ [O[k]]) true bx byy ∧ ¬ O[k].2 < bx ∧ byy < O[k].1 := by
  obtain ⟨a1, a2, a3, a4⟩ := h
  obtain ⟨a5, a6⟩ := a4 rfl
  rw [List.drop_eq_getElem_cons hk] at a5 a6
  have h1 := a6 O[k] List.mem_cons_self
  have h2 := hS.1 O[k] (List.getElem_mem hk)
  refine ⟨⟨by simp; omega, a2, (fun h => by cases h), fun _ => ⟨by rw [← a5]; simp, fun c hc => a6 c (List.mem_cons_of_mem _ hc)⟩⟩, by omega, h1⟩

set_option maxRecDepth 100000 in
set_option maxHeartbeats 8000000 in
theorem rnorm_own (v : Value) (L : List (Int × Int)) (w : World) (hL : PairsR w v L) (hlen : L.length ≤ 1000) (hg : ∀ b ∈ L, b.1 ≤ b.2) :
    Calls Tryz.prog 105 #[v] w fun e w' => ∃ u, e = .returned u ∧ w'.ownsRow w.heap.size 177 2 u (normL L).length (pairsV (normL L)) ∧ Below w.heap.size w w' := by
  obtain ⟨a, cap, rfl, hc1, hc2, hcell⟩ := pairsR_open hL
  unfold maxLen at hc2
  have CS := Lib.hid hcell
  have GD := Lib.hid hg
  clear hcell hL hg
  go_enter Tryz.func105, Tryz.ntmps105
  go_wp2
  go_loopg [3, 4] L.length (fun g ov i wr => ∃ (k : Nat) (O : List (Int × Int)), k ≤ L.length ∧ i = .int .i64 k ∧ g = L.length - k ∧ O.length ≤ k ∧ Hid (O = normL (L.take k)) ∧ wr.ownsRow w.heap.size 177 2 ov O.length (pairsV O) ∧ Below w.heap.size w wr)
  case atStart => exact ⟨0, [], Nat.zero_le _, rfl, rfl, Nat.le_refl _, Lib.hid rfl, World.ownsRow_nil _ _ _ _, Below.refl _ _⟩
  case round =>
    obtain ⟨k, O, hk, rfl, hg, hOk, OE, hpr, hb⟩ := hrel
    obtain ⟨wo, rfl⟩ : ∃ wo, wo = wr := ⟨_, rfl⟩
    have G := Lib.hid hg; clear hg
    have PO := Lib.hid hpr
    have PR := Lib.hid (ownsRow_reads hpr)
    have BW := Lib.hid hb
    have hbs := hb.size
    obtain ⟨oa, oc, rfl, _, ko, hoc⟩ := pairsR_open (ownsRow_reads hpr)
    unfold maxLen at ko
    clear hoc hpr
    by_cases hlt : k < L.length
    · obtain ⟨bb, off, rfl, hcs⟩ := CS.out (by omega)
      have c0 := cell_below hb (hcs k hlt).1
      have c1 := cell_below hb (hcs k hlt).2
      have Z := Lib.hid (norm_snoc L k hlt)
      have hle := GD.out L[k] (List.getElem_mem hlt)
      obtain ⟨x, hx⟩ : ∃ x, x = L[k].1 := ⟨_, rfl⟩
      obtain ⟨y, hy⟩ : ∃ y, y = L[k].2 := ⟨_, rfl⟩
      rw [← hx] at c0; rw [← hy] at c1
      rw [← hx, ← hy] at hle
      have XY := Lib.hid (show L[k] = (x, y) by rw [hx, hy])
      clear hx hy hcs hb
      have i1 : (0 : Int) ≤ (k : Int) := Int.natCast_nonneg _
      have i2 : (k : Int) < (L.length : Int) := by omega
      by_cases hxy : x = y
      · have tt : (x == y) = true := by simpa using hxy
        have E := Lib.hid (show O = normL (L.take (k + 1)) by rw [Z.out, XY.out, nstep, if_pos hxy]; exact OE.out)
        clear hxy
        go_wp2
        go_roundg (L.length - (k + 1))
        case measure => rw [G.out]; omega
        case rel => exact ⟨k + 1, O, by omega, by go_num, rfl, by omega, E, own_kept PO.out ((Below.refl _ _).alloc (Nat.le_refl _) _), BW.out.alloc hbs _⟩
      · have tt : (x == y) = false := by simpa using hxy
        have E := Lib.hid (show insL (x, y) O = normL (L.take (k + 1)) by rw [Z.out, XY.out, nstep, if_neg hxy, ← OE.out])
        have SO := Lib.hid (show Sep O by rw [OE.out]; exact norm_sep fun b hb => GD.out b (List.mem_of_mem_take hb))
        clear hxy
        obtain ⟨wb, hwb⟩ : ∃ wb, wb = wo.alloc (.cells #[.int .i64 x, .int .i64 y] 177) := ⟨_, rfl⟩
        have x0 : wb.cell? ⟨wo.heap.size, 0, none⟩ = some (.int .i64 x) := by rw [hwb]; simp
        have x1 : wb.cell? ⟨wo.heap.size, 1, none⟩ = some (.int .i64 y) := by rw [hwb]; simp
        have f0 : wb.frozen? ⟨wo.heap.size, 0, none⟩ = false := by rw [hwb]; simp
        have f1 : wb.frozen? ⟨wo.heap.size, 1, none⟩ = false := by rw [hwb]; simp
        have BB := Lib.hid (show Below wo.heap.size wo wb by rw [hwb]; exact (Below.refl _ _).alloc (Nat.le_refl _) _)
        have WB := Lib.hid hwb
        have hxl : wb.heap.size = wo.heap.size + 1 := by rw [hwb]; simp
        obtain ⟨xb, hxb⟩ : ∃ xb, xb = wo.heap.size := ⟨_, rfl⟩
        rw [← hxb] at x0 x1 f0 f1 hxl
        have XB := Lib.hid hxb
        have XL := Lib.hid hxl
        have X0 := Lib.hid x0; have X1 := Lib.hid x1; have F0 := Lib.hid f0; have F1 := Lib.hid f1
        clear hwb hxb hxl x0 x1 f0 f1
        go_upto_region 7 with fail
        rw [← WB.out, ← XB.out]
        clear c0 c1
        go_wp2
        go_loopg [6, 7, 8] O.length (fun g nv pv i wi => ∃ (j : Nat) (Nx : List (Int × Int)) (put : Bool) (bx byy : Int), j ≤ O.length ∧ i = .int .i64 j ∧ pv = .bool put ∧ g = O.length - j ∧ Hid (InS O (x, y) j Nx put bx byy) ∧ wi.ownsRow (xb + 1) 177 2 nv Nx.length (pairsV Nx) ∧ wi.cell? ⟨xb, 0, none⟩ = some (.int .i64 bx) ∧ wi.cell? ⟨xb, 1, none⟩ = some (.int .i64 byy) ∧ wi.frozen? ⟨xb, 0, none⟩ = false ∧ wi.frozen? ⟨xb, 1, none⟩ = false ∧ Below xb wo wi ∧ xb + 1 ≤ wi.heap.size)
        case atStart => exact ⟨0, [], false, x, y, Nat.zero_le _, rfl, rfl, rfl, Lib.hid ⟨by simp, hle, fun _ => ⟨by simp, by simp⟩, fun h => by cases h⟩, World.ownsRow_nil _ _ _ _, X0.out, X1.out, F0.out, F1.out, by rw [XB.out]; exact BB.out, by rw [XL.out]; exact Nat.le_refl _⟩
        case round =>
          obtain ⟨j, Nx, put, bx, byy, hj, rfl, rfl, hg, IN, hown, b0, b1, z0, z1, hbi, hsz⟩ := hrel
          obtain ⟨wi, rfl⟩ : ∃ wi, wi = wr := ⟨_, rfl⟩
          have G2 := Lib.hid hg; clear hg
          have OW := Lib.hid hown
          have BI := Lib.hid hbi
          have hNx := IN.out.1
          have B0 := Lib.hid b0; have B1 := Lib.hid b1; have Z0 := Lib.hid z0; have Z1 := Lib.hid z1
          obtain ⟨na, nc, rfl, nk, _⟩ := ownsRow_open hown
          clear hown
          by_cases hjl : j < O.length
          · obtain ⟨_, _, hv, _, _, hoc⟩ := pairsR_open (PR.out.below (show Below wo.heap.size wo wi by rw [← XB.out]; exact BI.out))
            cases hv
            obtain ⟨ob, oo, rfl, hocs⟩ := hoc (by omega)
            have o0 := (hocs j hjl).1
            have o1 := (hocs j hjl).2
            obtain ⟨p, hp⟩ : ∃ p, p = O[j].1 := ⟨_, rfl⟩
            obtain ⟨q, hq⟩ : ∃ q, q = O[j].2 := ⟨_, rfl⟩
            rw [← hp] at o0; rw [← hq] at o1
            have PQ := Lib.hid (show O[j] = (p, q) by rw [hp, hq])
            have PE := Lib.hid hp; have QE := Lib.hid hq
            clear hp hq hocs hoc hbi
            have j1 : (0 : Int) ≤ (j : Int) := Int.natCast_nonneg _
            have j2 : (j : Int) < (O.length : Int) := by omega
            obtain ⟨wq, hwq⟩ : ∃ wq, wq = wi.alloc (.cells #[.int .i64 p, .int .i64 q] 177) := ⟨_, rfl⟩
            obtain ⟨xo, hxo⟩ : ∃ xo, xo = wi.heap.size := ⟨_, rfl⟩
            have p0 : wq.cell? ⟨xo, 0, none⟩ = some (.int .i64 p) := by rw [hwq, hxo]; simp
            have p1 : wq.cell? ⟨xo, 1, none⟩ = some (.int .i64 q) := by rw [hwq, hxo]; simp
            have BQ := Lib.hid (show Below wi.heap.size wi wq by rw [hwq]; exact (Below.refl _ _).alloc (Nat.le_refl _) _)
            have hql : wq.heap.size = xo + 1 := by rw [hwq, hxo]; simp
            have b0 := cell_below BQ.out b0
            have b1 := cell_below BQ.out b1
            have z0 : wq.frozen? ⟨xb, 0, none⟩ = false := by rw [BQ.out.frozen (p := ⟨xb, 0, none⟩) (by simp; omega)]; exact z0
            have z1 : wq.frozen? ⟨xb, 1, none⟩ = false := by rw [BQ.out.frozen (p := ⟨xb, 1, none⟩) (by simp; omega)]; exact z1
            have OQ := Lib.hid (ownsRow_kept OW.out BQ.out)
            have WQ := Lib.hid hwq; have XO := Lib.hid hxo; have QL := Lib.hid hql
            have hxo1 : xb + 1 ≤ xo := by rw [hxo]; exact hsz
            have BIQ := Lib.hid (show Below xb wo wq from BI.out.trans (BQ.out.mono (by omega)))
            have hql2 : xo + 1 ≤ wq.heap.size := by omega
            clear hwq hxo hql
            go_upto_region 13 with fail
            rw [← WQ.out, ← XO.out]
            clear o0 o1
            cases put
            case false =>
              by_cases h1 : q < bx
              · have IN2 := Lib.hid (inS_a IN.out hjl (by rw [← QE.out]; exact h1))
                rw [PQ.out] at IN2
                go_wp2_with (at_builtin; refine wpList_append_pairs2 rfl _ _ rfl (xb + 1) _ (.slice (some ⟨wq.heap.size, 0, none⟩) 1 1) Nx [(p, q)] rfl rfl (OQ.out.alloc _) (pairs_laid wq 177 [(p, q)] #[.int .i64 p, .int .i64 q] rfl (by simp)) (by first | omega | (simp; omega)) (by first | omega | (simp; omega)) (by simp) (by simp) ?_)
                intro v' wa hown' hb' hfar'
                have B9 := Lib.hid (show Below xb wo wa from BIQ.out.trans ((((Below.refl _ _).alloc (by omega) _).trans (hb'.mono (by omega)))))
                have C0 := Lib.hid (show wa.cell? ⟨xb, 0, none⟩ = some (.int .i64 bx) by rw [hb'.cell (p := ⟨xb, 0, none⟩) (by simp)]; exact cell_below ((Below.refl _ _).alloc (Nat.le_refl _) _) b0)
                have C1 := Lib.hid (show wa.cell? ⟨xb, 1, none⟩ = some (.int .i64 byy) by rw [hb'.cell (p := ⟨xb, 1, none⟩) (by simp)]; exact cell_below ((Below.refl _ _).alloc (Nat.le_refl _) _) b1)
                have D0 := Lib.hid (show wa.frozen? ⟨xb, 0, none⟩ = false by rw [hb'.frozen (p := ⟨xb, 0, none⟩) (by simp), ((Below.refl wq.heap.size wq).alloc (Nat.le_refl _) _).frozen (p := ⟨xb, 0, none⟩) (by simp; omega)]; exact z0)
                have D1 := Lib.hid (show wa.frozen? ⟨xb, 1, none⟩ = false by rw [hb'.frozen (p := ⟨xb, 1, none⟩) (by simp), ((Below.refl wq.heap.size wq).alloc (Nat.le_refl _) _).frozen (p := ⟨xb, 1, none⟩) (by simp; omega)]; exact z1)
                have S9 := hb'.size
                simp at S9
                have R := Lib.hid (show wa.ownsRow (xb + 1) 177 2 v' (Nx ++ [(p, q)]).length (pairsV (Nx ++ [(p, q)])) by first | exact hown' | (rw [List.length_append]; exact hown') | (rw [List.append_assoc, List.length_append]; exact hown') | (simpa using hown'))
                clear hown' hb' hfar' b0 b1 z0 z1 p0 p1
                go_wp2
                go_roundg (O.length - (j + 1))
                case measure => rw [G2.out]; omega
                case rel => exact ⟨j + 1, Nx ++ [(p, q)], false, bx, byy, by omega, by go_num, rfl, rfl, IN2, R.out, C0.out, C1.out, D0.out, D1.out, B9.out, by omega⟩
              · by_cases h2 : byy < p
                · have IN2 := Lib.hid (inS_b IN.out SO.out hjl (by rw [← QE.out]; exact h1) (by rw [← PE.out]; exact h2))
                  rw [PQ.out] at IN2
                  go_wp2_with (at_builtin; refine wpList_append_pairs2 rfl _ _ rfl (xb + 1) _ (.slice (some ⟨wq.heap.size, 0, none⟩) 1 1) Nx [(bx, byy)] rfl rfl (OQ.out.alloc _) (pairs_laid wq 177 [(bx, byy)] #[.int .i64 bx, .int .i64 byy] rfl (by simp)) (by first | omega | (simp; omega)) (by first | omega | (simp; omega)) (by simp) (by simp) ?_)
                  intro v' wm hown' hb' hfar'
                  have Bm := Lib.hid (show Below xb wo wm from BIQ.out.trans ((((Below.refl _ _).alloc (by omega) _).trans (hb'.mono (by omega)))))
                  have b0 : wm.cell? ⟨xb, 0, none⟩ = some (.int .i64 bx) := by rw [hb'.cell (p := ⟨xb, 0, none⟩) (by simp)]; exact cell_below ((Below.refl _ _).alloc (Nat.le_refl _) _) b0
                  have b1 : wm.cell? ⟨xb, 1, none⟩ = some (.int .i64 byy) := by rw [hb'.cell (p := ⟨xb, 1, none⟩) (by simp)]; exact cell_below ((Below.refl _ _).alloc (Nat.le_refl _) _) b1
                  have z0 : wm.frozen? ⟨xb, 0, none⟩ = false := by rw [hb'.frozen (p := ⟨xb, 0, none⟩) (by simp), ((Below.refl wq.heap.size wq).alloc (Nat.le_refl _) _).frozen (p := ⟨xb, 0, none⟩) (by simp; omega)]; exact z0
                  have z1 : wm.frozen? ⟨xb, 1, none⟩ = false := by rw [hb'.frozen (p := ⟨xb, 1, none⟩) (by simp), ((Below.refl wq.heap.size wq).alloc (Nat.le_refl _) _).frozen (p := ⟨xb, 1, none⟩) (by simp; omega)]; exact z1
                  have hne : ∀ c, (Value.slice na Nx.length nc).ownBlock = some c → c < xo := fun c hc => by have := (OW.out.lt c hc).2; rw [XO.out]; exact this
                  have p0 : wm.cell? ⟨xo, 0, none⟩ = some (.int .i64 p) := by rw [hfar' ⟨xo, 0, none⟩ (by simp; omega) (fun h => by have := hne _ h; simp at this)]; exact cell_below ((Below.refl _ _).alloc (Nat.le_refl _) _) p0
                  have p1 : wm.cell? ⟨xo, 1, none⟩ = some (.int .i64 q) := by rw [hfar' ⟨xo, 1, none⟩ (by simp; omega) (fun h => by have := hne _ h; simp at this)]; exact cell_below ((Below.refl _ _).alloc (Nat.le_refl _) _) p1
                  have Sm := hb'.size
                  simp at Sm
                  have Rm := Lib.hid (show wm.ownsRow (xb + 1) 177 2 v' (Nx ++ [(bx, byy)]).length (pairsV (Nx ++ [(bx, byy)])) by first | exact hown' | (rw [List.length_append]; exact hown'))
                  have hm1 : xb + 1 ≤ wm.heap.size := by omega
                  clear hown' hb' hfar' hne
                  go_upto_region 19 with fail
                  go_wp2_with (at_builtin; refine wpList_append_pairs2 rfl _ _ rfl (xb + 1) _ (.slice (some ⟨wm.heap.size, 0, none⟩) 1 1) (Nx ++ [(bx, byy)]) [(p, q)] rfl rfl (Rm.out.alloc _) (pairs_laid wm 177 [(p, q)] #[.int .i64 p, .int .i64 q] rfl (by simp)) (by first | omega | (simp; omega)) (by first | omega | (simp; omega)) (by simp) (by simp) ?_)
                  intro v' wa hown' hb' hfar'
                  have B9 := Lib.hid (show Below xb wo wa from Bm.out.trans ((((Below.refl _ _).alloc (by omega) _).trans (hb'.mono (by omega)))))
                  have C0 := Lib.hid (show wa.cell? ⟨xb, 0, none⟩ = some (.int .i64 bx) by rw [hb'.cell (p := ⟨xb, 0, none⟩) (by simp)]; exact cell_below ((Below.refl _ _).alloc (Nat.le_refl _) _) b0)
                  have C1 := Lib.hid (show wa.cell? ⟨xb, 1, none⟩ = some (.int .i64 byy) by rw [hb'.cell (p := ⟨xb, 1, none⟩) (by simp)]; exact cell_below ((Below.refl _ _).alloc (Nat.le_refl _) _) b1)
                  have D0 := Lib.hid (show wa.frozen? ⟨xb, 0, none⟩ = false by rw [hb'.frozen (p := ⟨xb, 0, none⟩) (by simp), ((Below.refl wm.heap.size wm).alloc (Nat.le_refl _) _).frozen (p := ⟨xb, 0, none⟩) (by simp; omega)]; exact z0)
                  have D1 := Lib.hid (show wa.frozen? ⟨xb, 1, none⟩ = false by rw [hb'.frozen (p := ⟨xb, 1, none⟩) (by simp), ((Below.refl wm.heap.size wm).alloc (Nat.le_refl _) _).frozen (p := ⟨xb, 1, none⟩) (by simp; omega)]; exact z1)
                  have S9 := hb'.size
                  simp at S9
                  have R := Lib.hid (show wa.ownsRow (xb + 1) 177 2 v' ((Nx ++ [(bx, byy)]) ++ [(p, q)]).length (pairsV ((Nx ++ [(bx, byy)]) ++ [(p, q)])) by first | exact hown' | (rw [List.length_append]; exact hown') | (rw [List.append_assoc, List.length_append]; exact hown') | (simpa using hown'))
                  clear hown' hb' hfar' b0 b1 z0 z1 p0 p1
                  go_wp2
                  go_roundg (O.length - (j + 1))
                  case measure => rw [G2.out]; omega
                  case rel => exact ⟨j + 1, (Nx ++ [(bx, byy)]) ++ [(p, q)], true, bx, byy, by omega, by go_num, rfl, rfl, IN2, R.out, C0.out, C1.out, D0.out, D1.out, B9.out, by omega⟩
                · have IN2 := Lib.hid (inS_c IN.out hjl (by rw [← QE.out]; exact h1) (by rw [← PE.out]; exact h2))
                  rw [← PE.out, ← QE.out] at IN2
                  by_cases h3 : p < bx
                  · by_cases h4 : byy < q
                    · skip
                      have IN3 := Lib.hid (show InS O (x, y) (j + 1) Nx false p q by have := IN2.out; rw [show min p bx = p by omega, show max q byy = q by omega] at this; exact this)
                      have R := Lib.hid (ownsRow_setCell_below (ownsRow_setCell_below (OQ.out) (a := ⟨xb, 0, none⟩) (Nat.lt_succ_self _) (.int .i64 p)) (a := ⟨xb, 1, none⟩) (Nat.lt_succ_self _) (.int .i64 q))
                      have B9 := Lib.hid (((BIQ.out).setCell (p := ⟨xb, 0, none⟩) (Nat.le_refl _) (.int .i64 p)).setCell (p := ⟨xb, 1, none⟩) (Nat.le_refl _) (.int .i64 q))
                      have C0 : ((wq.setCell ⟨xb, 0, none⟩ (.int .i64 p)).setCell ⟨xb, 1, none⟩ (.int .i64 q)).cell? ⟨xb, 0, none⟩ = some (.int .i64 p) := (World.cell?_setCell_other _ _ _ _ (by simp)).trans (World.cell?_setCell_same _ _ _ (b0))
                      have C1 : ((wq.setCell ⟨xb, 0, none⟩ (.int .i64 p)).setCell ⟨xb, 1, none⟩ (.int .i64 q)).cell? ⟨xb, 1, none⟩ = some (.int .i64 q) := World.cell?_setCell_same _ _ _ ((World.cell?_setCell_other _ _ _ _ (by simp)).trans (b1))
                      have D0 : ((wq.setCell ⟨xb, 0, none⟩ (.int .i64 p)).setCell ⟨xb, 1, none⟩ (.int .i64 q)).frozen? ⟨xb, 0, none⟩ = false := by simp [b0, b1, z0, z1]
                      have D1 : ((wq.setCell ⟨xb, 0, none⟩ (.int .i64 p)).setCell ⟨xb, 1, none⟩ (.int .i64 q)).frozen? ⟨xb, 1, none⟩ = false := by simp [b0, b1, z0, z1]
                      have C0 := Lib.hid C0; have C1 := Lib.hid C1; have D0 := Lib.hid D0; have D1 := Lib.hid D1
                      go_wp2
                      go_roundg (O.length - (j + 1))
                      case measure => rw [G2.out]; omega
                      case rel => exact ⟨j + 1, Nx, false, p, q, by omega, by go_num, rfl, rfl, IN3, R.out, C0.out, C1.out, D0.out, D1.out, B9.out, by first | omega | (simp; omega)⟩
                    · skip
                      have IN3 := Lib.hid (show InS O (x, y) (j + 1) Nx false p byy by have := IN2.out; rw [show min p bx = p by omega, show max q byy = byy by omega] at this; exact this)
                      have R := Lib.hid (ownsRow_setCell_below (OQ.out) (a := ⟨xb, 0, none⟩) (Nat.lt_succ_self _) (.int .i64 p))
                      have B9 := Lib.hid ((BIQ.out).setCell (p := ⟨xb, 0, none⟩) (Nat.le_refl _) (.int .i64 p))
                      have C0 : (wq.setCell ⟨xb, 0, none⟩ (.int .i64 p)).cell? ⟨xb, 0, none⟩ = some (.int .i64 p) := World.cell?_setCell_same _ _ _ (b0)
                      have C1 : (wq.setCell ⟨xb, 0, none⟩ (.int .i64 p)).cell? ⟨xb, 1, none⟩ = some (.int .i64 byy) := (World.cell?_setCell_other _ _ _ _ (by simp)).trans (b1)
                      have D0 : (wq.setCell ⟨xb, 0, none⟩ (.int .i64 p)).frozen? ⟨xb, 0, none⟩ = false := by simp [b0, b1, z0, z1]
                      have D1 : (wq.setCell ⟨xb, 0, none⟩ (.int .i64 p)).frozen? ⟨xb, 1, none⟩ = false := by simp [b0, b1, z0, z1]
                      have C0 := Lib.hid C0; have C1 := Lib.hid C1; have D0 := Lib.hid D0; have D1 := Lib.hid D1
                      go_wp2
                      go_roundg (O.length - (j + 1))
                      case measure => rw [G2.out]; omega
                      case rel => exact ⟨j + 1, Nx, false, p, byy, by omega, by go_num, rfl, rfl, IN3, R.out, C0.out, C1.out, D0.out, D1.out, B9.out, by first | omega | (simp; omega)⟩
                  · by_cases h4 : byy < q
                    · skip
                      have IN3 := Lib.hid (show InS O (x, y) (j + 1) Nx false bx q by have := IN2.out; rw [show min p bx = bx by omega, show max q byy = q by omega] at this; exact this)
                      have R := Lib.hid (ownsRow_setCell_below (OQ.out) (a := ⟨xb, 1, none⟩) (Nat.lt_succ_self _) (.int .i64 q))
                      have B9 := Lib.hid ((BIQ.out).setCell (p := ⟨xb, 1, none⟩) (Nat.le_refl _) (.int .i64 q))
                      have C0 : (wq.setCell ⟨xb, 1, none⟩ (.int .i64 q)).cell? ⟨xb, 0, none⟩ = some (.int .i64 bx) := (World.cell?_setCell_other _ _ _ _ (by simp)).trans (b0)
                      have C1 : (wq.setCell ⟨xb, 1, none⟩ (.int .i64 q)).cell? ⟨xb, 1, none⟩ = some (.int .i64 q) := World.cell?_setCell_same _ _ _ (b1)
                      have D0 : (wq.setCell ⟨xb, 1, none⟩ (.int .i64 q)).frozen? ⟨xb, 0, none⟩ = false := by simp [b0, b1, z0, z1]
                      have D1 : (wq.setCell ⟨xb, 1, none⟩ (.int .i64 q)).frozen? ⟨xb, 1, none⟩ = false := by simp [b0, b1, z0, z1]
                      have C0 := Lib.hid C0; have C1 := Lib.hid C1; have D0 := Lib.hid D0; have D1 := Lib.hid D1
                      go_wp2
                      go_roundg (O.length - (j + 1))
                      case measure => rw [G2.out]; omega
                      case rel => exact ⟨j + 1, Nx, false, bx, q, by omega, by go_num, rfl, rfl, IN3, R.out, C0.out, C1.out, D0.out, D1.out, B9.out, by first | omega | (simp; omega)⟩
                    · skip
                      have IN3 := Lib.hid (show InS O (x, y) (j + 1) Nx false bx byy by have := IN2.out; rw [show min p bx = bx by omega, show max q byy = byy by omega] at this; exact this)
                      have R := Lib.hid (OQ.out)
                      have B9 := Lib.hid (BIQ.out)
                      have C0 : wq.cell? ⟨xb, 0, none⟩ = some (.int .i64 bx) := b0
                      have C1 : wq.cell? ⟨xb, 1, none⟩ = some (.int .i64 byy) := b1
                      have D0 : wq.frozen? ⟨xb, 0, none⟩ = false := by simp [b0, b1, z0, z1]
                      have D1 : wq.frozen? ⟨xb, 1, none⟩ = false := by simp [b0, b1, z0, z1]
                      have C0 := Lib.hid C0; have C1 := Lib.hid C1; have D0 := Lib.hid D0; have D1 := Lib.hid D1
                      go_wp2
                      go_roundg (O.length - (j + 1))
                      case measure => rw [G2.out]; omega
                      case rel => exact ⟨j + 1, Nx, false, bx, byy, by omega, by go_num, rfl, rfl, IN3, R.out, C0.out, C1.out, D0.out, D1.out, B9.out, by first | omega | (simp; omega)⟩
            case true =>
              obtain ⟨hI, h1, h2⟩ := inS_d IN.out SO.out hjl
              rw [PQ.out] at hI
              rw [← QE.out] at h1
              rw [← PE.out] at h2
              have IN2 := Lib.hid hI
              clear hI
              go_upto_region 19 with fail
              go_wp2_with (at_builtin; refine wpList_append_pairs2 rfl _ _ rfl (xb + 1) _ (.slice (some ⟨wq.heap.size, 0, none⟩) 1 1) Nx [(p, q)] rfl rfl (OQ.out.alloc _) (pairs_laid wq 177 [(p, q)] #[.int .i64 p, .int .i64 q] rfl (by simp)) (by first | omega | (simp; omega)) (by first | omega | (simp; omega)) (by simp) (by simp) ?_)
              intro v' wa hown' hb' hfar'
              have B9 := Lib.hid (show Below xb wo wa from BIQ.out.trans ((((Below.refl _ _).alloc (by omega) _).trans (hb'.mono (by omega)))))
              have C0 := Lib.hid (show wa.cell? ⟨xb, 0, none⟩ = some (.int .i64 bx) by rw [hb'.cell (p := ⟨xb, 0, none⟩) (by simp)]; exact cell_below ((Below.refl _ _).alloc (Nat.le_refl _) _) b0)
              have C1 := Lib.hid (show wa.cell? ⟨xb, 1, none⟩ = some (.int .i64 byy) by rw [hb'.cell (p := ⟨xb, 1, none⟩) (by simp)]; exact cell_below ((Below.refl _ _).alloc (Nat.le_refl _) _) b1)
              have D0 := Lib.hid (show wa.frozen? ⟨xb, 0, none⟩ = false by rw [hb'.frozen (p := ⟨xb, 0, none⟩) (by simp), ((Below.refl wq.heap.size wq).alloc (Nat.le_refl _) _).frozen (p := ⟨xb, 0, none⟩) (by simp; omega)]; exact z0)
              have D1 := Lib.hid (show wa.frozen? ⟨xb, 1, none⟩ = false by rw [hb'.frozen (p := ⟨xb, 1, none⟩) (by simp), ((Below.refl wq.heap.size wq).alloc (Nat.le_refl _) _).frozen (p := ⟨xb, 1, none⟩) (by simp; omega)]; exact z1)
              have S9 := hb'.size
              simp at S9
              have R := Lib.hid (show wa.ownsRow (xb + 1) 177 2 v' (Nx ++ [(p, q)]).length (pairsV (Nx ++ [(p, q)])) by first | exact hown' | (rw [List.length_append]; exact hown') | (rw [List.append_assoc, List.length_append]; exact hown') | (simpa using hown'))
              clear hown' hb' hfar' b0 b1 z0 z1 p0 p1
              go_wp2
              go_roundg (O.length - (j + 1))
              case measure => rw [G2.out]; omega
              case rel => exact ⟨j + 1, Nx ++ [(p, q)], true, bx, byy, by omega, by go_num, rfl, rfl, IN2, R.out, C0.out, C1.out, D0.out, D1.out, B9.out, by omega⟩
          · obtain rfl : j = O.length := by omega
            have hO : O.length ≤ 1000 := by omega
            cases put
            case false =>
              have IE := Lib.hid (show Nx ++ [(bx, byy)] = normL (L.take (k + 1)) by rw [← E.out, ← (IN.out.2.2.1 rfl).2, List.drop_length, insL])
              have hn2 := (IN.out.2.2.1 rfl).1
              go_wp2_with (at_builtin; refine wpList_append_pairs2 rfl _ _ rfl (xb + 1) _ (.slice (some ⟨wi.heap.size, 0, none⟩) 1 1) Nx [(bx, byy)] rfl rfl (OW.out.alloc _) (pairs_laid wi 177 [(bx, byy)] #[.int .i64 bx, .int .i64 byy] rfl (by simp)) (by first | omega | (simp; omega)) (by first | omega | (simp; omega)) (by simp) (by simp) ?_)
              intro v' wa hown' hb' hfar'
              have B9 := Lib.hid (BW.out.trans ((show Below xb wo wa from BI.out.trans ((((Below.refl _ _).alloc (by omega) _).trans (hb'.mono (by omega))))).mono (by have := XB.out; omega)))
              have R := Lib.hid (show wa.ownsRow w.heap.size 177 2 v' (Nx ++ [(bx, byy)]).length (pairsV (Nx ++ [(bx, byy)])) from World.ownsRow.mono (show wa.ownsRow (xb + 1) 177 2 v' (Nx ++ [(bx, byy)]).length (pairsV (Nx ++ [(bx, byy)])) by first | exact hown' | (rw [List.length_append]; exact hown')) (by have h1 := XB.out; have h2 := BW.out.size; omega))
              clear hown' hb' hfar' b0 b1 z0 z1 hbi
              go_wp2
              go_roundg (L.length - (k + 1))
              case measure => rw [G.out]; omega
              case rel => exact ⟨k + 1, Nx ++ [(bx, byy)], by omega, by go_num, rfl, by simp; omega, IE, R.out, B9.out⟩
            case true =>
              have IE := Lib.hid (show Nx = normL (L.take (k + 1)) by have := (IN.out.2.2.2 rfl).1; rw [List.drop_length, List.append_nil] at this; rw [← E.out, ← this])
              have B9 := Lib.hid (BW.out.trans (BI.out.mono (by have := XB.out; omega)))
              have R := Lib.hid (World.ownsRow.mono OW.out (show w.heap.size ≤ _ by have h1 := XB.out; have h2 := BW.out.size; omega))
              clear b0 b1 z0 z1 hbi
              go_wp2
              go_roundg (L.length - (k + 1))
              case measure => rw [G.out]; omega
              case rel => exact ⟨k + 1, Nx, by omega, by go_num, rfl, by omega, IE, R.out, B9.out⟩
    · obtain rfl : k = L.length := by omega
      have E := Lib.hid (show O = normL L by have := OE.out; rw [List.take_length] at this; exact this)
      clear hb
      go_wp2
      go_ret
      exact ⟨_, rfl, by rw [← E.out]; exact PO.out, BW.out⟩

theorem rnorm_any (v : Value) (L : List (Int × Int)) (w : World) (hL : PairsR w v L) (hlen : L.length ≤ 1000) (hg : ∀ b ∈ L, b.1 ≤ b.2) :
    Calls Tryz.prog 105 #[v] w fun e w' => ∃ u, e = .returned u ∧ PairsR w' u (normL L) ∧ Below w.heap.size w w' :=
  (rnorm_own v L w hL hlen hg).mono fun _ _ ⟨u, h1, h2, h3⟩ => ⟨u, h1, ownsRow_reads h2, h3⟩

end Go.Proofs.YtgelojhpanbnaaaGreatDoor

namespace Go.Proofs.YtgelojhpanbnaaaGreatDoor
open Go.RowKit
set_option linter.unusedSimpArgs false
set_option linter.unusedVariables false

set_option maxRecDepth 100000 in
set_option maxHeartbeats 8000000 in
theorem rfree_any (v : Value) (L : List (Int × Int)) (fr to_ : Int) (w : World) (hL : PairsR w v L) (hlen : L.length ≤ 1000) (hg : ∀ b ∈ L, b.1 ≤ b.2) :
    Calls Tryz.prog 46 #[v, .int .i64 fr, .int .i64 to_] w fun e w' => ∃ u, e = .returned u ∧ PairsR w' u (freeL to_ (normL L) fr) ∧ Below w.heap.size w w' := by
  have HL := Lib.hid hL
  have GD := Lib.hid hg
  have LL := Lib.hid hlen
  clear hL hg
  go_enter Tryz.func46, Tryz.ntmps46
  go_wp2_with fail
  refine (rnorm_any _ L _ HL.out LL.out GD.out).mono ?_; rintro e w2 ⟨u, rfl, hpr, hb1⟩
  obtain ⟨S, hS⟩ : ∃ S, S = normL L := ⟨_, rfl⟩
  rw [← hS] at hpr
  have hsz : S.length ≤ 1000 := by have := norm_len L; rw [hS]; omega
  have SE := Lib.hid hS
  have PR := Lib.hid hpr
  have B := Lib.hid hb1
  clear hb1 hpr hS hlen
  obtain ⟨ua, uc, rfl, _, kc, hcell⟩ := pairsR_open PR.out
  unfold maxLen at kc
  have CS := Lib.hid hcell
  clear hcell
  go_wp2
  go_loopg [7, 9, 10] S.length (fun g ov av i wr => ∃ (k : Nat) (O : List (Int × Int)) (at_ : Int), k ≤ S.length ∧ i = .int .i64 k ∧ av = .int .i64 at_ ∧ g = S.length - k ∧ O.length ≤ k ∧ Hid (O ++ freeL to_ (S.drop k) at_ = freeL to_ S fr) ∧ wr.ownsRow w2.heap.size 177 2 ov O.length (pairsV O) ∧ Below w2.heap.size w2 wr)
  case atStart => exact ⟨0, [], fr, Nat.zero_le _, rfl, rfl, rfl, Nat.le_refl _, Lib.hid (by simp), World.ownsRow_nil _ _ _ _, Below.refl _ _⟩
  case round =>
    obtain ⟨k, O, at_, hk, rfl, rfl, hg, hOk, FE, hown, hb⟩ := hrel
    have G := Lib.hid hg; clear hg
    have OW := Lib.hid hown
    have BW := Lib.hid hb
    have hbs := hb.size
    clear hown
    by_cases hlt : k < S.length
    · obtain ⟨b, off, rfl, hcs⟩ := CS.out (by omega)
      have c0 := cell_below hb (hcs k hlt).1
      have c1 := cell_below hb (hcs k hlt).2
      have Z := Lib.hid (freeL_drop to_ hlt at_)
      obtain ⟨x, hx⟩ : ∃ x, x = S[k].1 := ⟨_, rfl⟩
      obtain ⟨y, hy⟩ : ∃ y, y = S[k].2 := ⟨_, rfl⟩
      rw [← hx] at c0; rw [← hy] at c1
      have X := Lib.hid hx; have Y := Lib.hid hy
      clear hx hy hcs hb
      have i1 : (0 : Int) ≤ (k : Int) := Int.natCast_nonneg _
      have i2 : (k : Int) < (S.length : Int) := by omega
      have hbl : b < w2.heap.size := by
        obtain ⟨b', off', e', hcs'⟩ := CS.out (by omega)
        cases e'
        exact World.block_lt_of_cell? w2 _ (hcs' k hlt).1
      by_cases h1 : at_ < x
      · by_cases h2 : at_ < to_
        · obtain ⟨m, hm⟩ : ∃ m, m = min x to_ := ⟨_, rfl⟩
          have E0 := Lib.hid (show (O ++ [(at_, m)]) ++ freeL to_ (S.drop (k + 1)) (max at_ y) = freeL to_ S fr by
            rw [← FE.out, Z.out, ← X.out, ← Y.out, if_pos ⟨h1, h2⟩, List.append_assoc, hm])
          by_cases h3 : to_ < x
          · obtain rfl : m = to_ := by omega
            clear hm
            go_wp2_with (at_builtin; refine wpList_append_pairs rfl _ _ rfl w2.heap.size _ (.slice (some ⟨wr.heap.size, 0, none⟩) 1 1) O [(at_, m)] rfl rfl (OW.out.alloc _) (pairs_laid wr 177 [(at_, m)] #[.int .i64 at_, .int .i64 m] rfl (by simp)) (by first | omega | (simp; omega)) (by omega) (by simp) ?_)
            intro v' wa hown' hb'
            have B9 := Lib.hid (BW.out.trans (((Below.refl _ _).alloc hbs _).trans hb'))
            have R := Lib.hid (show wa.ownsRow w2.heap.size 177 2 v' (O ++ [(at_, m)]).length (pairsV (O ++ [(at_, m)])) by first | exact hown' | (rw [List.length_append]; exact hown'))
            have c1 : wa.cell? ⟨b, off + k * 2 + 1, none⟩ = some (.int .i64 y) := by rw [hb'.cell (p := ⟨b, off + k * 2 + 1, none⟩) hbl]; exact cell_below ((Below.refl _ _).alloc (Nat.le_refl _) _) c1
            clear hown' hb' c0
            by_cases h4 : at_ < y
            · have E := Lib.hid (show (O ++ [(at_, m)]) ++ freeL m (S.drop (k + 1)) y = freeL m S fr by rw [← E0.out, show max at_ y = y by omega])
              go_wp2
              go_roundg (S.length - (k + 1))
              case measure => rw [G.out]; omega
              case rel => exact ⟨k + 1, O ++ [(at_, m)], y, by omega, by go_num, rfl, rfl, by simp; omega, E, R.out, B9.out⟩
            · have E := Lib.hid (show (O ++ [(at_, m)]) ++ freeL m (S.drop (k + 1)) at_ = freeL m S fr by rw [← E0.out, show max at_ y = at_ by omega])
              go_wp2
              go_roundg (S.length - (k + 1))
              case measure => rw [G.out]; omega
              case rel => exact ⟨k + 1, O ++ [(at_, m)], at_, by omega, by go_num, rfl, rfl, by simp; omega, E, R.out, B9.out⟩
          · obtain rfl : m = x := by omega
            clear hm
            go_wp2_with (at_builtin; refine wpList_append_pairs rfl _ _ rfl w2.heap.size _ (.slice (some ⟨wr.heap.size, 0, none⟩) 1 1) O [(at_, m)] rfl rfl (OW.out.alloc _) (pairs_laid wr 177 [(at_, m)] #[.int .i64 at_, .int .i64 m] rfl (by simp)) (by first | omega | (simp; omega)) (by omega) (by simp) ?_)
            intro v' wa hown' hb'
            have B9 := Lib.hid (BW.out.trans (((Below.refl _ _).alloc hbs _).trans hb'))
            have R := Lib.hid (show wa.ownsRow w2.heap.size 177 2 v' (O ++ [(at_, m)]).length (pairsV (O ++ [(at_, m)])) by first | exact hown' | (rw [List.length_append]; exact hown'))
            have c1 : wa.cell? ⟨b, off + k * 2 + 1, none⟩ = some (.int .i64 y) := by rw [hb'.cell (p := ⟨b, off + k * 2 + 1, none⟩) hbl]; exact cell_below ((Below.refl _ _).alloc (Nat.le_refl _) _) c1
            clear hown' hb' c0
            by_cases h4 : at_ < y
            · have E := Lib.hid (show (O ++ [(at_, m)]) ++ freeL to_ (S.drop (k + 1)) y = freeL to_ S fr by rw [← E0.out, show max at_ y = y by omega])
              go_wp2
              go_roundg (S.length - (k + 1))
              case measure => rw [G.out]; omega
              case rel => exact ⟨k + 1, O ++ [(at_, m)], y, by omega, by go_num, rfl, rfl, by simp; omega, E, R.out, B9.out⟩
            · have E := Lib.hid (show (O ++ [(at_, m)]) ++ freeL to_ (S.drop (k + 1)) at_ = freeL to_ S fr by rw [← E0.out, show max at_ y = at_ by omega])
              go_wp2
              go_roundg (S.length - (k + 1))
              case measure => rw [G.out]; omega
              case rel => exact ⟨k + 1, O ++ [(at_, m)], at_, by omega, by go_num, rfl, rfl, by simp; omega, E, R.out, B9.out⟩
        · have E0 := Lib.hid (show O ++ freeL to_ (S.drop (k + 1)) (max at_ y) = freeL to_ S fr by
            rw [← FE.out, Z.out, ← Y.out, if_neg (fun h => h2 h.2)]; rfl)
          by_cases h4 : at_ < y
          · have E := Lib.hid (show O ++ freeL to_ (S.drop (k + 1)) y = freeL to_ S fr by rw [← E0.out, show max at_ y = y by omega])
            go_wp2
            go_roundg (S.length - (k + 1))
            case measure => rw [G.out]; omega
            case rel => exact ⟨k + 1, O, y, by omega, by go_num, rfl, rfl, by omega, E, OW.out, BW.out⟩
          · have E := Lib.hid (show O ++ freeL to_ (S.drop (k + 1)) at_ = freeL to_ S fr by rw [← E0.out, show max at_ y = at_ by omega])
            go_wp2
            go_roundg (S.length - (k + 1))
            case measure => rw [G.out]; omega
            case rel => exact ⟨k + 1, O, at_, by omega, by go_num, rfl, rfl, by omega, E, OW.out, BW.out⟩
      · have E0 := Lib.hid (show O ++ freeL to_ (S.drop (k + 1)) (max at_ y) = freeL to_ S fr by
            rw [← FE.out, Z.out, ← X.out, ← Y.out, if_neg (fun h => h1 h.1)]; rfl)
        by_cases h4 : at_ < y
        · have E := Lib.hid (show O ++ freeL to_ (S.drop (k + 1)) y = freeL to_ S fr by rw [← E0.out, show max at_ y = y by omega])
          go_wp2
          go_roundg (S.length - (k + 1))
          case measure => rw [G.out]; omega
          case rel => exact ⟨k + 1, O, y, by omega, by go_num, rfl, rfl, by omega, E, OW.out, BW.out⟩
        · have E := Lib.hid (show O ++ freeL to_ (S.drop (k + 1)) at_ = freeL to_ S fr by rw [← E0.out, show max at_ y = at_ by omega])
          go_wp2
          go_roundg (S.length - (k + 1))
          case measure => rw [G.out]; omega
          case rel => exact ⟨k + 1, O, at_, by omega, by go_num, rfl, rfl, by omega, E, OW.out, BW.out⟩
    · obtain rfl : k = S.length := by omega
      by_cases h2 : at_ < to_
      · have E := Lib.hid (show O ++ [(at_, to_)] = freeL to_ (normL L) fr by
          rw [← SE.out, ← FE.out, List.drop_length, freeL, if_pos h2])
        go_wp2_with (at_builtin; refine wpList_append_pairs rfl _ _ rfl w2.heap.size _ (.slice (some ⟨wr.heap.size, 0, none⟩) 1 1) O [(at_, to_)] rfl rfl (OW.out.alloc _) (pairs_laid wr 177 [(at_, to_)] #[.int .i64 at_, .int .i64 to_] rfl (by simp)) (by first | omega | (simp; omega)) (by omega) (by simp) ?_)
        intro v' wa hown' hb'
        have B9 := Lib.hid (B.out.trans ((BW.out.trans (((Below.refl _ _).alloc hbs _).trans hb')).mono B.out.size))
        have R := Lib.hid (show PairsR wa v' (O ++ [(at_, to_)]) from ownsRow_reads (show wa.ownsRow w2.heap.size 177 2 v' (O ++ [(at_, to_)]).length (pairsV (O ++ [(at_, to_)])) by first | exact hown' | (rw [List.length_append]; exact hown')))
        clear hown' hb' hb
        go_wp2
        go_ret
        exact ⟨_, rfl, by rw [← E.out]; exact R.out, B9.out⟩
      · have E := Lib.hid (show O = freeL to_ (normL L) fr by
          rw [← SE.out, ← FE.out, List.drop_length, freeL, if_neg h2]; simp)
        have B9 := Lib.hid (B.out.trans (BW.out.mono B.out.size))
        clear hb
        go_wp2
        go_ret
        exact ⟨_, rfl, by rw [← E.out]; exact ownsRow_reads OW.out, B9.out⟩

end Go.Proofs.YtgelojhpanbnaaaGreatDoor

namespace Go.Proofs.YtgelojhpanbnaaaGreatDoor
open Go.RowKit
set_option linter.unusedSimpArgs false
set_option linter.unusedVariables false

set_option maxHeartbeats 4000000 in
theorem busies_same (u v : Value) (L : List (Int × Int)) (w : World) (hu : PairsR w u L) (hv : PairsR w v L) :
    Calls Tryz.prog 40 #[u, v] w fun e w' => e = .returned (.bool true) ∧ Below w.heap.size w w' := by
  obtain ⟨p, cap, rfl, hc1, hc2, hcell⟩ := pairsR_open hu
  obtain ⟨q, caq, rfl, hd1, hd2, hdell⟩ := pairsR_open hv
  unfold maxLen at hc2 hd2
  have HC := Lib.hid hcell; have HD := Lib.hid hdell; clear hcell hdell hu hv
  go_enter Tryz.func40, Tryz.ntmps40
  go_wp2
  go_loopg [5] L.length (fun g i wr => ∃ k : Nat, k ≤ L.length ∧ i = .int .i64 k ∧ g = L.length - k ∧ ∃ n, wr = w.drewN n)
  case atStart => exact ⟨0, Nat.zero_le _, rfl, rfl, 0, rfl⟩
  case round =>
    obtain ⟨k, hk, rfl, hg, n, rfl⟩ := hrel
    have G := Lib.hid hg; clear hg
    by_cases hlt : k < L.length
    · obtain ⟨b1, off1, rfl, hcs⟩ := HC.out (by omega)
      obtain ⟨b2, off2, rfl, hds⟩ := HD.out (by omega)
      have c0 := (hcs k hlt).1
      have c1 := (hcs k hlt).2
      have d0 := (hds k hlt).1
      have d1 := (hds k hlt).2
      obtain ⟨x, hx⟩ : ∃ x, x = L[k].1 := ⟨_, rfl⟩
      obtain ⟨y, hy⟩ : ∃ y, y = L[k].2 := ⟨_, rfl⟩
      rw [← hx] at c0 d0; rw [← hy] at c1 d1
      clear hx hy hcs hds
      have i1 : (0 : Int) ≤ (k : Int) := Int.natCast_nonneg _
      have i2 : (k : Int) < (L.length : Int) := by omega
      go_wp2
      go_quiet (fail)
      go_wp2
      go_roundg (L.length - (k + 1))
      case measure => rw [G.out]; omega
      case rel => exact ⟨k + 1, by omega, by go_num, rfl, _, rfl⟩
    · obtain rfl : k = L.length := by omega
      go_wp2
      go_ret
      exact ⟨rfl, below_drewN (Below.refl _ _) _⟩

end Go.Proofs.YtgelojhpanbnaaaGreatDoor

namespace Go.Proofs.YtgelojhpanbnaaaGreatDoor
open Go.RowKit
set_option linter.unusedSimpArgs false
set_option linter.unusedVariables false

set_option maxHeartbeats 4000000 in
theorem rslot_any (v : Value) (L : List (Int × Int)) (n : Int) (w : World) (hL : PairsR w v L) (hg : Good L) :
    Calls Tryz.prog 45 #[v, .int .i64 n] w fun e w' => e = .returned (.tuple #[.int .i64 (firstV n L), .int .i64 (bfirstE n L)]) ∧ Below w.heap.size w w' := by
  obtain ⟨a, cap, rfl, hc1, hc2, hcell⟩ := pairsR_open hL
  unfold maxLen at hc2
  have CS := Lib.hid hcell
  have GD := Lib.hid hg
  clear hcell hL hg
  by_cases h1 : n < 1
  · have E := Lib.hid (show bfirstE n L = 1 by rw [bfirstE, if_pos (.inl h1)])
    have V := Lib.hid (show firstV n L = 0 by rw [firstV, if_pos (.inl h1)])
    go_enter Tryz.func45, Tryz.ntmps45
    go_wp2
    go_ret2
    exact ⟨by rw [E.out, V.out]; rfl, Below.refl _ _⟩
  by_cases h2 : 1000000 < n
  · have E := Lib.hid (show bfirstE n L = 1 by rw [bfirstE, if_pos (.inr h2)])
    have V := Lib.hid (show firstV n L = 0 by rw [firstV, if_pos (.inr h2)])
    go_enter Tryz.func45, Tryz.ntmps45
    go_wp2
    go_ret2
    exact ⟨by rw [E.out, V.out]; rfl, Below.refl _ _⟩
  have HN := Lib.hid (show ¬ (n < 1 ∨ 1000000 < n) by omega)
  go_enter Tryz.func45, Tryz.ntmps45
  go_wp2
  go_loopg [6] L.length (fun g i wr => ∃ k : Nat, k ≤ L.length ∧ i = .int .i64 k ∧ Hid ((L.take k).any (fitB n) = false) ∧ g = L.length - k ∧ Below w.heap.size w wr)
  case atStart => exact ⟨0, Nat.zero_le _, rfl, Lib.hid (by simp), rfl, Below.refl _ _⟩
  case round =>
    obtain ⟨k, hk, rfl, hS, hg, hb⟩ := hrel
    have G := Lib.hid hg; clear hg
    have B := Lib.hid hb
    by_cases hlt : k < L.length
    · obtain ⟨b, off, rfl, hcs⟩ := CS.out (by omega)
      have c0 := cell_below hb (hcs k hlt).1
      have c1 := cell_below hb (hcs k hlt).2
      have hg := GD.out L[k] (List.getElem_mem hlt)
      obtain ⟨x, hx⟩ : ∃ x, x = L[k].1 := ⟨_, rfl⟩
      obtain ⟨y, hy⟩ : ∃ y, y = L[k].2 := ⟨_, rfl⟩
      rw [← hx, ← hy] at hg
      rw [← hx] at c0; rw [← hy] at c1
      have XY := Lib.hid (show L[k] = (x, y) by rw [hx, hy])
      clear hx hy hcs hb
      obtain ⟨g1, g2, g3⟩ := hg
      have i1 : (0 : Int) ≤ (k : Int) := Int.natCast_nonneg _
      have i2 : (k : Int) < (L.length : Int) := by omega
      have s1 : IntKind.i64.wrap (y - x) = y - x := IntWalk.i64_in _ (by omega)
      by_cases he : n ≤ y - x
      · have F := Lib.hid (find_yes (p := fitB n) hlt hS.out (by rw [XY.out, fitB]; simpa using he))
        have E := Lib.hid (show bfirstE n L = 0 by rw [bfirstE, if_neg HN.out, F.out]; rfl)
        have V := Lib.hid (show firstV n L = x by rw [firstV, if_neg HN.out, F.out, XY.out]; rfl)
        go_wp2
        go_quiet (fail)
        go_wp2
        go_ret2
        exact ⟨by rw [E.out, V.out]; rfl, below_drewN B.out _⟩
      · have E := Lib.hid (take_no (p := fitB n) hlt hS.out (by rw [XY.out, fitB]; simpa using he))
        go_wp2
        go_quiet (fail)
        go_wp2
        go_roundg (L.length - (k + 1))
        case measure => rw [G.out]; omega
        case rel => exact ⟨k + 1, by omega, by go_num, E, rfl, below_drewN B.out _⟩
    · obtain rfl : k = L.length := by omega
      have F := Lib.hid (show L.find? (fitB n) = none by
        have := hS.out; rw [List.take_length] at this
        exact List.find?_eq_none.2 fun x hx => by have := List.any_eq_false.1 this x hx; simpa using this)
      have E := Lib.hid (show bfirstE n L = 5 by rw [bfirstE, if_neg HN.out, F.out]; rfl)
      have V := Lib.hid (show firstV n L = 0 by rw [firstV, if_neg HN.out, F.out]; rfl)
      clear hS hb
      go_wp2
      go_ret2
      exact ⟨by rw [E.out, V.out]; rfl, B.out⟩

end Go.Proofs.YtgelojhpanbnaaaGreatDoor
