/- Contracts of busy.Of and what it calls: the order, the sort, the clone; busy.Check, busy.stretch. Condition: lists of fewer than 10000 stretches. -/
import Derived.Test.YtdkcgggnkhbkkaaDoorBusyM
import Derived.Test.YtdkcgggnkhbkkaaDoorSortK
import Derived.Test.YtdkcgggnkhbkkaaDoorShBusy
import Derived.Test.YtdkcgggnkhbkkaaDoorCmp
import Derived.Test.YtdkcgggnkhbkkaaDoorClockA
import Derived.Deep.RegionHeld3
import Derived.Deep.AppendLies
import Derived.Deep.LoopGhost
import Derived.Deep.DeepCutAuto
import Derived.Laws.OwnMore
import Derived.RegionTactic
import Derived.ChangeAlike
import Derived.Outline
namespace Go.Proofs.YtdkcgggnkhbkkaaDoor
open Go.RowKit Go.Sort
set_option linter.unusedSimpArgs false
set_option linter.unusedVariables false

/-- a stretch as cells. -/
def encB (x : Int × Int) : List Value := [.int .i64 x.1, .int .i64 x.2]

theorem pairsV_enc (L : List (Int × Int)) : pairsV L = L.flatMap encB := rfl

/-- how one stretch stands to another. -/
def busyC (x y : Int × Int) : Int := orQ [cmpQ x.1 y.1, cmpQ x.2 y.2]

theorem grow_end3 (w : World) (a b c : Obj) : ∃ q os, ((((w.alloc a).alloc b).alloc c).drew) = grow (w.drewN q) os :=
  ⟨1, #[a, b, c], by rw [alloc_eq_grow, alloc_eq_grow, alloc_eq_grow, grow_grow, grow_grow]; rfl⟩

set_option maxHeartbeats 1000000 in
theorem busyC_any (x y : Int × Int) (w : World) :
    Calls Tryd.prog 112 #[.agg #[.int .i64 x.1, .int .i64 x.2], .agg #[.int .i64 y.1, .int .i64 y.2]] w fun e w' => e = .returned (.int .i64 (busyC x y)) ∧ ∃ q os, w' = grow (w.drewN q) os := by
  obtain ⟨r, hr⟩ : ∃ r, r = busyC x y := ⟨_, rfl⟩
  have R := Lib.hid (show orQ [cmpQ x.1 y.1, cmpQ x.2 y.2] = r by rw [hr]; rfl)
  rw [← hr]
  clear hr
  obtain ⟨x1, x2⟩ := x
  obtain ⟨y1, y2⟩ := y
  simp only at R ⊢
  go_enter Tryd.func112, Tryd.ntmps112
  go_wp2_with fail
  obtain ⟨w0, hw0⟩ : ∃ w0, w0 = (w.alloc (.cells #[.int .i64 x1, .int .i64 x2] 41)).alloc (.cells #[.int .i64 y1, .int .i64 y2] 41) := ⟨_, rfl⟩
  rw [← hw0]
  have c0 : w0.cell? ⟨w.heap.size, 0, none⟩ = some (.int .i64 x1) := by rw [hw0]; simp
  have c1 : w0.cell? ⟨w.heap.size, 1, none⟩ = some (.int .i64 x2) := by rw [hw0]; simp
  have d0 : w0.cell? ⟨w.heap.size + 1, 0, none⟩ = some (.int .i64 y1) := by rw [hw0]; simp
  have d1 : w0.cell? ⟨w.heap.size + 1, 1, none⟩ = some (.int .i64 y2) := by rw [hw0]; simp
  have W0 := Lib.hid hw0
  clear hw0
  go_region_held3 (fun w' => w'.cell? ⟨w.heap.size, 0, none⟩ = some (.int .i64 x1) ∧ w'.cell? ⟨w.heap.size, 1, none⟩ = some (.int .i64 x2) ∧ w'.cell? ⟨w.heap.size + 1, 0, none⟩ = some (.int .i64 y1) ∧ w'.cell? ⟨w.heap.size + 1, 1, none⟩ = some (.int .i64 y2))
    (go_keep)
    (first
      | (go_at_call 64; refine (cmpq_any _ _ _).mono ?_; rintro e w' ⟨rfl, rfl⟩)
      | (go_at_call 63; refine (orq_any _ [cmpQ x1 y1, cmpQ x2 y2] _ ⟨_, 2, rfl, by simp, by simp, by decide, fun _ => ⟨_, 0, rfl, fun j u hj => by match j, hj with | 0, hj => (simp at hj; subst hj; simp) | 1, hj => (simp at hj; subst hj; simp)⟩⟩).mono ?_; rintro e w' ⟨rfl, rfl⟩))
  all_goals
    go_wp2
    go_ret
    exact ⟨by rw [← R.out]; rfl, by rw [W0.out]; first | exact grow_end3 w _ _ _ | exact ⟨1, #[_, _, _], by rw [alloc_eq_grow, alloc_eq_grow, alloc_eq_grow, grow_grow, drew_grow]; rfl⟩⟩

theorem cmpQ_lt (a b : Int) : cmpQ a b < 0 ↔ a < b := by unfold cmpQ; split <;> (try split) <;> omega

theorem busyC_lt (x y : Int × Int) : busyC x y < 0 ↔ (x.1 < y.1 ∨ (x.1 = y.1 ∧ x.2 < y.2)) := by
  unfold busyC orQ cmpQ
  by_cases h1 : x.1 < y.1
  · simp [h1]
  · by_cases h2 : y.1 < x.1
    · simp [h1, h2]; omega
    · by_cases h3 : x.2 < y.2
      · simp [h1, h2, h3]; omega
      · by_cases h4 : y.2 < x.2
        · simp [h1, h2, h3, h4]
        · simp [h1, h2, h3, h4]

theorem busyLt (x y : Int × Int) : ltOf busyC x y = true ↔ (x.1 < y.1 ∨ (x.1 = y.1 ∧ x.2 < y.2)) := by
  rw [ltOf, decide_eq_true_eq, busyC_lt]

theorem busyLt_no (x y : Int × Int) : ltOf busyC x y = false ↔ (y.1 < x.1 ∨ (x.1 = y.1 ∧ y.2 ≤ x.2)) := by
  rw [ltOf, decide_eq_false_iff_not, busyC_lt]; omega

theorem busySWO : SWO (ltOf busyC) where
  irrefl x := by rw [busyLt_no]; omega
  trans x y z h1 h2 := by rw [busyLt] at *; omega
  ntrans x y z h1 h2 := by rw [busyLt_no] at *; omega

theorem busyTot (x y : Int × Int) (h1 : ltOf busyC x y = false) (h2 : ltOf busyC y x = false) : x = y := by
  rw [busyLt_no] at h1 h2
  exact Prod.ext (by omega) (by omega)

/-- stretches in order. -/
def srtB (L : List (Int × Int)) : List (Int × Int) := L.mergeSort fun x y => !(ltOf busyC) y x

theorem srtB_len (L : List (Int × Int)) : (srtB L).length = L.length := List.length_mergeSort L

theorem srtB_perm (L : List (Int × Int)) : (srtB L).Perm L := List.mergeSort_perm L _

theorem srtB_ord (L : List (Int × Int)) : (srtB L).Pairwise (fun a b => a.1 ≤ b.1) := by
  have h := List.pairwise_mergeSort (le := fun x y => !(ltOf busyC) y x) (fun a b c h1 h2 => by
    simp only [Bool.not_eq_true', busyLt_no] at *; omega) (fun a b => by
    simp only [Bool.or_eq_true, Bool.not_eq_true', busyLt_no]; omega) L
  exact h.imp fun {a b} h => by simp only [Bool.not_eq_true', busyLt_no] at h; omega

theorem sortB_any {base : Nat} (v : Value) (L : List (Int × Int)) (w : World) (hown : w.ownsRow base 41 2 v L.length (pairsV L)) (hne : L ≠ []) (hlen : L.length < 4611686018427387904) :
    Calls Tryd.prog 111 #[v, .func (.func 112) #[] #[]] w fun e w' => e = .returned (.tuple #[]) ∧ w'.ownsRow base 41 2 v L.length (pairsV (srtB L)) ∧ w.grownBy w' v.ownBlock := by
  have hk : ∀ x : Int × Int, (encB x).length = 2 := fun _ => rfl
  rcases hown.2 with ⟨rfl, h0⟩ | ⟨g, cap, cur, rfl, hb, hg, hn, hc, hs, ht⟩
  · exact absurd (List.length_eq_zero_iff.1 h0) hne
  · have hgl : g < w.heap.size := (Array.getElem?_eq_some_iff.1 hg).1
    have hH : HoldsK encB 2 w g 0 L.toArray := holdsK_own hk L hg ht
    have eg : ∀ args w, (callFunc 112 args).run Tryd.prog w = .ok (.enter 112 args) w := enters_of Tryd.func112 (by kernel_rfl) rfl
    have hcmp : CmpLays Tryd.prog 112 #[] encB 2 busyC g 0 L.toArray.size w := fun _ _ _ _ x y => busyC_any x y _
    have h := AnyQ.slices_SortFunc_total Tryd.sortBusy 2 Tryd.isAgg41 Tryd.sizeOf41 encB hk (fun x u hu => by simp [encB] at hu; rcases hu with rfl | rfl <;> rfl) busyC busySWO 112 #[] g 0 cap L.toArray w eg hcmp hH hgl (by simpa using hlen) busyTot
    change Calls Tryd.prog 111 _ _ _ at h
    refine h.mono ?_
    rintro e w' ⟨rfl, n, os, rfl⟩
    exact ⟨rfl, ownsRow_sortedK hk (srtB L) (srtB_len L) hb hg hn hc hs, grownBy_putId _⟩

theorem sortB_none (p : Option Addr) (cap : Nat) (fv : Value) (w : World) :
    Calls Tryd.prog 111 #[.slice p 0 cap, fv] w fun e w' => e = .returned (.tuple #[]) ∧ w = w' :=
  (show Calls Tryd.prog 111 _ _ _ from AnyF.slices_SortFunc_none Tryd.sortBusy p cap fv w).mono fun e w' ⟨h1, h2⟩ => ⟨h1, h2.symm⟩

theorem busyInfo : (Tryd.prog.info? 41).map (fun i => (i.zero, i.size, i.bytes)) = some (some (.agg #[.int .i64 0, .int .i64 0]), 2, 16) := by kernel_rfl

theorem cloneB_some (v : Value) (L : List (Int × Int)) (w : World) (hL : PairsR w v L) (hne : L ≠ []) (hlen : L.length ≤ 100000) :
    Calls Tryd.prog 110 #[v] w fun e w' => ∃ u, e = .returned u ∧ w'.ownsRow w.heap.size 41 2 u L.length (pairsV L) ∧ Below w.heap.size w w' := by
  obtain ⟨i0, hi, hz0, hz1, hz2⟩ := info_parts busyInfo
  obtain ⟨a, cap, rfl, hl, hn, hm, hc⟩ := hL
  have hp := List.length_pos_iff.2 hne
  obtain ⟨b, off, rfl, hcs⟩ := hc hp
  have h := AnyE.slices_Clone Tryd.cloneBusy i0 _ 2 16 hi hz0 hz1 hz2 rfl (by decide) Tryd.sizeOf41 b off L.length cap (pairsV L) w hl (by unfold maxLen; omega) (by omega) hcs (fun u hu => by
    simp only [pairsV, List.mem_flatMap] at hu
    obtain ⟨p, _, hu⟩ := hu
    simp at hu; rcases hu with rfl | rfl <;> rfl)
  change Calls Tryd.prog 110 _ _ _ at h
  exact h.mono fun e w' ⟨u, h1, h2, _, h4⟩ => ⟨u, h1, h2, h4⟩

set_option maxRecDepth 100000 in
theorem cloneB_none (a : Option Addr) (cap : Nat) (w : World) :
    Calls Tryd.prog 110 #[.slice a 0 cap] w fun e w' => ∃ p c, e = .returned (.slice p 0 c) ∧ Below w.heap.size w w' := by
  cases a with
  | none =>
    have h := AnyE.slices_Clone_nil Tryd.cloneBusy 0 cap w
    change Calls Tryd.prog 110 _ _ _ at h
    exact h.mono fun e w' ⟨h1, h2⟩ => ⟨none, 0, h1, by rw [h2]; exact Below.refl _ _⟩
  | some a =>
    have q := fun w => Lib.run_eql_slice_nil (P := Tryd.prog) w 37 _ (some a) 0 cap 0 0 Tryd.underlying37
    go_enter Tryd.func110, Tryd.ntmps110
    go_wp2
    go_ret
    exact ⟨_, _, rfl, by first | exact Below.refl _ _ | exact (Below.refl _ _).alloc (Nat.le_refl _) _⟩

/-- what holds of the loop of busy.Of. -/
theorem pairsV_set (L : List (Int × Int)) : ∀ (i : Nat) (h : i < L.length) (u : Int), (pairsV L).set (i * 2 + 1) (.int .i64 u) = pairsV (L.set i (L[i].1, u)) := by
  induction L with
  | nil => intro i h; simp at h
  | cons p r ih =>
    intro i h u
    cases i with
    | zero => simp [pairsV]
    | succ i =>
      have := ih i (by simpa using h) u
      simp only [pairsV, List.flatMap_cons, List.cons_append, List.nil_append, List.getElem_cons_succ, List.set_cons_succ] at *
      rw [show (i + 1) * 2 = i * 2 + 1 + 1 by omega]
      simp only [List.set_cons_succ, this]

theorem stepL_same {out : List (Int × Int)} {b : Int × Int} (h : b.1 = b.2) : stepL out b = out := by rw [stepL, if_pos h]

theorem stepL_new {out : List (Int × Int)} {b : Int × Int} (h : b.1 ≠ b.2) (h2 : out = [] ∨ ∃ k : Nat, ∃ hk : k < out.length, k + 1 = out.length ∧ ¬ b.1 ≤ out[k].2) : stepL out b = out ++ [b] := by
  rw [stepL, if_neg h]
  rcases h2 with rfl | ⟨k, hk, he, hb⟩
  · rfl
  · have : out.getLast? = some out[k] := by rw [List.getLast?_eq_getElem?, show out.length - 1 = k by omega, List.getElem?_eq_getElem hk]
    rw [this]; simp only [if_neg hb]

theorem stepL_join {out : List (Int × Int)} {b : Int × Int} (h : b.1 ≠ b.2) {k : Nat} (hk : k < out.length) (he : k + 1 = out.length) (hb : b.1 ≤ out[k].2) : stepL out b = out.set k (out[k].1, max out[k].2 b.2) := by
  rw [stepL, if_neg h]
  have : out.getLast? = some out[k] := by rw [List.getLast?_eq_getElem?, show out.length - 1 = k by omega, List.getElem?_eq_getElem hk]
  rw [this]; simp only [if_pos hb]
  have e2 : out.dropLast = out.take k := by rw [List.dropLast_eq_take, show out.length - 1 = k by omega]
  rw [e2, List.set_eq_take_append_cons_drop, if_pos hk, List.drop_of_length_le (by omega)]

theorem stepL_len (out : List (Int × Int)) (b : Int × Int) : (stepL out b).length ≤ out.length + 1 := by
  by_cases h : b.1 = b.2
  · rw [stepL_same h]; omega
  · rw [stepL, if_neg h]
    cases hl : out.getLast? with
    | none => simp
    | some k => simp only; split <;> simp <;> omega

theorem foldS_len : ∀ (L out : List (Int × Int)), (L.foldl stepL out).length ≤ out.length + L.length
  | [], out => by simp
  | b :: L, out => by have h := foldS_len L (stepL out b); have h2 := stepL_len out b; simp only [List.foldl_cons, List.length_cons]; omega

theorem foldS_snoc (L : List (Int × Int)) (k : Nat) (h : k < L.length) : (L.take (k + 1)).foldl stepL [] = stepL ((L.take k).foldl stepL []) L[k] := by
  rw [List.take_succ_eq_append_getElem h, List.foldl_append]; rfl

theorem ownsRow_kept {B : Nat} {e : TypeId} {k : Nat} {v : Value} {n : Nat} {xs : List Value} {w w' : World} (h : w.ownsRow B e k v n xs) (hb : Below w.heap.size w w') : w'.ownsRow B e k v n xs := by
  refine ⟨h.1, ?_⟩
  rcases h.2 with hn | ⟨g, cap, cur, hv, hg1, hg2, rest⟩
  · exact .inl hn
  · refine .inr ⟨g, cap, cur, hv, hg1, ?_, rest⟩
    rw [hb.block g (by
      rcases Nat.lt_or_ge g w.heap.size with h' | h'
      · exact h'
      · simp [Array.getElem?_eq_none h'] at hg2)]
    exact hg2

theorem ownsRow_base {B B' : Nat} {e : TypeId} {k : Nat} {v : Value} {n : Nat} {xs : List Value} {w : World} (h : w.ownsRow B e k v n xs) (hB : B' ≤ B) : w.ownsRow B' e k v n xs := by
  refine ⟨h.1, ?_⟩
  rcases h.2 with hn | ⟨g, cap, cur, hv, hg1, rest⟩
  · exact .inl hn
  · exact .inr ⟨g, cap, cur, hv, Nat.le_trans hB hg1, rest⟩

theorem ownsRow_open {B : Nat} {e : TypeId} {v : Value} {O : List (Int × Int)} {w : World} (h : w.ownsRow B e 2 v O.length (pairsV O)) :
    ∃ oa oc, v = .slice oa O.length oc ∧ oc ≤ 9223372036854775807 ∧ (∀ k (hk : k < O.length), ∃ g, oa = some ⟨g, 0, none⟩ ∧ w.cell? ⟨g, k * 2, none⟩ = some (.int .i64 O[k].1) ∧ w.cell? ⟨g, k * 2 + 1, none⟩ = some (.int .i64 O[k].2) ∧ w.frozen? ⟨g, k * 2 + 1, none⟩ = false) := by
  have hr : PairsR w v O := ownsRow_reads h
  rcases h.2 with ⟨rfl, h0⟩ | ⟨g, cap, cur, rfl, hb, hg, hn, hc, hs, ht⟩
  · exact ⟨none, 0, by rw [h0], by omega, fun k hk => absurd hk (by omega)⟩
  · refine ⟨_, cap, rfl, by unfold maxLen at hc; omega, fun k hk => ⟨g, rfl, ?_⟩⟩
    obtain ⟨a', c', e', _, _, hcs⟩ := pairsR_open hr
    obtain ⟨b', o', e2, hcs⟩ := hcs (by omega)
    cases e'
    cases e2
    have := hcs k hk
    rw [Nat.zero_add] at this
    exact ⟨this.1, this.2, h.frozenAt _⟩

/-- what is taken, in order and joined. -/
def ofL (L : List (Int × Int)) : List (Int × Int) := (srtB L).foldl stepL []

theorem ofL_len (L : List (Int × Int)) : (ofL L).length ≤ L.length := by unfold ofL; have := foldS_len (srtB L) []; rw [srtB_len] at this; simpa using this

theorem ofL_norm {L : List (Int × Int)} (h : ∀ b ∈ L, b.1 ≤ b.2) : ofL L = normL L := norm_sorted (srtB_perm L) (srtB_ord L) h

/-- what busy.Of answers. -/
def OfP (L : List (Int × Int)) (w : World) (e : Ending) (w' : World) : Prop :=
  ∃ v, e = .returned v ∧ w'.ownsRow w.heap.size 41 2 v (ofL L).length (pairsV (ofL L)) ∧ Below w.heap.size w w'

set_option maxRecDepth 100000 in
set_option maxHeartbeats 4000000 in
theorem of_any (v : Value) (L : List (Int × Int)) (w : World) (hL : PairsR w v L) (hlen : L.length ≤ 10000) :
    Calls Tryd.prog 68 #[v] w (OfP L w) := by
  obtain ⟨i0, hi, hz0, hz1, hz2⟩ := info_parts busyInfo
  by_cases hne : L = []
  · subst hne
    obtain ⟨a, cap, rfl, _, _, _⟩ := pairsR_open hL
    go_enter Tryd.func68, Tryd.ntmps68
    go_wp2_with fail
    refine (cloneB_none a cap _).mono ?_; rintro e w1 ⟨p, c, rfl, hb⟩
    have B := Lib.hid hb; clear hb
    go_wp2_with fail
    refine (sortB_none p c _ _).mono ?_; rintro e w2 ⟨rfl, rfl⟩
    go_wp2
    go_loopg [2, 12] 0 (fun g ov iv wr => ov = .slice none 0 0 ∧ iv = .int .i64 0 ∧ g = 0 ∧ wr = w1)
    case atStart => exact ⟨rfl, rfl, rfl, rfl⟩
    case round =>
      obtain ⟨rfl, rfl, hg, rfl⟩ := hrel
      clear hg
      go_wp2
      go_ret
      exact ⟨_, rfl, by rw [show ofL [] = [] by simp [ofL, srtB]]; exact World.ownsRow_nil _ _ _ _, B.out⟩
  · have HL := Lib.hid hL; have NE := Lib.hid hne
    obtain ⟨S, hS⟩ : ∃ S, S = srtB L := ⟨_, rfl⟩
    have hSl : S.length = L.length := by rw [hS, srtB_len]
    have SE := Lib.hid hS
    have SL := Lib.hid hSl
    have hsz : S.length ≤ 10000 := by omega
    have hpos : 0 < S.length := by rw [hSl]; exact List.length_pos_iff.2 hne
    clear hL hne hS hSl
    obtain ⟨va, vc, rfl, _, _, _⟩ := pairsR_open HL.out
    go_enter Tryd.func68, Tryd.ntmps68
    go_wp2_with fail
    refine (cloneB_some _ L _ HL.out NE.out (by omega)).mono ?_; rintro e w1 ⟨u, rfl, hown, hb⟩
    have B := Lib.hid hb
    have hsz1 := hb.size
    clear hb
    go_wp2_with fail
    refine (sortB_any u L _ hown NE.out (by omega)).mono ?_; rintro e w2 ⟨rfl, hown2, hgr⟩
    rw [← SE.out, ← SL.out] at hown2
    have B := Lib.hid ((B.out.grown hgr hsz1 (ownBlock_ge hown)))
    have PR := Lib.hid (show PairsR w2 u S from ownsRow_reads hown2)
    clear hown hown2 hgr hsz1
    obtain ⟨ua, uc, rfl, _, kc, hcell⟩ := pairsR_open PR.out
    obtain ⟨ub, uo, rfl, hcs⟩ := hcell hpos
    have CS := Lib.hid hcs
    unfold maxLen at kc
    clear hcell hcs
    go_wp2
    go_loopg [2, 12] S.length (fun g ov iv wr => ∃ (k : Nat) (O : List (Int × Int)), k ≤ S.length ∧ iv = .int .i64 k ∧ g = S.length - k ∧ Hid (O = (S.take k).foldl stepL []) ∧ wr.ownsRow w2.heap.size 41 2 ov O.length (pairsV O) ∧ Below w2.heap.size w2 wr)
    case atStart => exact ⟨0, [], Nat.zero_le _, rfl, rfl, Lib.hid rfl, World.ownsRow_nil _ _ _ _, Below.refl _ _⟩
    case round =>
      obtain ⟨k, O, hk, rfl, hg, OE, hown, hb⟩ := hrel
      have G := Lib.hid hg; clear hg
      have BW := Lib.hid hb
      have hbs := hb.size
      have OW := Lib.hid hown
      by_cases hlt : k < S.length
      · have hOl : O.length ≤ 10000 := by
          have := foldS_len (S.take k) []
          rw [OE.out]; simp at this; omega
        have u0 := cell_below hb (CS.out k hlt).1
        have u1 := cell_below hb (CS.out k hlt).2
        have FS := Lib.hid (foldS_snoc S k hlt)
        obtain ⟨b, hb0⟩ : ∃ b, b = S[k] := ⟨_, rfl⟩
        obtain ⟨x, y⟩ := b
        rw [← hb0] at u0 u1
        have BE := Lib.hid hb0
        simp only at u0 u1
        clear hb0 hb
        have i1 : (0 : Int) ≤ (k : Int) := Int.natCast_nonneg _
        have i2 : (k : Int) < (S.length : Int) := by omega
        obtain ⟨oa, oc, rfl, ko, hocell⟩ := ownsRow_open hown
        have OC := Lib.hid hocell
        clear hocell
        have l1 : (0 : Int) ≤ (O.length : Int) := Int.natCast_nonneg _
        by_cases hxy : x = y
        · have t : (x == y) = true := by simpa using hxy
          have E := Lib.hid (show O = (S.take (k + 1)).foldl stepL [] by rw [FS.out, ← OE.out, ← BE.out, stepL_same hxy])
          clear hxy hown
          go_wp2
          go_roundg (S.length - (k + 1))
          case measure => rw [G.out]; omega
          case rel => exact ⟨k + 1, O, by omega, by go_num, rfl, E, OW.out.alloc _, BW.out.alloc hbs _⟩
        · have t : (x == y) = false := by simpa using hxy
          have HX := Lib.hid hxy
          clear hxy
          obtain ⟨wb, hwb⟩ : ∃ wb, wb = wr.alloc (.cells #[.int .i64 x, .int .i64 y] 41) := ⟨_, rfl⟩
          have x0 : wb.cell? ⟨wr.heap.size, 0, none⟩ = some (.int .i64 x) := by rw [hwb]; simp
          have x1 : wb.cell? ⟨wr.heap.size, 1, none⟩ = some (.int .i64 y) := by rw [hwb]; simp
          have BB := Lib.hid (show Below wr.heap.size wr wb by rw [hwb]; exact (Below.refl _ _).alloc (Nat.le_refl _) _)
          obtain ⟨xb, hxb⟩ : ∃ xb, xb = wr.heap.size := ⟨_, rfl⟩
          rw [← hxb] at x0 x1
          have XB := Lib.hid hxb
          have WB := Lib.hid hwb
          have OWB := Lib.hid (ownsRow_kept OW.out BB.out)
          clear hwb hxb hown
          go_upto_region 9 with fail
          rw [← WB.out, ← XB.out]
          clear u0 u1
          go_cut [29] (fun s29 wx => ∃ jb : Bool, s29 = .bool jb ∧ Hid (jb = true → ∃ n : Nat, ∃ hn : n < O.length, n + 1 = O.length ∧ x ≤ O[n].2) ∧ Hid (jb = false → O = [] ∨ ∃ n : Nat, ∃ hn : n < O.length, n + 1 = O.length ∧ ¬ x ≤ O[n].2) ∧ ∃ q, wx = wb.drewN q)
          case first => as_aux_lemma =>
            by_cases hO : O.length = 0
            · have z1 : decide ((1 : Int) ≤ (O.length : Int)) = false := decide_eq_false (by omega)
              have z2 : decide ((0 : Int) ≤ (O.length : Int) - 1) = false := decide_eq_false (by omega)
              have N := Lib.hid (show O = [] from List.length_eq_zero_iff.1 hO)
              clear hO
              go_wp2
              go_quiet (fail)
              go_wp2
              go_meet
              exact ⟨false, rfl, Lib.hid (fun h => by cases h), Lib.hid (fun _ => .inl N.out), _, rfl⟩
            · obtain ⟨n, hn⟩ : ∃ n, n = O.length - 1 := ⟨_, rfl⟩
              have hn1 : n + 1 = O.length := by omega
              have hn2 : n < O.length := by omega
              obtain ⟨g, rfl, o0, o1, of⟩ := OC.out n hn2
              have o1b := cell_below BB.out o1
              have z1 : decide ((1 : Int) ≤ (O.length : Int)) = true := decide_eq_true (by omega)
              have z2 : decide ((0 : Int) ≤ (O.length : Int) - 1) = true := decide_eq_true (by omega)
              have z3 : ((O.length : Int) - 1).toNat = n := by omega
              have z4 : (O.length : Int) - 1 < (O.length : Int) := by omega
              have z5 : (1 : Int) ≤ (O.length : Int) := by omega
              have z6 : (0 : Int) ≤ (O.length : Int) - 1 := by omega
              obtain ⟨p, hp⟩ : ∃ p, p = O[n].2 := ⟨_, rfl⟩
              rw [← hp] at o1b
              have N1 := Lib.hid hn1
              have P := Lib.hid hp
              clear hn hn1 hO hp o0 o1 of
              by_cases hxp : x ≤ p
              · have z7 : decide (x ≤ p) = true := decide_eq_true hxp
                go_wp2
                go_quiet (fail)
                go_wp2
                go_meet
                exact ⟨true, rfl, Lib.hid (fun _ => ⟨n, hn2, N1.out, by rw [← P.out]; exact hxp⟩), Lib.hid (fun h => by cases h), _, rfl⟩
              · have z7 : decide (x ≤ p) = false := decide_eq_false hxp
                go_wp2
                go_quiet (fail)
                go_wp2
                go_meet
                exact ⟨false, rfl, Lib.hid (fun h => by cases h), Lib.hid (fun _ => .inr ⟨n, hn2, N1.out, by rw [← P.out]; exact hxp⟩), _, rfl⟩
          case rest =>
          obtain ⟨jb, rfl, J1, J2, q, hwd⟩ := hcut
          have BD := Lib.hid (show Below wb.heap.size wb wc by rw [hwd]; exact below_drewN (Below.refl _ _) _)
          obtain ⟨wd, rfl⟩ : ∃ wd, wd = wc := ⟨_, rfl⟩
          clear hwd
          have OWD := Lib.hid (ownsRow_kept OWB.out BD.out)
          have x0 := cell_below BD.out x0
          have x1 := cell_below BD.out x1
          have BT := Lib.hid (BW.out.trans ((BB.out.trans (BD.out.mono BB.out.size)).mono hbs))
          have hdz := BT.out.size
          cases jb
          · have E := Lib.hid (show O ++ [(x, y)] = (S.take (k + 1)).foldl stepL [] by rw [FS.out, ← OE.out, ← BE.out, stepL_new HX.out (J2.out rfl)])
            have hown := OWD.out
            go_wp2_with (at_builtin; refine wpList_append_lies _ rfl _ _ 37 rfl w2.heap.size 41 i0 _ 2 16 Tryd.underlying37 hi hz0 hz1 hz2 rfl (by decide) _ _ _ rfl (hown.alloc _) ⟨wd.heap.size, 0, none⟩ 1 1 [.int .i64 x, .int .i64 y] rfl rfl ?c1x1 ?c1x2 (by decide) (by unfold maxLen; omega) (by omega) (by simp; omega) _ rfl ?_)
            try (case c1x1 => exact World.news_of_block (cs := #[.int .i64 x, .int .i64 y]) (heap_alloc_new wd _))
            case c1x2 => first | exact ⟨rfl, rfl⟩ | (intro u hu; simp at hu; rcases hu with rfl | rfl <;> rfl)
            intro g cap1 w9 hown1 hgrow1 hat1 hlt1
            have hB1 := Lib.hid ((BT.out.alloc hdz (.cells #[.int .i64 x, .int .i64 y] 41)).grown hgrow1 (by simp; omega) (ownBlock_ge hown))
            have R := Lib.hid (show w9.ownsRow w2.heap.size 41 2 (.slice (some ⟨g, 0, none⟩) (O.length + 1) cap1) (O ++ [(x, y)]).length (pairsV (O ++ [(x, y)])) by
              rw [List.length_append, show pairsV (O ++ [(x, y)]) = pairsV O ++ [.int .i64 x, .int .i64 y] by simp [pairsV]]; exact hown1)
            clear hown1 hgrow1 hat1 hlt1 hown
            go_wp2
            go_roundg (S.length - (k + 1))
            case measure => rw [G.out]; omega
            case rel => exact ⟨k + 1, O ++ [(x, y)], by omega, by go_num, rfl, E, R.out, hB1.out⟩
          · obtain ⟨n, hn, hn1, hxp⟩ := J1.out rfl
            obtain ⟨g, rfl, o0, o1, of⟩ := OC.out n hn
            have E := Lib.hid (show O.set n (O[n].1, max O[n].2 y) = (S.take (k + 1)).foldl stepL [] by rw [FS.out, ← OE.out, ← BE.out, stepL_join HX.out hn hn1 hxp])
            have o1d := cell_below BD.out (cell_below BB.out o1)
            obtain ⟨p, hp⟩ : ∃ p, p = O[n].2 := ⟨_, rfl⟩
            rw [← hp] at o1d
            have P := Lib.hid hp
            have ofd : wd.frozen? ⟨g, n * 2 + 1, none⟩ = false := OWD.out.frozenAt _
            have z3 : ((O.length : Int) - 1).toNat = n := by omega
            have z4 : (O.length : Int) - 1 < (O.length : Int) := by omega
            have z5 : (1 : Int) ≤ (O.length : Int) := by omega
            have z6 : (0 : Int) ≤ (O.length : Int) - 1 := by omega
            have ST := Lib.hid (OWD.out.stored (n * 2 + 1) (.int .i64 (max p y)))
            have PS := Lib.hid (show (pairsV O).set (n * 2 + 1) (.int .i64 (max p y)) = pairsV (O.set n (O[n].1, max O[n].2 y)) by rw [P.out]; exact pairsV_set O n hn _)
            clear hp o0 o1 of hxp
            go_wp2
            go_region
            all_goals
              go_wp2
              go_roundg (S.length - (k + 1))
              case measure => rw [G.out]; omega
              case rel => exact ⟨k + 1, O.set n (O[n].1, max O[n].2 y), by omega, by go_num, rfl, E, by rw [List.length_set, ← PS.out]; exact ST.out.1, ((BT.out.drew).setCell (p := ⟨g, n * 2 + 1, none⟩) (OWD.out.lt g rfl).1 _)⟩
      · obtain rfl : k = S.length := by omega
        have E := Lib.hid (show O = ofL L by have := OE.out; rw [List.take_length] at this; rw [this, SE.out]; rfl)
        clear hown hb
        go_wp2
        go_ret
        exact ⟨_, rfl, by rw [← E.out]; exact ownsRow_base OW.out (by have := B.out.size; omega), B.out.trans (BW.out.mono B.out.size)⟩

end Go.Proofs.YtdkcgggnkhbkkaaDoor
