/- The law EventHolds: times of an event are rising, none is one of Not, each of More is one: the walk. -/
import Derived.Test.YtkpmddlinlcobaaDoorSeqM
import Derived.Test.YtkpmddlinlcobaaDoorEvR
import Derived.Test.YtkpmddlinlcobaaDoorEvU
import Derived.Test.YtkpmddlinlcobaaDoorLists
import Derived.Test.YtkpmddlinlcobaaDoorEvK
namespace Go.Proofs.YtkpmddlinlcobaaDoor
open Go.RowKit
set_option linter.unusedSimpArgs false
set_option linter.unusedVariables false

theorem ask_1 (n0 n : Int) : askB 1 [] [] [] n0 n = true := by
  simp [askB, okB, zB]

theorem perL_1 (n0 a : Int) (h : a ≤ 109573) : perL 1 [] [] [] [] n0 a a = [a] := by
  rw [perL, pickL, if_pos rfl, Int.min_eq_left h, show (a + 1 - a).toNat = 1 by omega, daysG, daysG, ask_1, if_pos rfl]
  simp

theorem perD_day {ev y m d st k : Int} (hst : Cal.num y m d = st) (hk : 0 ≤ k ∧ k ≤ 109573) : perD 1 ev y m d [] [] [] [] st k = if st + k * ev ≤ 109573 then some [st + k * ev] else none := by
  unfold perD perS
  rw [if_neg (by omega), if_pos rfl, hst]
  split
  · next h => simp only [Option.map_some, perL_1 _ _ h]
  · rfl

/-- the list goes on by ev from st + k * ev on, as far as it may. -/
def GoesL (st ev k : Int) (R : List Int) : Prop := (∀ (i : Nat) (h : i < R.length), R[i] = st + (k + i) * ev) ∧ 109573 < st + (k + R.length) * ev

theorem restG_day {ev y m d st : Int} (hst : Cal.num y m d = st) (h1 : 1 ≤ st) (he : 1 ≤ ev) : ∀ (c : Nat) (k : Int), 1 ≤ k → k + c = 109574 → GoesL st ev k (restG (perD 1 ev y m d [] [] [] [] st) st c k)
  | 0, k, hk, hc => by
    refine ⟨fun i h => by simp [restG] at h, ?_⟩
    have : k ≤ k * ev := by have := Int.mul_le_mul_of_nonneg_left he (show 0 ≤ k by omega); omega
    simp [restG]; omega
  | c + 1, k, hk, hc => by
    rw [restG, perD_day hst ⟨by omega, by omega⟩]
    by_cases hl : st + k * ev ≤ 109573
    · rw [if_pos hl]
      have : k ≤ k * ev := by have := Int.mul_le_mul_of_nonneg_left he (show 0 ≤ k by omega); omega
      have hf : [st + k * ev].filter (fun n => decide (st < n)) = [st + k * ev] := by
        rw [List.filter_cons_of_pos (by simp; omega)]; rfl
      show GoesL st ev k ([st + k * ev].filter (fun n => decide (st < n)) ++ restG (perD 1 ev y m d [] [] [] [] st) st c (k + 1))
      rw [hf]
      obtain ⟨q1, q2⟩ := restG_day hst h1 he c (k + 1) (by omega) (by omega)
      refine ⟨fun i h => ?_, ?_⟩
      · cases i with
        | zero => simp
        | succ i =>
          have := q1 i (by simpa using h)
          simp only [List.singleton_append, List.getElem_cons_succ]
          rw [this]; congr 2; omega
      · simp only [List.singleton_append, List.length_cons]
        rw [show k + ((restG (perD 1 ev y m d [] [] [] [] st) st c (k + 1)).length + 1 : Nat) = k + 1 + ((restG (perD 1 ev y m d [] [] [] [] st) st c (k + 1)).length : Int) by omega]
        exact q2
    · rw [if_neg hl]
      show GoesL st ev k []
      exact ⟨fun i h => by simp at h, by simp; omega⟩

theorem eachG_all (ct : Int) (hc : 0 ≤ ct) : ∀ (l : List Int) (j : Nat), eachG 0 ct j l = if ct = 0 then l else l.take (ct.toNat - j)
  | [], j => by simp [eachG]
  | x :: r, j => by
    have h := eachG_all ct hc r (j + 1)
    by_cases h0 : ct = 0
    · rw [eachG, if_pos (by simp [okT, okC, h0]), h, if_pos h0, if_pos h0]
    · rw [if_neg h0] at h ⊢
      by_cases hj : (j : Int) + 1 ≤ ct
      · rw [eachG, if_pos (by simp [okT, okC, hj]), h, show ct.toNat - j = (ct.toNat - (j + 1)) + 1 by omega, List.take_succ_cons]
      · rw [eachG, if_neg (by simp [okT, okC, hj, h0]), show ct.toNat - j = 0 by omega, List.take_zero]

/-- what the law asks of the list. -/
def StepsL (st ev ct : Int) (L : List Int) : Prop := (∀ (i : Nat) (h : i < L.length), L[i] = st + i * ev) ∧ 0 < L.length ∧ (ct = 0 ∨ ((L.length : Int) ≤ ct ∧ ((L.length : Int) = ct ∨ 109573 < st + L.length * ev)))

theorem steps_day {ev ct y m d st : Int} (hd : Cal.dateB y m d = true) (hst : Cal.num y m d = st) (he : 1 ≤ ev) (N : Nat) (hN : 1 ≤ N) (hc : 0 ≤ ct ∧ ct ≤ N) : StepsL st ev ct ((eachL 1 ev ct 0 y m d [] [] [] [] st).take N) := by
  have hb := (Cal.num_bd hd).2.2
  rw [hst] at hb
  obtain ⟨R, hR⟩ : ∃ R, R = restL (perD 1 ev y m d [] [] [] [] st) st 1 := ⟨_, rfl⟩
  have hG : GoesL st ev 1 R := by rw [hR]; exact restG_day hst hb.1 he _ 1 (by omega) (by omega)
  have h0 : restL (perD 1 ev y m d [] [] [] [] st) st 0 = R := by
    rw [restL_some (l := [st]) (by rw [perD_day hst ⟨by omega, by omega⟩, if_pos (by omega)]; simp) (by omega), hR]
    simp
  have hM : ∀ (i : Nat) (h : i < (st :: R).length), (st :: R)[i] = st + i * ev := by
    intro i h
    cases i with
    | zero => simp
    | succ i =>
      rw [List.getElem_cons_succ, hG.1 i (by simpa using h)]
      congr 2; omega
  have hE : 109573 < st + ((st :: R).length : Int) * ev := by
    have := hG.2
    rw [List.length_cons, show ((R.length + 1 : Nat) : Int) = 1 + (R.length : Int) by omega]
    exact this
  rw [eachL, h0, eachG_all ct hc.1]
  obtain ⟨M, hMM⟩ : ∃ M, M = st :: R := ⟨_, rfl⟩
  have hpos : 0 < M.length := by rw [hMM]; simp
  rw [← hMM] at hM hE ⊢
  by_cases hz : ct = 0
  · rw [if_pos hz]
    refine ⟨fun i h => ?_, ?_, .inl hz⟩
    · rw [List.getElem_take]; exact hM i _
    · rw [List.length_take]; omega
  · rw [if_neg hz, Nat.sub_zero, List.take_take]
    refine ⟨fun i h => ?_, ?_, .inr ?_⟩
    · rw [List.getElem_take]; exact hM i _
    · rw [List.length_take]; omega
    · rw [List.length_take]
      refine ⟨by omega, ?_⟩
      by_cases hq : ct.toNat ≤ M.length
      · exact .inl (by omega)
      · right
        rw [show min (min N ct.toNat) M.length = M.length by omega]
        exact hE

end Go.Proofs.YtkpmddlinlcobaaDoor

namespace Go.Proofs.YtkpmddlinlcobaaDoor
open Go.RowKit Go.Shelf
set_option linter.unusedSimpArgs false
set_option linter.unusedVariables false

/-- the days of a rule that goes each so many days. -/
theorem eachL_day {ev y m d st : Int} (hd : Cal.dateB y m d = true) (hst : Cal.num y m d = st) (he : 1 ≤ ev ∧ ev ≤ 50) (z : Int) : z ∈ eachL 1 ev 0 0 y m d [] [] [] [] st ↔ st ≤ z ∧ z ≤ 109573 ∧ ∃ c : Int, z - st = c * ev := by
  have hb := (Cal.num_bd hd).2.2
  rw [hst] at hb
  have hup := (eachL_up hd hst he (fr := 1) (ct := 0) (ti := 0) (mo := []) (da := []) (we := []) (pk := [])).2
  obtain ⟨R, hR⟩ : ∃ R, R = restL (perD 1 ev y m d [] [] [] [] st) st 1 := ⟨_, rfl⟩
  have hG : GoesL st ev 1 R := by rw [hR]; exact restG_day hst hb.1 he.1 _ 1 (by omega) (by omega)
  have h0 : restL (perD 1 ev y m d [] [] [] [] st) st 0 = R := by
    rw [restL_some (l := [st]) (by rw [perD_day hst ⟨by omega, by omega⟩, if_pos (by omega)]; simp) (by omega), hR]
    simp
  have hM : ∀ (i : Nat) (h : i < (st :: R).length), (st :: R)[i] = st + i * ev := by
    intro i h
    cases i with
    | zero => simp
    | succ i =>
      rw [List.getElem_cons_succ, hG.1 i (by simpa using h)]
      congr 2; omega
  have hE : 109573 < st + ((st :: R).length : Int) * ev := by
    have := hG.2
    rw [List.length_cons, show ((R.length + 1 : Nat) : Int) = 1 + (R.length : Int) by omega]
    exact this
  have hL : eachL 1 ev 0 0 y m d [] [] [] [] st = st :: R := by rw [eachL, h0, eachG_all 0 (by omega), if_pos rfl]
  rw [hL] at hup ⊢
  obtain ⟨E, hEE⟩ : ∃ E, E = st :: R := ⟨_, rfl⟩
  rw [← hEE] at hM hE hup ⊢
  constructor
  · intro hz
    have hu := hup z hz
    obtain ⟨i, hi, rfl⟩ := List.mem_iff_getElem.1 hz
    rw [hM i hi] at hu ⊢
    have h1 : 0 ≤ (i : Int) * ev := Int.mul_nonneg (by omega) (by omega)
    exact ⟨by omega, hu.2, i, by omega⟩
  · rintro ⟨h1, h2, c, hc⟩
    have c0 : 0 ≤ c := by
      by_cases h : 0 ≤ c
      · exact h
      · have := Int.mul_le_mul_of_nonneg_right (show c ≤ -1 by omega) (show 0 ≤ ev by omega); omega
    have c1 : c < E.length := by
      by_cases h : c < E.length
      · exact h
      · have := Int.mul_le_mul_of_nonneg_right (show (E.length : Int) ≤ c by omega) (show 0 ≤ ev by omega); omega
    have hi : c.toNat < E.length := by omega
    have h3 := hM c.toNat hi
    rw [show ((c.toNat : Nat) : Int) = c by omega] at h3
    rw [show z = E[c.toNat] by omega]
    exact List.getElem_mem hi

theorem hold_fact : evF [97] [] 66729179 0 true 1 2 0 0 [] [] [] [] [66729200] [66729179] [] [] = 0 := by decide +kernel

theorem hold_times : evL (ruleT true 66729179 1 2 0 0 [] [] [] []) [66729200] [66729179] 66729000 66733000 = [66729200, 66732059] := by
  refine rise_ext _ _ (evL_up ..) (by simp) fun x => ?_
  rw [evL_mem, ruleT, if_pos rfl, show (66729179 : Int) / 1440 + 1 = 46340 by decide, show (66729179 : Int) % 1440 = 1019 by decide, daysAt_eq fact_date.1 fact_date.2]
  have hd := eachL_day fact_date.1 fact_date.2 (show (1 : Int) ≤ 2 ∧ (2 : Int) ≤ 50 by decide)
  simp only [tmsL, List.mem_map]
  constructor
  · rintro ⟨⟨z, hz, rfl⟩ | h, h1, h2, h3⟩
    · obtain ⟨z1, z2, c, hc⟩ := (hd z).1 hz
      rw [evT_in (by omega) z2 (by omega) (by omega)] at h1 h2 h3 ⊢
      have h4 : (z - 1) * 1440 + 1019 ≠ 66729179 := by simpa [inB] using h3
      have : z = 46342 := by omega
      subst this
      simp
    · simp at h; simp [h]
  · intro h
    simp only [List.mem_cons, List.not_mem_nil, or_false] at h
    rcases h with rfl | rfl
    · exact ⟨.inr (by simp), by decide, by decide, by decide⟩
    · exact ⟨.inl ⟨46342, (hd _).2 ⟨by decide, by decide, 1, by decide⟩, by rw [evT_in (by decide) (by decide) (by decide) (by decide)]; decide⟩, by decide, by decide, by decide⟩

theorem hold_local : eventE (evF [97] [] 66729179 0 true 1 2 0 0 [] [] [] [] [66729200] [66729179] [] []) 66729000 66733000 = 0 := by rw [hold_fact]; decide

end Go.Proofs.YtkpmddlinlcobaaDoor

namespace Go.Proofs.YtkpmddlinlcobaaDoor
open Go.RowKit Go.Shelf
set_option linter.unusedSimpArgs false
set_option linter.unusedVariables false

theorem rin_val (v : Value) (L : List Int) (n : Int) (q : Bool) (w : World) (hL : IntsR w v L) (h : q = inB L n) : Calls Tryd.prog 5 #[v, .int .i64 n] w fun e w' => e = .returned (.bool q) ∧ w = w' := by
  rw [h]; exact rin_any v L n w hL

theorem rin_no (v : Value) (L : List Int) (n : Int) (w : World) (hL : IntsR w v L) (h : inB L n = false) : Calls Tryd.prog 5 #[v, .int .i64 n] w fun e w' => e = .returned (.bool false) ∧ w = w' := rin_val v L n false w hL h.symm

theorem ints_same (u v : Value) (R : List Int) (w : World) (ha : IntsR w u R) (hb : IntsR w v R) : Calls Tryd.prog 6 #[u, v] w fun e w' => e = .returned (.bool true) ∧ Below w.heap.size w w' := by
  have h := ints_any u v R R w ha hb
  rwa [show intsB R R = true by simp [intsB]] at h

theorem ints_oneH {w : World} {b : Nat} {x : Int} (h : w.cell? ⟨b, 0, none⟩ = some (.int .i64 x)) : IntsR w (.slice (some ⟨b, 0, none⟩) 1 1) [x] :=
  ⟨_, 1, rfl, by simp, by simp, by decide, fun _ => ⟨b, 0, rfl, fun j u hj => by match j, hj with | 0, hj => (simp at hj; subst hj; simpa using h)⟩⟩

theorem hold_lit (w0 : World) : ∃ ob vM1 vN1, Value.pointer (some ⟨w0.heap.size + 1 + 1, 0, none⟩) = .pointer (some ⟨ob, 0, none⟩) ∧ EvC (((w0.alloc (.cells #[.int .i64 66729200] 3)).alloc (.cells #[.int .i64 66729179] 3)).alloc (.cells #[.string { data := #[97] }, .string { data := #[] }, .int .i64 66729179, .int .i64 0, .bool true, .int .i64 1, .int .i64 2, .int .i64 0, .int .i64 0, .slice none 0 0, .slice none 0 0, .slice none 0 0, .slice none 0 0, .slice (some ⟨w0.heap.size, 0, none⟩) 1 1, .slice (some ⟨w0.heap.size + 1, 0, none⟩) 1 1, .slice none 0 0, .slice none 0 0] 29)) ob { data := #[97] } { data := #[] } 66729179 0 true 1 2 0 0 (.slice none 0 0) (.slice none 0 0) (.slice none 0 0) (.slice none 0 0) vM1 vN1 (.slice none 0 0) (.slice none 0 0) ∧ IntsR (((w0.alloc (.cells #[.int .i64 66729200] 3)).alloc (.cells #[.int .i64 66729179] 3)).alloc (.cells #[.string { data := #[97] }, .string { data := #[] }, .int .i64 66729179, .int .i64 0, .bool true, .int .i64 1, .int .i64 2, .int .i64 0, .int .i64 0, .slice none 0 0, .slice none 0 0, .slice none 0 0, .slice none 0 0, .slice (some ⟨w0.heap.size, 0, none⟩) 1 1, .slice (some ⟨w0.heap.size + 1, 0, none⟩) 1 1, .slice none 0 0, .slice none 0 0] 29)) vM1 [66729200] ∧ IntsR (((w0.alloc (.cells #[.int .i64 66729200] 3)).alloc (.cells #[.int .i64 66729179] 3)).alloc (.cells #[.string { data := #[97] }, .string { data := #[] }, .int .i64 66729179, .int .i64 0, .bool true, .int .i64 1, .int .i64 2, .int .i64 0, .int .i64 0, .slice none 0 0, .slice none 0 0, .slice none 0 0, .slice none 0 0, .slice (some ⟨w0.heap.size, 0, none⟩) 1 1, .slice (some ⟨w0.heap.size + 1, 0, none⟩) 1 1, .slice none 0 0, .slice none 0 0] 29)) vN1 [66729179] ∧ Below w0.heap.size w0 (((w0.alloc (.cells #[.int .i64 66729200] 3)).alloc (.cells #[.int .i64 66729179] 3)).alloc (.cells #[.string { data := #[97] }, .string { data := #[] }, .int .i64 66729179, .int .i64 0, .bool true, .int .i64 1, .int .i64 2, .int .i64 0, .int .i64 0, .slice none 0 0, .slice none 0 0, .slice none 0 0, .slice none 0 0, .slice (some ⟨w0.heap.size, 0, none⟩) 1 1, .slice (some ⟨w0.heap.size + 1, 0, none⟩) 1 1, .slice none 0 0, .slice none 0 0] 29)) := by
  obtain ⟨y1, hy1⟩ : ∃ z, z = w0.alloc (.cells #[.int .i64 66729200] 3) := ⟨_, rfl⟩
  obtain ⟨y2, hy2⟩ : ∃ z, z = y1.alloc (.cells #[.int .i64 66729179] 3) := ⟨_, rfl⟩
  have s1 : y1.heap.size = w0.heap.size + 1 := by rw [hy1]; simp
  have s2 : y2.heap.size = w0.heap.size + 1 + 1 := by rw [hy2]; simp [s1]
  have c1 : y1.cell? ⟨w0.heap.size, 0, none⟩ = some (.int .i64 66729200) := by rw [hy1]; simp
  have c2 : y2.cell? ⟨w0.heap.size + 1, 0, none⟩ = some (.int .i64 66729179) := by rw [hy2, ← s1]; simp
  have b1 : Below w0.heap.size w0 y1 := by rw [hy1]; exact (Below.refl _ _).alloc (Nat.le_refl _) _
  have b2 : Below y1.heap.size y1 y2 := by rw [hy2]; exact (Below.refl _ _).alloc (Nat.le_refl _) _
  rw [← hy1, ← hy2]
  obtain ⟨o, ho⟩ : ∃ o : Obj, o = .cells #[.string { data := #[97] }, .string { data := #[] }, .int .i64 66729179, .int .i64 0, .bool true, .int .i64 1, .int .i64 2, .int .i64 0, .int .i64 0, .slice none 0 0, .slice none 0 0, .slice none 0 0, .slice none 0 0, .slice (some ⟨w0.heap.size, 0, none⟩) 1 1, .slice (some ⟨w0.heap.size + 1, 0, none⟩) 1 1, .slice none 0 0, .slice none 0 0] 29 := ⟨_, rfl⟩
  have ec := evC_new y2 29 { data := #[97] } { data := #[] } 66729179 0 true 1 2 0 0 (.slice none 0 0) (.slice none 0 0) (.slice none 0 0) (.slice none 0 0) (.slice (some ⟨w0.heap.size, 0, none⟩) 1 1) (.slice (some ⟨w0.heap.size + 1, 0, none⟩) 1 1) (.slice none 0 0) (.slice none 0 0)
  rw [← ho] at ec ⊢
  have b3 : Below y2.heap.size y2 (y2.alloc o) := (Below.refl y2.heap.size y2).alloc (Nat.le_refl _) o
  have i1 := ints_oneH (cell_below b3 (cell_below b2 c1))
  have i2 := ints_oneH (cell_below b3 c2)
  rw [s2] at ec
  exact ⟨_, _, _, rfl, ec, i1, i2, (b1.trans (b2.mono b1.size)).trans (b3.mono (by omega))⟩

/-- what local_any needs to know, at any later world. -/
def LocF (w0 : World) (args : Array Value) (F : Int) (T M N : List Int) : Prop :=
  ∀ (lo hi : Int) (wx : World), Below w0.heap.size w0 wx → Calls Tryd.prog 4 #[.agg args, .int .i64 lo, .int .i64 hi] wx (LocP (fullE (eventE F lo hi) (evL T M N lo hi)) (evL T M N lo hi) wx)

theorem hold_call (vM vN : Value) (w : World) (hw : Months w) (hM : IntsR w vM [66729200]) (hN : IntsR w vN [66729179]) : Calls Tryd.prog 4 #[.agg #[.string { data := #[97] }, .string { data := #[] }, .int .i64 66729179, .int .i64 0, .bool true, .int .i64 1, .int .i64 2, .int .i64 0, .int .i64 0, .slice none 0 0, .slice none 0 0, .slice none 0 0, .slice none 0 0, vM, vN, .slice none 0 0, .slice none 0 0], .int .i64 66729000, .int .i64 66733000] w (LocP 0 [66729200, 66732059] w) := by
  have h := local_any [97] [] 66729179 0 true 1 2 0 0 (.slice none 0 0) (.slice none 0 0) (.slice none 0 0) (.slice none 0 0) vM vN (.slice none 0 0) (.slice none 0 0) [] [] [] [] [66729200] [66729179] [] [] 66729000 66733000 w (intsR_nil _) (intsR_nil _) (reads_nil _ _) (intsR_nil _) hM hN (reads_nil _ _) (reads_nil _ _) hw (by decide) (by decide) (by decide)
  rw [hold_local, hold_times] at h
  exact h

set_option maxRecDepth 100000 in
set_option maxHeartbeats 16000000 in
theorem eventHolds_any (nm tx : List UInt8) (st ln : Int) (rp : Bool) (fr ev ct ti : Int) (vm vd vw vp vM vN vC vA : Value) (mo da : List Int) (we : List (Int × Int)) (pk M N : List Int) (C : List (Int × Int)) (A : List Alm) (a c b : Int) (w : World) (hw : Months w)
    (h1 : IntsR w vm mo) (h2 : IntsR w vd da) (h3 : PairsR w vw we) (h4 : IntsR w vp pk) (hM : IntsR w vM M) (hN : IntsR w vN N) (hC : PairsR w vC C) (hA : AlmsR w vA A)
    (hnm : nm.length ≤ 140737488351232) (htx : tx.length ≤ 140737488351232) (hcl : C.length ≤ 8796093022208) :
    Calls Tryd.prog 3 #[.agg #[.string (bs nm), .string (bs tx), .int .i64 st, .int .i64 ln, .bool rp, .int .i64 fr, .int .i64 ev, .int .i64 ct, .int .i64 ti, vm, vd, vw, vp, vM, vN, vC, vA], .int .i64 a, .int .i64 c, .int .i64 b] w fun e w' => e = .returned (.bool true) ∧ Below w.heap.size w w' := by
  obtain ⟨am, km, rfl, -, -, -⟩ := intsR_open h1
  obtain ⟨ad, kd, rfl, -, -, -⟩ := intsR_open h2
  obtain ⟨aw, kw, rfl, -, -, -⟩ := pairsR_open h3
  obtain ⟨ap, kp, rfl, -, -, -⟩ := intsR_open h4
  obtain ⟨aM, kM, rfl, kM1, kM2, hdsM⟩ := intsR_open hM
  obtain ⟨aN, kN, rfl, -, -, -⟩ := intsR_open hN
  obtain ⟨aC, kC, rfl, -, -, -⟩ := pairsR_open hC
  obtain ⟨aA, kA, rfl, -, -, -⟩ := almsR_open hA
  unfold maxLen at kM2
  obtain ⟨snm, hsnm⟩ : ∃ s, s = bs nm := ⟨_, rfl⟩
  obtain ⟨stx, hstx⟩ : ∃ s, s = bs tx := ⟨_, rfl⟩
  obtain ⟨eb, heb⟩ : ∃ x, x = w.heap.size := ⟨_, rfl⟩
  obtain ⟨w0, hw0⟩ : ∃ x, x = w.alloc (.cells #[.string snm, .string stx, .int .i64 st, .int .i64 ln, .bool rp, .int .i64 fr, .int .i64 ev, .int .i64 ct, .int .i64 ti, .slice am mo.length km, .slice ad da.length kd, .slice aw we.length kw, .slice ap pk.length kp, .slice aM M.length kM, .slice aN N.length kN, .slice aC C.length kC, .slice aA A.length kA] 29) := ⟨_, rfl⟩
  have hb0 : Below w.heap.size w w0 := by rw [hw0]; exact (Below.refl _ _).alloc (Nat.le_refl _) _
  have ec := hw0 ▸ evC_new w 29 snm stx st ln rp fr ev ct ti (.slice am mo.length km) (.slice ad da.length kd) (.slice aw we.length kw) (.slice ap pk.length kp) (.slice aM M.length kM) (.slice aN N.length kN) (.slice aC C.length kC) (.slice aA A.length kA)
  rw [← heb] at ec
  obtain ⟨F, hF⟩ : ∃ F, F = evF nm tx st ln rp fr ev ct ti mo da we pk M N C A := ⟨_, rfl⟩
  obtain ⟨T, hT⟩ : ∃ T, T = ruleT rp st fr ev ct ti mo da we pk := ⟨_, rfl⟩
  have LF := Lib.hid (show LocF w0 #[.string snm, .string stx, .int .i64 st, .int .i64 ln, .bool rp, .int .i64 fr, .int .i64 ev, .int .i64 ct, .int .i64 ti, .slice am mo.length km, .slice ad da.length kd, .slice aw we.length kw, .slice ap pk.length kp, .slice aM M.length kM, .slice aN N.length kN, .slice aC C.length kC, .slice aA A.length kA] F T M N from fun lo hi wx hbx => by
    have hbw : Below w.heap.size w wx := hb0.trans (hbx.mono hb0.size)
    rw [hF, hT, hsnm, hstx]
    exact local_any nm tx st ln rp fr ev ct ti _ _ _ _ _ _ _ _ mo da we pk M N C A lo hi wx (h1.below hbw) (h2.below hbw) (h3.below hbw) (h4.below hbw) (hM.below hbw) (hN.below hbw) (hC.below hbw) (hA.below hbw) (hw.below hbw) hnm htx hcl)
  have EC := Lib.hid ec; have B0 := Lib.hid hb0; have W0 := Lib.hid hw0; have EB := Lib.hid heb
  have HW := Lib.hid (hw.below hb0)
  have RM := Lib.hid (hM.below hb0); have RN := Lib.hid (hN.below hb0)
  have DM := Lib.hid (show 0 < M.length → ∃ b off, aM = some ⟨b, off, none⟩ ∧ ∀ j (hj : j < M.length), w0.cell? ⟨b, off + j, none⟩ = some (.int .i64 M[j]) from fun hp => by obtain ⟨b, off, e1, e2⟩ := hdsM hp; exact ⟨b, off, e1, fun j hj => cell_below hb0 (e2 j hj)⟩)
  rw [← hsnm, ← hstx]
  clear h1 h2 h3 h4 hM hN hC hA hw hnm htx hcl hsnm hstx hF hT hw0 hb0 ec heb hdsM
  go_enter Tryd.func3, Tryd.ntmps3
  go_upto_region 1 with fail
  rw [← W0.out]
  rw [← EB.out]
  go_cut [9] (fun s9 wx => ∃ ob vM1 vN1, s9 = .pointer (some ⟨ob, 0, none⟩) ∧ EvC wx ob { data := #[97] } { data := #[] } 66729179 0 true 1 2 0 0 (.slice none 0 0) (.slice none 0 0) (.slice none 0 0) (.slice none 0 0) vM1 vN1 (.slice none 0 0) (.slice none 0 0) ∧ IntsR wx vM1 [66729200] ∧ IntsR wx vN1 [66729179] ∧ Below w0.heap.size w0 wx)
  case first =>
    go_wp2
    go_meet
    exact hold_lit w0
  case rest =>
  obtain ⟨ob, vM1, vN1, rfl, ec1, hM1, hN1, hb1⟩ := hcut
  obtain ⟨w1, rfl⟩ : ∃ x, x = wc := ⟨_, rfl⟩
  have B1 := Lib.hid hb1; have LC := Lib.hid (hold_call vM1 vN1 w1 (HW.out.below hb1) hM1 hN1)
  obtain ⟨p1, q1, rfl, -, -, -⟩ := intsR_open hM1
  obtain ⟨p2, q2, rfl, -, -, -⟩ := intsR_open hN1
  have EC1 := Lib.hid ec1
  clear hb1 hM1 hN1 ec1
  go_upto_region 2 with fail
  have k0 := EC1.out.k0; have k1 := EC1.out.k1; have k2 := EC1.out.k2; have k3 := EC1.out.k3; have k4 := EC1.out.k4; have k5 := EC1.out.k5; have k6 := EC1.out.k6; have k7 := EC1.out.k7; have k8 := EC1.out.k8; have k9 := EC1.out.k9; have k10 := EC1.out.k10; have k11 := EC1.out.k11; have k12 := EC1.out.k12; have k13 := EC1.out.k13; have k14 := EC1.out.k14; have k15 := EC1.out.k15; have k16 := EC1.out.k16
  go_cut [10, 11] (fun s10 s11 wx => (∃ b2 o2 c2, s10 = .slice (some ⟨b2, o2, none⟩) 2 c2 ∧ wx.cell? ⟨b2, o2, none⟩ = some (.int .i64 66729200) ∧ wx.cell? ⟨b2, o2 + 1, none⟩ = some (.int .i64 66732059)) ∧ s11 = .nilIface ∧ Below w1.heap.size w1 wx)
  case first => as_aux_lemma =>
    go_wp2_with fail
    refine LC.out.mono ?_; rintro e w2 ⟨v2, rfl, hv2, hb2⟩
    rw [if_pos rfl] at hv2
    obtain ⟨a2, c2, rfl, -, -, hds⟩ := intsR_open hv2.ints
    obtain ⟨b2, o2, rfl, hcs⟩ := hds (by simp)
    have C0 := Lib.hid (show w2.cell? ⟨b2, o2, none⟩ = some (.int .i64 66729200) from hcs 0 (by simp))
    have C1 := Lib.hid (show w2.cell? ⟨b2, o2 + 1, none⟩ = some (.int .i64 66732059) from hcs 1 (by simp))
    have B2 := Lib.hid hb2
    rw [errV_0]
    clear hcs hds hv2 hb2 k0 k1 k2 k3 k4 k5 k6 k7 k8 k9 k10 k11 k12 k13 k14 k15 k16
    go_wp2
    go_meet
    exact ⟨⟨_, _, _, rfl, C0.out, C1.out⟩, rfl, B2.out⟩
  case rest =>
  obtain ⟨⟨b2, o2, c2, rfl, hc0, hc1⟩, rfl, hb2⟩ := hcut
  obtain ⟨w2, rfl⟩ : ∃ x, x = wc := ⟨_, rfl⟩
  have B2 := Lib.hid (B1.out.trans (hb2.mono B1.out.size))
  clear hb2 k0 k1 k2 k3 k4 k5 k6 k7 k8 k9 k10 k11 k12 k13 k14 k15 k16 EC1 LC
  obtain ⟨R, hR⟩ : ∃ R, R = evL T M N a b := ⟨_, rfl⟩
  obtain ⟨X, hX⟩ : ∃ X, X = fullE (eventE F a b) R := ⟨_, rfl⟩
  have LA := Lib.hid (show Calls Tryd.prog 4 _ w2 (LocP X R w2) by have h := LF.out a b w2 B2.out; rw [← hR, ← hX] at h; exact h)
  have RE := Lib.hid hR; have XE := Lib.hid hX
  have E2 := Lib.hid (EC.out.below B2.out)
  clear hR hX
  go_upto_region 5 with fail
  clear hc0 hc1
  have k0 := E2.out.k0; have k1 := E2.out.k1; have k2 := E2.out.k2; have k3 := E2.out.k3; have k4 := E2.out.k4; have k5 := E2.out.k5; have k6 := E2.out.k6; have k7 := E2.out.k7; have k8 := E2.out.k8; have k9 := E2.out.k9; have k10 := E2.out.k10; have k11 := E2.out.k11; have k12 := E2.out.k12; have k13 := E2.out.k13; have k14 := E2.out.k14; have k15 := E2.out.k15; have k16 := E2.out.k16
  go_cut [12, 13] (fun s12 s13 wx => ∃ v, s12 = v ∧ s13 = errV X ∧ IntsR wx v (if X = 0 then R else []) ∧ Below w2.heap.size w2 wx)
  case first => as_aux_lemma =>
    go_wp2_with fail
    refine LA.out.mono ?_; rintro e w3 ⟨v, rfl, hv, hb⟩
    have HV := Lib.hid hv.ints; have HB := Lib.hid hb
    clear hv hb k0 k1 k2 k3 k4 k5 k6 k7 k8 k9 k10 k11 k12 k13 k14 k15 k16
    go_wp2
    go_meet
    exact ⟨_, rfl, rfl, HV.out, HB.out⟩
  case rest =>
  obtain ⟨v, rfl, rfl, hv, hb3⟩ := hcut
  obtain ⟨w3, rfl⟩ : ∃ x, x = wc := ⟨_, rfl⟩
  have B3 := Lib.hid (B2.out.trans (hb3.mono B2.out.size))
  clear hb3 k0 k1 k2 k3 k4 k5 k6 k7 k8 k9 k10 k11 k12 k13 k14 k15 k16 E2 LA
  by_cases h0 : X ≠ 0
  · have E := Lib.hid (show errV X = .iface 39 (.int .i64 X) by rw [errV, if_neg h0])
    rw [E.out]
    clear h0 hv
    go_wp2
    go_ret
    exact ⟨rfl, B0.out.trans (B3.out.mono B0.out.size)⟩
  obtain rfl : X = 0 := by omega
  rw [errV_0]
  rw [if_pos rfl] at hv
  obtain ⟨g1, g2⟩ := fullE_0 XE.out.symm
  obtain ⟨f0, f1, f2, f3, f4⟩ := eventE_0 g1
  have FF := Lib.hid (show F = 0 ∧ timeB a = true ∧ timeB b = true ∧ a ≤ b ∧ b - a ≤ 1000000 from ⟨f0, f1, f2, f3, f4⟩)
  have RL := Lib.hid g2
  obtain ⟨va, vc, rfl, -, kv2, hds⟩ := intsR_open hv
  unfold maxLen at kv2
  have HV := Lib.hid hv; have HD := Lib.hid hds
  have E3 := Lib.hid (EC.out.below B3.out); have RN3 := Lib.hid (RN.out.below B3.out)
  clear hv hds h0 g1 g2 f0 f1 f2 f3 f4 XE
  have rl : R.length ≤ 200 := RL.out
  have k14 := E3.out.k14
  have k13 := E3.out.k13
  go_upto_block 0 with fail
  go_cut [14] (fun s14 wx => Below w3.heap.size w3 wx)
  case first => as_aux_lemma =>
    go_wp2_with fail
    go_loopg [14] R.length (fun g iv wr => ∃ k : Nat, k ≤ R.length ∧ iv = .int .i64 k ∧ g = R.length - k ∧ Below w3.heap.size w3 wr)
    case atStart => exact ⟨0, Nat.zero_le _, rfl, rfl, Below.refl _ _⟩
    case round =>
      obtain ⟨k, hk, rfl, hg, hb⟩ := hrel
      have G := Lib.hid hg
      have BR := Lib.hid hb
      clear hg k13 k14
      by_cases hlt : k < R.length
      · obtain ⟨b3, o3, rfl, hcs⟩ := HD.out (by omega)
        have c0 := cell_below hb (hcs k hlt)
        have k14 := (E3.out.below hb).k14
        obtain ⟨x, hx⟩ : ∃ x, x = R[k] := ⟨_, rfl⟩
        rw [← hx] at c0
        have hm := evL_mem.1 (show x ∈ evL T M N a b by rw [← RE.out, hx]; exact List.getElem_mem _)
        have X := Lib.hid hx; have HM := Lib.hid hm
        have RNW := Lib.hid (RN3.out.below hb)
        clear hb hm hx hcs
        have i1 : (0 : Int) ≤ (k : Int) := Int.natCast_nonneg _
        have i2 : (k : Int) < (R.length : Int) := by omega
        go_upto_region 11 with fail
        go_cut [15] (fun s15 wx => s15 = .bool false ∧ Below wr.heap.size wr wx)
        case first => as_aux_lemma =>
          go_quiet ((go_at_call 5; exact quiet_l (rin_no _ N x _ (RNW.out.below (below_drewN (Below.refl _ _) _)) HM.out.2.2.2)))
          go_wp2
          go_meet
          exact ⟨rfl, below_drewN (Below.refl _ _) _⟩
        case rest =>
        obtain ⟨rfl, hbx⟩ := hcut
        obtain ⟨w4, rfl⟩ : ∃ z, z = wc := ⟨_, rfl⟩
        have c0 := cell_below hbx c0
        have B4 := Lib.hid (BR.out.trans (hbx.mono BR.out.size))
        clear hbx k14
        go_upto_region 12 with fail
        go_cut [106] (fun s106 wx => s106 = .bool false ∧ Below w4.heap.size w4 wx)
        case first => as_aux_lemma =>
          obtain ⟨-, m1, m2, -⟩ := HM.out
          have d1 : decide (x < a) = false := decide_eq_false (by omega)
          have d2 : decide (b < x) = false := decide_eq_false (by omega)
          clear m1 m2
          by_cases k0 : 0 < k
          · obtain ⟨b5, o5, e5, hcs⟩ := HD.out (by omega)
            cases e5
            have g1 := cell_below B4.out (hcs (k - 1) (by omega))
            obtain ⟨p, hp⟩ : ∃ p, p = R[k - 1] := ⟨_, rfl⟩
            rw [← hp] at g1
            have hup := List.pairwise_iff_getElem.1 (show R.Pairwise (· < ·) by rw [RE.out]; exact evL_up _ _ _ _ _) (k - 1) k (by omega) hlt (by omega)
            rw [← hp, ← X.out] at hup
            have d3 : decide (x ≤ p) = false := decide_eq_false (by omega)
            have d4 : decide (0 < k) = true := decide_eq_true k0
            have d5 : decide ((0 : Int) < (k : Int)) = true := decide_eq_true (by omega)
            have s1 : IntKind.i64.wrap ((k : Int) - 1) = (k : Int) - 1 := IntWalk.i64_in _ (by omega)
            have s2 : (0 : Int) ≤ (k : Int) - 1 := by omega
            have s3 : (1 : Int) ≤ (k : Int) := by omega
            have s4 : ((k : Int) - 1).toNat = k - 1 := by omega
            have s5 : (k : Int) - 1 < (R.length : Int) := by omega
            clear hp hup hcs k0
            go_quiet (fail)
            go_wp2
            go_meet
            exact ⟨by first | rfl | simp, below_drewN (Below.refl _ _) _⟩
          · have d4 : decide (0 < k) = false := decide_eq_false k0
            have d5 : decide ((0 : Int) < (k : Int)) = false := decide_eq_false (by omega)
            clear k0
            go_quiet (fail)
            go_wp2
            go_meet
            exact ⟨by first | rfl | simp, below_drewN (Below.refl _ _) _⟩
        case rest =>
        obtain ⟨rfl, hbx⟩ := hcut
        have B5 := Lib.hid (B4.out.trans (hbx.mono B4.out.size))
        clear hbx c0
        go_wp2
        go_roundg (R.length - (k + 1))
        case measure => rw [G.out]; omega
        case rel => exact ⟨k + 1, by omega, by go_num, rfl, B5.out⟩
      · obtain rfl : k = R.length := by omega
        have i2 : ¬ (R.length : Int) < (R.length : Int) := by omega
        go_wp2
        go_meet
        exact BR.out
  case rest =>
  obtain ⟨w4, rfl⟩ : ∃ z, z = wc := ⟨_, rfl⟩
  have B4 := Lib.hid (B3.out.trans (hcut.mono B3.out.size))
  have E4 := Lib.hid (E3.out.below hcut)
  have RN4 := Lib.hid (RN3.out.below hcut)
  have HV4 := Lib.hid (HV.out.below hcut)
  clear hcut k13 k14 E3 RN3
  have k13 := E4.out.k13
  have k14 := E4.out.k14
  go_upto_block 2 with fail
  go_cut [16] (fun s16 wx => Below w4.heap.size w4 wx)
  case first => as_aux_lemma =>
    go_wp2_with fail
    go_loopg [16] M.length (fun g iv wr => ∃ k : Nat, k ≤ M.length ∧ iv = .int .i64 k ∧ g = M.length - k ∧ Below w4.heap.size w4 wr)
    case atStart => exact ⟨0, Nat.zero_le _, rfl, rfl, Below.refl _ _⟩
    case round =>
      obtain ⟨k, hk, rfl, hg, hb⟩ := hrel
      have G := Lib.hid hg
      have BR := Lib.hid hb
      clear hg k13 k14
      have k13 := (E4.out.below hb).k13
      by_cases hlt : k < M.length
      · obtain ⟨b3, o3, rfl, hcs⟩ := DM.out (by omega)
        have c0 := cell_below hb (cell_below B4.out (hcs k hlt))
        have k14 := (E4.out.below hb).k14
        obtain ⟨x, hx⟩ : ∃ x, x = M[k] := ⟨_, rfl⟩
        rw [← hx] at c0
        have HX := Lib.hid (show x ∈ M by rw [hx]; exact List.getElem_mem _)
        have RNW := Lib.hid (RN4.out.below hb)
        obtain ⟨q1, hq1⟩ : ∃ q, q = inB N x := ⟨_, rfl⟩
        obtain ⟨q2, hq2⟩ : ∃ q, q = inB R x := ⟨_, rfl⟩
        have Q1 := Lib.hid hq1; have Q2 := Lib.hid hq2
        clear hb hx hcs hq1 hq2
        have i1 : (0 : Int) ≤ (k : Int) := Int.natCast_nonneg _
        have i2 : (k : Int) < (M.length : Int) := by omega
        go_upto_region 17 with fail
        go_cut [17] (fun s17 wx => s17 = .bool q1 ∧ Below wr.heap.size wr wx)
        case first => as_aux_lemma =>
          go_quiet ((go_at_call 5; exact quiet_l (rin_val _ N x q1 _ (RNW.out.below (below_drewN (Below.refl _ _) _)) Q1.out)))
          go_wp2
          go_meet
          exact ⟨rfl, below_drewN (Below.refl _ _) _⟩
        case rest =>
        obtain ⟨rfl, hbx⟩ := hcut
        obtain ⟨w5, rfl⟩ : ∃ z, z = wc := ⟨_, rfl⟩
        have c0 := cell_below hbx c0
        have k13 := cell_below hbx k13
        have B5 := Lib.hid (BR.out.trans (hbx.mono BR.out.size))
        clear hbx k14
        go_wp2_with fail
        refine (rin_val _ R x q2 _ (HV4.out.below B5.out) Q2.out).mono ?_; rintro e w6 ⟨rfl, rfl⟩
        cases q1
        · cases q2
          · have hno : ¬ (a ≤ x ∧ x ≤ b) := fun h => by
              have h1 : x ∈ R := by rw [RE.out]; exact evL_mem.2 ⟨.inr HX.out, h.1, h.2, Q1.out.symm⟩
              have h2 : inB R x = true := decide_eq_true h1
              rw [← Q2.out] at h2; cases h2
            by_cases g1 : a ≤ x
            · have d1 : decide (a ≤ x) = true := decide_eq_true g1
              have d2 : decide (x ≤ b) = false := decide_eq_false (by omega)
              clear g1 hno
              go_wp2
              go_roundg (M.length - (k + 1))
              case measure => rw [G.out]; omega
              case rel => exact ⟨k + 1, by omega, by go_num, rfl, B5.out⟩
            · have d1 : decide (a ≤ x) = false := decide_eq_false g1
              clear g1 hno
              go_wp2
              go_roundg (M.length - (k + 1))
              case measure => rw [G.out]; omega
              case rel => exact ⟨k + 1, by omega, by go_num, rfl, B5.out⟩
          · go_wp2
            go_roundg (M.length - (k + 1))
            case measure => rw [G.out]; omega
            case rel => exact ⟨k + 1, by omega, by go_num, rfl, B5.out⟩
        · go_wp2
          go_roundg (M.length - (k + 1))
          case measure => rw [G.out]; omega
          case rel => exact ⟨k + 1, by omega, by go_num, rfl, B5.out⟩
      · obtain rfl : k = M.length := by omega
        have i2 : ¬ (M.length : Int) < (M.length : Int) := by omega
        go_wp2
        go_meet
        exact BR.out
  case rest =>
  obtain ⟨w5, rfl⟩ : ∃ z, z = wc := ⟨_, rfl⟩
  have B5 := Lib.hid (B4.out.trans (hcut.mono B4.out.size))
  have HV5 := Lib.hid (HV4.out.below hcut)
  have E5 := Lib.hid (EC.out.below B5.out)
  clear hcut k13 k14 E4 RN4
  by_cases g1 : c < a
  · have d1 : decide (c < a) = true := decide_eq_true g1
    clear g1
    go_wp2
    go_ret
    exact ⟨rfl, B0.out.trans (B5.out.mono B0.out.size)⟩
  have d1 : decide (c < a) = false := decide_eq_false g1
  by_cases g2 : b ≤ c
  · have d2 : decide (b ≤ c) = true := decide_eq_true g2
    clear g1 g2
    go_wp2
    go_ret
    exact ⟨rfl, B0.out.trans (B5.out.mono B0.out.size)⟩
  have d2 : decide (b ≤ c) = false := decide_eq_false g2
  obtain ⟨f0, f1, f2, f3, f4⟩ := FF.out
  have hsp := evL_split (B := T) (M := M) (N := N) (a := a) (b := b) (c := c) (by omega) (by omega)
  rw [← RE.out] at hsp
  obtain ⟨t1, t2⟩ := timeB_yes f1
  obtain ⟨t3, t4⟩ := timeB_yes f2
  obtain ⟨R1, hR1⟩ : ∃ z, z = evL T M N a c := ⟨_, rfl⟩
  obtain ⟨R2, hR2⟩ : ∃ z, z = evL T M N (c + 1) b := ⟨_, rfl⟩
  have hln := congrArg List.length hsp
  rw [List.length_append, ← hR1, ← hR2] at hln
  have L1 := Lib.hid (show Calls Tryd.prog 4 _ w5 (LocP 0 R1 w5) by
    have h := LF.out a c w5 B5.out
    rw [← hR1, fullE, eventE_mk f0 f1 (timeB_mk (by omega) (by omega)) (by omega) (by omega), if_neg (by omega)] at h; exact h)
  have L2 := Lib.hid (show ∀ wx, Below w5.heap.size w5 wx → Calls Tryd.prog 4 _ wx (LocP 0 R2 wx) from fun wx hbx => by
    have h := LF.out (c + 1) b wx (B5.out.trans (hbx.mono B5.out.size))
    rw [← hR2, fullE, eventE_mk f0 (timeB_mk (by omega) (by omega)) f2 (by omega) (by omega), if_neg (by omega)] at h; exact h)
  have SP := Lib.hid (show R1 ++ R2 = R by rw [hR1, hR2]; exact hsp)
  have rl1 : R1.length ≤ 200 := by omega
  have rl2 : R2.length ≤ 200 := by omega
  have cw : IntKind.i64.wrap (c + 1) = c + 1 := IntWalk.i64_in _ (by omega)
  clear g1 g2 hsp f0 f1 f2 f3 f4 hR1 hR2 hln t1 t2 t3 t4
  have k0 := E5.out.k0; have k1 := E5.out.k1; have k2 := E5.out.k2; have k3 := E5.out.k3; have k4 := E5.out.k4; have k5 := E5.out.k5; have k6 := E5.out.k6; have k7 := E5.out.k7; have k8 := E5.out.k8; have k9 := E5.out.k9; have k10 := E5.out.k10; have k11 := E5.out.k11; have k12 := E5.out.k12; have k13 := E5.out.k13; have k14 := E5.out.k14; have k15 := E5.out.k15; have k16 := E5.out.k16
  go_upto_region 23 with fail
  go_cut [19, 20] (fun s19 s20 wx => s20 = .nilIface ∧ OwnI w5.heap.size wx s19 R1 ∧ Below w5.heap.size w5 wx)
  case first => as_aux_lemma =>
    go_wp2_with fail
    refine L1.out.mono ?_; rintro e w6 ⟨v, rfl, hv, hb⟩
    rw [if_pos rfl] at hv
    rw [errV_0]
    have HV6 := Lib.hid hv; have HB := Lib.hid hb
    clear hv hb k0 k1 k2 k3 k4 k5 k6 k7 k8 k9 k10 k11 k12 k13 k14 k15 k16
    go_wp2
    go_meet
    exact ⟨rfl, HV6.out, HB.out⟩
  case rest =>
  clear k0 k1 k2 k3 k4 k5 k6 k7 k8 k9 k10 k11 k12 k13 k14 k15 k16
  obtain ⟨rfl, hv1, hb6⟩ := hcut
  obtain ⟨w6, rfl⟩ : ∃ z, z = wc := ⟨_, rfl⟩
  have E6 := Lib.hid (E5.out.below hb6)
  have B6 := Lib.hid hb6; have O1 := Lib.hid hv1
  have LL2 := Lib.hid (L2.out w6 hb6)
  clear hb6 hv1
  have k0 := E6.out.k0; have k1 := E6.out.k1; have k2 := E6.out.k2; have k3 := E6.out.k3; have k4 := E6.out.k4; have k5 := E6.out.k5; have k6 := E6.out.k6; have k7 := E6.out.k7; have k8 := E6.out.k8; have k9 := E6.out.k9; have k10 := E6.out.k10; have k11 := E6.out.k11; have k12 := E6.out.k12; have k13 := E6.out.k13; have k14 := E6.out.k14; have k15 := E6.out.k15; have k16 := E6.out.k16
  go_upto_region 24 with fail
  go_cut [21, 22] (fun s21 s22 wx => s22 = .nilIface ∧ IntsR wx s21 R2 ∧ Below w6.heap.size w6 wx)
  case first => as_aux_lemma =>
    go_wp2_with fail
    refine LL2.out.mono ?_; rintro e w7 ⟨v, rfl, hv, hb⟩
    rw [if_pos rfl] at hv
    rw [errV_0]
    have HV7 := Lib.hid hv.ints; have HB := Lib.hid hb
    clear hv hb k0 k1 k2 k3 k4 k5 k6 k7 k8 k9 k10 k11 k12 k13 k14 k15 k16
    go_wp2
    go_meet
    exact ⟨rfl, HV7.out, HB.out⟩
  case rest =>
  clear k0 k1 k2 k3 k4 k5 k6 k7 k8 k9 k10 k11 k12 k13 k14 k15 k16
  obtain ⟨rfl, hv2, hb7⟩ := hcut
  obtain ⟨w7, rfl⟩ : ∃ z, z = wc := ⟨_, rfl⟩
  have O7 := Lib.hid (O1.out.below hb7)
  have B7 := Lib.hid (B6.out.trans (hb7.mono B6.out.size))
  have V7 := Lib.hid hv2
  clear hb7 hv2
  go_wp2_with (at_builtin; refine wpList_append_ints rfl _ _ rfl w5.heap.size _ _ R1 R2 rfl rfl O7.out V7.out B7.out.size (by omega) (by omega) ?_)
  intro v8 w8 hown8 hb8
  have O8 := Lib.hid (show IntsR w8 v8 R by have := intsR_of_owns (L := R1 ++ R2) (by rw [List.length_append, List.map_append]; exact hown8); rwa [SP.out] at this)
  have B8 := Lib.hid (B7.out.trans hb8)
  clear hown8 hb8
  go_wp2_with fail
  refine (ints_same _ _ R _ O8.out (HV5.out.below B8.out)).mono ?_; rintro e w9 ⟨rfl, hb9⟩
  have B9 := Lib.hid (B8.out.trans (hb9.mono B8.out.size))
  clear hb9
  go_wp2
  go_ret
  exact ⟨rfl, B0.out.trans ((B5.out.trans (B9.out.mono B5.out.size)).mono B0.out.size)⟩

end Go.Proofs.YtkpmddlinlcobaaDoor
