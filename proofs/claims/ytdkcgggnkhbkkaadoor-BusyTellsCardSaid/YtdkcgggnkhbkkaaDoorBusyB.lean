/- Contracts of busy.Check, Norm, Total, stretch, free, Free. Condition: lists of fewer than 10000 stretches (free). -/
import Derived.Test.YtdkcgggnkhbkkaaDoorBusyA
namespace Go.Proofs.YtdkcgggnkhbkkaaDoor
open Go.RowKit Go.Sort
set_option linter.unusedSimpArgs false
set_option linter.unusedVariables false

/-- the first fault of stretches. -/
def bF : List (Int × Int) → Int
  | [] => 0
  | s :: r => if timeB s.1 = true ∧ timeB s.2 = true then (if s.2 < s.1 then 3 else bF r) else 1

/-- the fault of what is taken. -/
def busyE (L : List (Int × Int)) : Int := if 200 < L.length then 4 else bF L

theorem bF_bad {L : List (Int × Int)} {k : Nat} (h : k < L.length) (hb : timeB L[k].1 = false ∨ timeB L[k].2 = false) : bF (L.drop k) = 1 := by
  rw [List.drop_eq_getElem_cons h, bF, if_neg (by rcases hb with hb | hb <;> simp [hb])]

theorem bF_shape {L : List (Int × Int)} {k : Nat} (h : k < L.length) (h1 : timeB L[k].1 = true) (h2 : timeB L[k].2 = true) (h3 : L[k].2 < L[k].1) : bF (L.drop k) = 3 := by
  rw [List.drop_eq_getElem_cons h, bF, if_pos ⟨h1, h2⟩, if_pos h3]

theorem bF_next {L : List (Int × Int)} {k : Nat} (h : k < L.length) (h1 : timeB L[k].1 = true) (h2 : timeB L[k].2 = true) (h3 : ¬ L[k].2 < L[k].1) : bF (L.drop k) = bF (L.drop (k + 1)) := by
  rw [List.drop_eq_getElem_cons h, bF, if_pos ⟨h1, h2⟩, if_neg h3]

theorem bF_ok : ∀ {L : List (Int × Int)}, bF L = 0 → ∀ b ∈ L, timeB b.1 = true ∧ timeB b.2 = true ∧ b.1 ≤ b.2
  | [], _, b, hb => by simp at hb
  | s :: r, h, b, hb => by
    rw [bF] at h
    split at h
    · next h1 =>
      split at h
      · simp at h
      · next h2 =>
        rcases List.mem_cons.1 hb with rfl | hb
        · exact ⟨h1.1, h1.2, by omega⟩
        · exact bF_ok h b hb
    · simp at h

theorem bF_mk : ∀ {L : List (Int × Int)}, (∀ b ∈ L, timeB b.1 = true ∧ timeB b.2 = true ∧ b.1 ≤ b.2) → bF L = 0
  | [], _ => rfl
  | s :: r, h => by
    have h1 := h s (by simp)
    rw [bF, if_pos ⟨h1.1, h1.2.1⟩, if_neg (by omega)]
    exact bF_mk fun b hb => h b (by simp [hb])

theorem busyE_ok {L : List (Int × Int)} (h : busyE L = 0) : L.length ≤ 200 ∧ ∀ b ∈ L, timeB b.1 = true ∧ timeB b.2 = true ∧ b.1 ≤ b.2 := by
  unfold busyE at h
  split at h
  · simp at h
  · exact ⟨by omega, bF_ok h⟩

theorem busyE_mk {L : List (Int × Int)} (h : L.length ≤ 200) (h2 : ∀ b ∈ L, timeB b.1 = true ∧ timeB b.2 = true ∧ b.1 ≤ b.2) : busyE L = 0 := by
  rw [busyE, if_neg (by omega), bF_mk h2]

set_option maxHeartbeats 4000000 in
theorem bzcheck_any (v : Value) (L : List (Int × Int)) (w : World) (hL : PairsR w v L) :
    Calls Tryd.prog 67 #[v] w fun e w' => e = .returned (errV (busyE L)) ∧ Below w.heap.size w w' := by
  obtain ⟨a, cap, rfl, hc1, hc2, hcell⟩ := pairsR_open hL
  unfold maxLen at hc2
  by_cases hl : 200 < L.length
  · have e := Lib.hid (show busyE L = 4 by rw [busyE, if_pos hl])
    go_enter Tryd.func67, Tryd.ntmps67
    go_wp2
    go_ret
    exact ⟨by rw [e.out]; rfl, Below.refl _ _⟩
  have e := Lib.hid (show busyE L = bF L by rw [busyE, if_neg hl])
  have hcap : L.length ≤ 200 := by omega
  clear hl hL
  go_enter Tryd.func67, Tryd.ntmps67
  go_wp2
  go_loopg [11] L.length (fun g i wr => ∃ k : Nat, k ≤ L.length ∧ i = .int .i64 k ∧ Hid (bF (L.drop k) = bF L) ∧ g = L.length - k ∧ Below w.heap.size w wr)
  case atStart => exact ⟨0, Nat.zero_le _, rfl, Lib.hid (by simp), rfl, Below.refl _ _⟩
  case round =>
    obtain ⟨k, hk, rfl, hS, hg, hb⟩ := hrel
    have G := Lib.hid hg; clear hg
    by_cases hlt : k < L.length
    · obtain ⟨b, off, rfl, hcs⟩ := hcell (by omega)
      have c0 := cell_below hb (hcs k hlt).1
      have c1 := cell_below hb (hcs k hlt).2
      have hbs := hb.size
      clear hcell hcs
      obtain ⟨x, hx⟩ : ∃ x, x = L[k].1 := ⟨_, rfl⟩
      obtain ⟨y, hy⟩ : ∃ y, y = L[k].2 := ⟨_, rfl⟩
      rw [← hx] at c0; rw [← hy] at c1
      have X := Lib.hid hx; have Y := Lib.hid hy; clear hx hy
      by_cases t1 : timeB x = true
      · by_cases t2 : timeB y = true
        · by_cases t3 : y < x
          · have S2 := Lib.hid (bF_shape hlt (by rw [← X.out]; exact t1) (by rw [← Y.out]; exact t2) (by rw [← X.out, ← Y.out]; exact t3))
            go_wp2_with (go_at_call 59; refine (valid_any _ _).mono ?_; rintro e w' ⟨rfl, rfl⟩)
            go_ret
            exact ⟨by rw [e.out, ← hS.out, S2.out]; rfl, hb.alloc hbs _⟩
          · have S2 := Lib.hid (bF_next hlt (by rw [← X.out]; exact t1) (by rw [← Y.out]; exact t2) (by rw [← X.out, ← Y.out]; exact t3))
            go_wp2_with (go_at_call 59; refine (valid_any _ _).mono ?_; rintro e w' ⟨rfl, rfl⟩)
            go_roundg (L.length - (k + 1))
            case measure => rw [G.out]; omega
            case rel => exact ⟨k + 1, by omega, by go_num, Lib.hid (by rw [← S2.out]; exact hS.out), rfl, hb.alloc hbs _⟩
        · have t2' : timeB y = false := by simpa using t2
          have S2 := Lib.hid (bF_bad hlt (.inr (by rw [← Y.out]; exact t2')))
          clear t2
          go_wp2_with (go_at_call 59; refine (valid_any _ _).mono ?_; rintro e w' ⟨rfl, rfl⟩)
          go_ret
          exact ⟨by rw [e.out, ← hS.out, S2.out]; rfl, hb.alloc hbs _⟩
      · have t1' : timeB x = false := by simpa using t1
        have S2 := Lib.hid (bF_bad hlt (.inl (by rw [← X.out]; exact t1')))
        clear t1
        go_wp2_with (go_at_call 59; refine (valid_any _ _).mono ?_; rintro e w' ⟨rfl, rfl⟩)
        go_ret
        exact ⟨by rw [e.out, ← hS.out, S2.out]; rfl, hb.alloc hbs _⟩
    · obtain rfl : k = L.length := by omega
      have e2 := Lib.hid (show bF L = 0 by rw [← hS.out]; simp [bF])
      go_wp2
      go_ret
      exact ⟨by rw [e.out, e2.out]; rfl, hb⟩

/-- what busy.Norm answers, if all is well. -/
def NormP (L : List (Int × Int)) (w : World) (e : Ending) (w' : World) : Prop :=
  ∃ v, e = .returned (.tuple #[v, .nilIface]) ∧ w'.ownsRow w.heap.size 41 2 v (normL L).length (pairsV (normL L)) ∧ Below w.heap.size w w'

theorem norm_yes (v : Value) (L : List (Int × Int)) (w : World) (hL : PairsR w v L) (h : busyE L = 0) :
    Calls Tryd.prog 20 #[v] w (NormP L w) := by
  have HL := Lib.hid hL
  have E := Lib.hid (show errV (busyE L) = .nilIface by rw [h]; rfl)
  have hl : L.length ≤ 10000 := by have := (busyE_ok h).1; omega
  have N := Lib.hid (show ofL L = normL L from ofL_norm fun b hb => ((busyE_ok h).2 b hb).2.2)
  have LL := Lib.hid hl
  clear hL h hl
  go_enter Tryd.func20, Tryd.ntmps20
  go_wp2_with fail
  refine (bzcheck_any _ L _ HL.out).mono ?_; rintro e w1 ⟨rfl, hb1⟩
  rw [E.out]
  have B := Lib.hid hb1; clear hb1
  go_wp2_with fail
  refine (of_any _ L _ (HL.out.below B.out) LL.out).mono ?_; rintro e w2 ⟨u, rfl, hown, hb2⟩
  rw [N.out] at hown
  have O := Lib.hid hown
  have B2 := Lib.hid hb2
  clear hown hb2
  go_wp2
  go_ret2
  exact ⟨u, rfl, ownsRow_base O.out B.out.size, B.out.trans (B2.out.mono B.out.size)⟩

theorem norm_no (v : Value) (L : List (Int × Int)) (w : World) (hL : PairsR w v L) (h : busyE L ≠ 0) :
    Calls Tryd.prog 20 #[v] w fun e w' => e = .returned (.tuple #[.slice none 0 0, errV (busyE L)]) ∧ Below w.heap.size w w' := by
  have HL := Lib.hid hL
  have E := Lib.hid (show errV (busyE L) = .iface 108 (.int .i64 (busyE L)) by rw [errV, if_neg h])
  clear hL h
  go_enter Tryd.func20, Tryd.ntmps20
  go_wp2_with fail
  refine (bzcheck_any _ L _ HL.out).mono ?_; rintro e w1 ⟨rfl, hb1⟩
  rw [E.out]
  have B := Lib.hid hb1; clear hb1
  go_wp2
  go_ret2
  exact ⟨by rw [E.out]; rfl, B.out⟩

theorem tot_append : ∀ (l r : List (Int × Int)), totL (l ++ r) = totL l + totL r
  | [], r => by simp [totL]
  | b :: l, r => by rw [List.cons_append, totL, totL, tot_append l r]; omega

theorem tot_snoc (l : List (Int × Int)) (k : Nat) (h : k < l.length) : totL (l.take (k + 1)) = totL (l.take k) + (l[k].2 - l[k].1) := by
  rw [List.take_succ_eq_append_getElem h, tot_append]; simp [totL]

theorem tot_bd {M : Int} : ∀ (l : List (Int × Int)), (∀ b ∈ l, 0 ≤ b.2 - b.1 ∧ b.2 - b.1 ≤ M) → 0 ≤ totL l ∧ totL l ≤ l.length * M
  | [], _ => by simp [totL]
  | b :: l, h => by
    have h1 := h b (by simp)
    have h2 := tot_bd l fun c hc => h c (by simp [hc])
    rw [totL, List.length_cons, Int.natCast_add, Int.add_mul]; omega

/-- stretches of times, none backward. -/
def Good (l : List (Int × Int)) : Prop := ∀ b ∈ l, 1 ≤ b.1 ∧ b.1 ≤ b.2 ∧ b.2 < 157785120

theorem norm_good {L : List (Int × Int)} (h : busyE L = 0) : Good (normL L) := fun b hb => by
  have h0 := (busyE_ok h).2
  have h1 : ∀ b ∈ L, b.1 ≤ b.2 := fun b hb => (h0 b hb).2.2
  have h2 := norm_in h1 (lo := 1) (hi := 157785119) (fun b hb => ⟨(timeB_yes (h0 b hb).1).1, by have := (timeB_yes (h0 b hb).2.1).2; omega⟩) b hb
  have h3 := (norm_sep h1).1 b hb
  omega

theorem good_tot {l : List (Int × Int)} (h : Good l) (hl : l.length ≤ 10000) : 0 ≤ totL l ∧ totL l ≤ 1577851200000 := by
  have := tot_bd (M := 157785120) l fun b hb => by have := h b hb; omega
  omega

theorem total_yes (v : Value) (L : List (Int × Int)) (w : World) (hL : PairsR w v L) (h : busyE L = 0) :
    Calls Tryd.prog 22 #[v] w fun e w' => e = .returned (.tuple #[.int .i64 (totL (normL L)), .nilIface]) ∧ Below w.heap.size w w' := by
  have HL := Lib.hid hL
  have GD := Lib.hid (norm_good h)
  have NL := Lib.hid (show (normL L).length ≤ 10000 by have := norm_len L; have := (busyE_ok h).1; omega)
  have E := Lib.hid h
  clear hL h
  go_enter Tryd.func22, Tryd.ntmps22
  go_wp2_with fail
  refine (norm_yes _ L _ HL.out E.out).mono ?_; rintro e w1 ⟨u, rfl, hown, hb1⟩
  obtain ⟨S, hS⟩ : ∃ S, S = normL L := ⟨_, rfl⟩
  rw [← hS] at hown NL GD
  have SE := Lib.hid hS
  have PR := Lib.hid (show PairsR w1 u S from ownsRow_reads hown)
  have B := Lib.hid hb1
  clear hb1 hown hS
  obtain ⟨ua, uc, rfl, _, kc, hcell⟩ := pairsR_open PR.out
  unfold maxLen at kc
  have CS := Lib.hid hcell
  clear hcell
  have hsz := NL.out
  go_wp2
  go_loopg [5, 15] S.length (fun g nv i wr => ∃ k : Nat, k ≤ S.length ∧ i = .int .i64 k ∧ nv = .int .i64 (totL (S.take k)) ∧ g = S.length - k ∧ Below w1.heap.size w1 wr)
  case atStart => exact ⟨0, Nat.zero_le _, rfl, rfl, rfl, Below.refl _ _⟩
  case round =>
    obtain ⟨k, hk, rfl, rfl, hg, hb⟩ := hrel
    have G := Lib.hid hg; clear hg
    by_cases hlt : k < S.length
    · obtain ⟨b, off, rfl, hcs⟩ := CS.out (by omega)
      have c0 := cell_below hb (hcs k hlt).1
      have c1 := cell_below hb (hcs k hlt).2
      have hbs := hb.size
      have Z := Lib.hid (tot_snoc S k hlt)
      have g1 := GD.out S[k] (by simp)
      have g2 := good_tot (l := S.take k) (fun b hb => GD.out b (List.mem_of_mem_take hb)) (by rw [List.length_take]; omega)
      obtain ⟨T, hT⟩ : ∃ T, T = totL (S.take k) := ⟨_, rfl⟩
      rw [← hT] at g2 ⊢
      have TE := Lib.hid hT
      obtain ⟨x, hx⟩ : ∃ x, x = S[k].1 := ⟨_, rfl⟩
      obtain ⟨y, hy⟩ : ∃ y, y = S[k].2 := ⟨_, rfl⟩
      rw [← hx, ← hy] at g1
      rw [← hx] at c0; rw [← hy] at c1
      have X := Lib.hid hx; have Y := Lib.hid hy; clear hx hy hT hcs
      go_wp2
      go_roundg (S.length - (k + 1))
      case measure => rw [G.out]; omega
      case rel => exact ⟨k + 1, by omega, by go_num, by rw [Z.out, ← TE.out, ← X.out, ← Y.out], rfl, hb.alloc hbs _⟩
    · obtain rfl : k = S.length := by omega
      have e2 := Lib.hid (show totL (S.take S.length) = totL S by rw [List.take_length])
      go_wp2
      go_ret2
      exact ⟨by rw [e2.out, SE.out]; rfl, B.out.trans (hb.mono B.out.size)⟩

theorem total_no (v : Value) (L : List (Int × Int)) (w : World) (hL : PairsR w v L) (h : busyE L ≠ 0) :
    Calls Tryd.prog 22 #[v] w fun e w' => e = .returned (.tuple #[.int .i64 0, errV (busyE L)]) ∧ Below w.heap.size w w' := by
  have HL := Lib.hid hL
  have E := Lib.hid h
  clear hL h
  go_enter Tryd.func22, Tryd.ntmps22
  go_wp2_with fail
  refine (norm_no _ L _ HL.out E.out).mono ?_; rintro e w1 ⟨rfl, hb1⟩
  have B := Lib.hid hb1
  clear hb1
  go_wp2
  go_loopg [5, 15] 0 (fun g nv i wr => nv = .int .i64 0 ∧ i = .int .i64 0 ∧ g = 0 ∧ wr = w1)
  case atStart => exact ⟨rfl, rfl, rfl, rfl⟩
  case round =>
    obtain ⟨rfl, rfl, hg, rfl⟩ := hrel
    clear hg
    go_wp2
    go_ret2
    exact ⟨rfl, B.out⟩

/-- the fault of a stretch. -/
def strE (a b : Int) : Int := if timeB a = true ∧ timeB b = true then (if b < a then 3 else 0) else 1

theorem strE_ok {a b : Int} (h : strE a b = 0) : 1 ≤ a ∧ a ≤ b ∧ b < 157785120 := by
  unfold strE at h
  split at h
  · next h1 =>
    split at h
    · simp at h
    · have := timeB_yes h1.1; have := timeB_yes h1.2; omega
  · simp at h

theorem stretch_any (a b : Int) (w : World) :
    Calls Tryd.prog 70 #[.int .i64 a, .int .i64 b] w fun e w' => e = .returned (errV (strE a b)) ∧ w = w' := by
  by_cases t1 : timeB a = true
  · by_cases t2 : timeB b = true
    · by_cases t3 : b < a
      · have e := Lib.hid (show strE a b = 3 by rw [strE, if_pos ⟨t1, t2⟩, if_pos t3])
        go_enter Tryd.func70, Tryd.ntmps70
        go_wp2_with (go_at_call 59; refine (valid_any _ _).mono ?_; rintro e w' ⟨rfl, rfl⟩)
        go_ret
        exact ⟨by rw [e.out]; rfl, rfl⟩
      · have e := Lib.hid (show strE a b = 0 by rw [strE, if_pos ⟨t1, t2⟩, if_neg t3])
        go_enter Tryd.func70, Tryd.ntmps70
        go_wp2_with (go_at_call 59; refine (valid_any _ _).mono ?_; rintro e w' ⟨rfl, rfl⟩)
        go_ret
        exact ⟨by rw [e.out]; rfl, rfl⟩
    · have e := Lib.hid (show strE a b = 1 by rw [strE, if_neg (fun h => t2 h.2)])
      have t2' : timeB b = false := by simpa using t2
      clear t2
      go_enter Tryd.func70, Tryd.ntmps70
      go_wp2_with (go_at_call 59; refine (valid_any _ _).mono ?_; rintro e w' ⟨rfl, rfl⟩)
      go_ret
      exact ⟨by rw [e.out]; rfl, rfl⟩
  · have e := Lib.hid (show strE a b = 1 by rw [strE, if_neg (fun h => t1 h.1)])
    have t1' : timeB a = false := by simpa using t1
    clear t1
    go_enter Tryd.func70, Tryd.ntmps70
    go_wp2_with (go_at_call 59; refine (valid_any _ _).mono ?_; rintro e w' ⟨rfl, rfl⟩)
    go_ret
    exact ⟨by rw [e.out]; rfl, rfl⟩

/-- what is free, as the code takes it. -/
def FreeP (F : List (Int × Int)) (w : World) (e : Ending) (w' : World) : Prop :=
  ∃ v, e = .returned v ∧ w'.ownsRow w.heap.size 41 2 v F.length (pairsV F) ∧ Below w.heap.size w w'

theorem freeL_drop (to_ : Int) {S : List (Int × Int)} {k : Nat} (h : k < S.length) (at_ : Int) :
    freeL to_ (S.drop k) at_ = (if at_ < S[k].1 ∧ at_ < to_ then [(at_, min S[k].1 to_)] else []) ++ freeL to_ (S.drop (k + 1)) (max at_ S[k].2) := by
  rw [List.drop_eq_getElem_cons h, freeL]

set_option maxRecDepth 100000 in
set_option maxHeartbeats 4000000 in
theorem freeB_any (v : Value) (L : List (Int × Int)) (fr to_ : Int) (w : World) (hL : PairsR w v L) (hlen : L.length ≤ 10000) :
    Calls Tryd.prog 71 #[v, .int .i64 fr, .int .i64 to_] w (FreeP (freeL to_ (ofL L) fr) w) := by
  obtain ⟨i0, hi, hz0, hz1, hz2⟩ := info_parts busyInfo
  have HL := Lib.hid hL
  have LL := Lib.hid hlen
  clear hL hlen
  go_enter Tryd.func71, Tryd.ntmps71
  go_wp2_with fail
  refine (of_any _ L _ HL.out LL.out).mono ?_; rintro e w2 ⟨u, rfl, hown, hb1⟩
  obtain ⟨S, hS⟩ : ∃ S, S = ofL L := ⟨_, rfl⟩
  rw [← hS] at hown
  have hsz : S.length ≤ 10000 := by have := ofL_len L; have := LL.out; rw [hS]; omega
  have SE := Lib.hid hS
  have PR := Lib.hid (show PairsR w2 u S from ownsRow_reads hown)
  have B := Lib.hid hb1
  clear hb1 hown hS
  obtain ⟨ua, uc, rfl, _, kc, hcell⟩ := pairsR_open PR.out
  unfold maxLen at kc
  have CS := Lib.hid hcell
  clear hcell
  go_wp2
  go_loopg [6, 7, 14] S.length (fun g ov av i wr => ∃ (k : Nat) (O : List (Int × Int)) (at_ : Int), k ≤ S.length ∧ i = .int .i64 k ∧ av = .int .i64 at_ ∧ g = S.length - k ∧ O.length ≤ k ∧ Hid (O ++ freeL to_ (S.drop k) at_ = freeL to_ S fr) ∧ wr.ownsRow w2.heap.size 41 2 ov O.length (pairsV O) ∧ Below w2.heap.size w2 wr)
  case atStart => exact ⟨0, [], fr, Nat.zero_le _, rfl, rfl, rfl, Nat.le_refl _, Lib.hid (by simp), World.ownsRow_nil _ _ _ _, Below.refl _ _⟩
  case round =>
    obtain ⟨k, O, at_, hk, rfl, rfl, hg, hOk, FE, hown, hb⟩ := hrel
    have G := Lib.hid hg; clear hg
    have OW := Lib.hid hown
    have BW := Lib.hid hb
    have hbs := hb.size
    obtain ⟨oa, oc, rfl, ko, hocell⟩ := ownsRow_open hown
    clear hocell
    by_cases hlt : k < S.length
    · obtain ⟨b, off, rfl, hcs⟩ := CS.out (by omega)
      have c0 := cell_below hb (hcs k hlt).1
      have c1 := cell_below hb (hcs k hlt).2
      have Z := Lib.hid (freeL_drop to_ hlt at_)
      obtain ⟨x, hx⟩ : ∃ x, x = S[k].1 := ⟨_, rfl⟩
      obtain ⟨y, hy⟩ : ∃ y, y = S[k].2 := ⟨_, rfl⟩
      rw [← hx] at c0; rw [← hy] at c1
      have X := Lib.hid hx; have Y := Lib.hid hy
      clear hx hy hcs hb
      by_cases h1 : at_ < x
      · by_cases h2 : at_ < to_
        · have E := Lib.hid (show (O ++ [(at_, min x to_)]) ++ freeL to_ (S.drop (k + 1)) (max at_ y) = freeL to_ S fr by
            rw [← FE.out, Z.out, ← X.out, ← Y.out, if_pos ⟨h1, h2⟩, List.append_assoc])
          obtain ⟨wb, hwb⟩ : ∃ wb, wb = wr.alloc (.cells #[.int .i64 x, .int .i64 y] 41) := ⟨_, rfl⟩
          have x0 : wb.cell? ⟨wr.heap.size, 0, none⟩ = some (.int .i64 x) := by rw [hwb]; simp
          have x1 : wb.cell? ⟨wr.heap.size, 1, none⟩ = some (.int .i64 y) := by rw [hwb]; simp
          have BB := Lib.hid (show Below wr.heap.size wr wb by rw [hwb]; exact (Below.refl _ _).alloc (Nat.le_refl _) _)
          obtain ⟨xb, hxb⟩ : ∃ xb, xb = wr.heap.size := ⟨_, rfl⟩
          rw [← hxb] at x0 x1
          have XB := Lib.hid hxb
          have WB := Lib.hid hwb
          have OWB := Lib.hid (ownsRow_kept OW.out BB.out)
          have hxl : xb < wb.heap.size := by rw [hwb, hxb]; simp
          clear hwb hxb hown
          go_upto_region 6 with fail
          rw [← WB.out, ← XB.out]
          clear c0 c1
          have BT := Lib.hid (BW.out.trans (BB.out.mono hbs))
          have hdz := BT.out.size
          have hown := OWB.out
          obtain ⟨m, hm⟩ : ∃ m, m = min x to_ := ⟨_, rfl⟩
          have M := Lib.hid hm
          rw [← hm] at E
          go_wp2_with (at_builtin; refine wpList_append_lies _ rfl _ _ 37 rfl w2.heap.size 41 i0 _ 2 16 Tryd.underlying37 hi hz0 hz1 hz2 rfl (by decide) _ _ _ rfl (hown.alloc _) ⟨wb.heap.size, 0, none⟩ 1 1 [.int .i64 at_, .int .i64 (min x to_)] rfl rfl ?c1x1 ?c1x2 (by decide) (by unfold maxLen; omega) (by omega) (by simp; omega) _ rfl ?_)
          try (case c1x1 => exact World.news_of_block (cs := #[.int .i64 at_, .int .i64 (min x to_)]) (heap_alloc_new wb _))
          case c1x2 => first | exact ⟨rfl, rfl⟩ | (intro u hu; simp at hu; rcases hu with rfl | rfl <;> rfl)
          intro g cap1 w9 hown1 hgrow1 hat1 hlt1
          have hB1 := Lib.hid ((BT.out.alloc hdz (.cells #[.int .i64 at_, .int .i64 (min x to_)] 41)).grown hgrow1 (by simp; omega) (ownBlock_ge hown))
          have R := Lib.hid (show w9.ownsRow w2.heap.size 41 2 (.slice (some ⟨g, 0, none⟩) (O.length + 1) cap1) (O ++ [(at_, m)]).length (pairsV (O ++ [(at_, m)])) by
            rw [List.length_append, show pairsV (O ++ [(at_, m)]) = pairsV O ++ [.int .i64 at_, .int .i64 (min x to_)] by simp [pairsV, hm]]; exact hown1)
          have x1w : w9.cell? ⟨xb, 1, none⟩ = some (.int .i64 y) := by
            rw [hgrow1.cell_far ⟨xb, 1, none⟩ (by simp; omega) (by intro h; have := (OW.out.lt xb h.symm).2; have := XB.out; omega)]
            exact cell_below ((Below.refl _ _).alloc (Nat.le_refl _) _) x1
          clear hm hgrow1 hown1 hown hat1 hlt1 x0 x1
          go_wp2
          go_roundg (S.length - (k + 1))
          case measure => rw [G.out]; omega
          case rel => exact ⟨k + 1, O ++ [(at_, m)], max at_ y, by omega, by go_num, rfl, rfl, by simp; omega, E, R.out, hB1.out⟩
        · have E := Lib.hid (show O ++ freeL to_ (S.drop (k + 1)) (max at_ y) = freeL to_ S fr by
            rw [← FE.out, Z.out, ← Y.out, if_neg (fun h => h2 h.2)]; rfl)
          clear hown
          go_wp2
          go_roundg (S.length - (k + 1))
          case measure => rw [G.out]; omega
          case rel => exact ⟨k + 1, O, max at_ y, by omega, by go_num, rfl, rfl, by omega, E, OW.out.alloc _, BW.out.alloc hbs _⟩
      · have E := Lib.hid (show O ++ freeL to_ (S.drop (k + 1)) (max at_ y) = freeL to_ S fr by
            rw [← FE.out, Z.out, ← X.out, ← Y.out, if_neg (fun h => h1 h.1)]; rfl)
        clear hown
        go_wp2
        go_roundg (S.length - (k + 1))
        case measure => rw [G.out]; omega
        case rel => exact ⟨k + 1, O, max at_ y, by omega, by go_num, rfl, rfl, by omega, E, OW.out.alloc _, BW.out.alloc hbs _⟩
    · obtain rfl : k = S.length := by omega
      by_cases h2 : at_ < to_
      · have E := Lib.hid (show O ++ [(at_, to_)] = freeL to_ (ofL L) fr by
          rw [← SE.out, ← FE.out, List.drop_length, freeL, if_pos h2])
        clear hown hb
        have hown := OW.out
        go_wp2_with (at_builtin; refine wpList_append_lies _ rfl _ _ 37 rfl w2.heap.size 41 i0 _ 2 16 Tryd.underlying37 hi hz0 hz1 hz2 rfl (by decide) _ _ _ rfl (hown.alloc _) ⟨wr.heap.size, 0, none⟩ 1 1 [.int .i64 at_, .int .i64 to_] rfl rfl ?c1x1 ?c1x2 (by decide) (by unfold maxLen; omega) (by omega) (by simp; omega) _ rfl ?_)
        try (case c1x1 => exact World.news_of_block (cs := #[.int .i64 at_, .int .i64 to_]) (heap_alloc_new wr _))
        case c1x2 => first | exact ⟨rfl, rfl⟩ | (intro u hu; simp at hu; rcases hu with rfl | rfl <;> rfl)
        intro g cap1 w9 hown1 hgrow1 hat1 hlt1
        have hB1 := Lib.hid ((BW.out.alloc hbs (.cells #[.int .i64 at_, .int .i64 to_] 41)).grown hgrow1 (by simp; omega) (ownBlock_ge hown))
        have R := Lib.hid (show w9.ownsRow w2.heap.size 41 2 (.slice (some ⟨g, 0, none⟩) (O.length + 1) cap1) (O ++ [(at_, to_)]).length (pairsV (O ++ [(at_, to_)])) by
          rw [List.length_append, show pairsV (O ++ [(at_, to_)]) = pairsV O ++ [.int .i64 at_, .int .i64 to_] by simp [pairsV]]; exact hown1)
        clear hgrow1 hown1 hown hat1 hlt1
        go_wp2
        go_ret
        exact ⟨_, rfl, by rw [← E.out]; exact ownsRow_base R.out B.out.size, B.out.trans (hB1.out.mono B.out.size)⟩
      · have E := Lib.hid (show O = freeL to_ (ofL L) fr by
          rw [← SE.out, ← FE.out, List.drop_length, freeL, if_neg h2]; simp)
        clear hown hb
        go_wp2
        go_ret
        exact ⟨_, rfl, by rw [← E.out]; exact ownsRow_base OW.out B.out.size, B.out.trans (BW.out.mono B.out.size)⟩

/-- what busy.Free answers, if all is well. -/
def FreeOk (L : List (Int × Int)) (a b : Int) (w : World) (e : Ending) (w' : World) : Prop :=
  ∃ v, e = .returned (.tuple #[v, .nilIface]) ∧ w'.ownsRow w.heap.size 41 2 v (freeL b (normL L) a).length (pairsV (freeL b (normL L) a)) ∧ Below w.heap.size w w'

/-- the fault of what is taken, and of a stretch. -/
def freeE (L : List (Int × Int)) (a b : Int) : Int := if busyE L = 0 then strE a b else busyE L

theorem free_yes (v : Value) (L : List (Int × Int)) (a b : Int) (w : World) (hL : PairsR w v L) (h : busyE L = 0) (h2 : strE a b = 0) :
    Calls Tryd.prog 26 #[v, .int .i64 a, .int .i64 b] w (FreeOk L a b w) := by
  have HL := Lib.hid hL
  have E := Lib.hid (show errV (busyE L) = .nilIface by rw [h]; rfl)
  have E2 := Lib.hid (show errV (strE a b) = .nilIface by rw [h2]; rfl)
  have hl : L.length ≤ 10000 := by have := (busyE_ok h).1; omega
  have N := Lib.hid (show ofL L = normL L from ofL_norm fun b hb => ((busyE_ok h).2 b hb).2.2)
  have LL := Lib.hid hl
  clear hL h hl h2
  go_enter Tryd.func26, Tryd.ntmps26
  go_wp2_with fail
  refine (bzcheck_any _ L _ HL.out).mono ?_; rintro e w1 ⟨rfl, hb1⟩
  rw [E.out]
  have B := Lib.hid hb1; clear hb1
  go_wp2_with fail
  refine (stretch_any _ _ _).mono ?_; rintro e w' ⟨rfl, rfl⟩
  rw [E2.out]
  go_wp2_with fail
  refine (freeB_any _ L _ _ _ (HL.out.below B.out) LL.out).mono ?_; rintro e w2 ⟨u, rfl, hown, hb2⟩
  rw [N.out] at hown
  have O := Lib.hid hown
  have B2 := Lib.hid hb2
  clear hown hb2
  go_wp2
  go_ret2
  exact ⟨u, rfl, ownsRow_base O.out B.out.size, B.out.trans (B2.out.mono B.out.size)⟩

theorem free_no (v : Value) (L : List (Int × Int)) (a b : Int) (w : World) (hL : PairsR w v L) (h : freeE L a b ≠ 0) :
    Calls Tryd.prog 26 #[v, .int .i64 a, .int .i64 b] w fun e w' => e = .returned (.tuple #[.slice none 0 0, errV (freeE L a b)]) ∧ Below w.heap.size w w' := by
  have HL := Lib.hid hL
  by_cases h1 : busyE L = 0
  · have E0 := Lib.hid (show freeE L a b = strE a b by rw [freeE, if_pos h1])
    have E := Lib.hid (show errV (busyE L) = .nilIface by rw [h1]; rfl)
    have E2 := Lib.hid (show errV (strE a b) = .iface 108 (.int .i64 (strE a b)) by rw [errV, if_neg (by rw [← E0.out]; exact h)])
    clear hL h h1
    go_enter Tryd.func26, Tryd.ntmps26
    go_wp2_with fail
    refine (bzcheck_any _ L _ HL.out).mono ?_; rintro e w1 ⟨rfl, hb1⟩
    rw [E.out]
    have B := Lib.hid hb1; clear hb1
    go_wp2_with fail
    refine (stretch_any _ _ _).mono ?_; rintro e w' ⟨rfl, rfl⟩
    rw [E2.out]
    go_wp2
    go_ret2
    exact ⟨by rw [E0.out, E2.out]; rfl, B.out⟩
  · have E0 := Lib.hid (show freeE L a b = busyE L by rw [freeE, if_neg h1])
    have E := Lib.hid (show errV (busyE L) = .iface 108 (.int .i64 (busyE L)) by rw [errV, if_neg h1])
    clear hL h h1
    go_enter Tryd.func26, Tryd.ntmps26
    go_wp2_with fail
    refine (bzcheck_any _ L _ HL.out).mono ?_; rintro e w1 ⟨rfl, hb1⟩
    rw [E.out]
    have B := Lib.hid hb1; clear hb1
    go_wp2
    go_ret2
    exact ⟨by rw [E0.out, E.out]; rfl, B.out⟩

end Go.Proofs.YtdkcgggnkhbkkaaDoor
