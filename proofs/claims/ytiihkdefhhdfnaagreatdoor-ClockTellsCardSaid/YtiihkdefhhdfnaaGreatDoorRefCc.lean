/- The contract of the reference chimeref1.ReadSpan. Condition: the text is no longer than a text may be. -/
import Derived.Test.YtiihkdefhhdfnaaGreatDoorRefCb
namespace Go.Proofs.YtiihkdefhhdfnaaGreatDoor
open Go.RowKit Go.Shelf
set_option linter.unusedSimpArgs false
set_option linter.unusedVariables false

/-- what ReadSpan answers. -/
def RSpanP (l : List UInt8) (w : World) (e : Ending) (w' : World) : Prop :=
  ∃ v : Int × Int, SpanR l v ∧ e = .returned (.tuple #[.int .i64 v.1, .int .i64 v.2]) ∧ w = w'

theorem bodyS_drop (l : List UInt8) : bodyS l = l.drop (if lessB l = true then 1 else 0) := by
  unfold bodyS
  cases lessB l
  · rfl
  · simp

theorem take_all {l : List UInt8} {j d : Nat} (h : ∀ b ∈ (l.drop j).take d, isDg b = true) (hl : j + d < l.length) (hd : isDg l[j + d] = true) : ∀ b ∈ (l.drop j).take (d + 1), isDg b = true := by
  intro b hb
  have e : (l.drop j).take (d + 1) = (l.drop j).take d ++ [l[j + d]] := by
    rw [List.take_succ_eq_append_getElem (by rw [List.length_drop]; omega), List.getElem_drop]
  rw [e, List.mem_append] at hb
  rcases hb with hb | hb
  · exact h b hb
  · simp at hb; subst hb; exact hd

theorem drop_parts {l : List UInt8} {j d : Nat} : l.drop j = (l.drop j).take d ++ l.drop (j + d) := by
  rw [← List.drop_drop]; exact (List.take_append_drop d (l.drop j)).symm

/-- no part stands here. -/
theorem rs_none {l : List UInt8} {j d nx : Nat} (h : j < l.length) (hd : j + d ≤ l.length) (hP : ∀ b ∈ (l.drop j).take d, isDg b = true) (hx : ∀ h : j + d < l.length, isDg l[j + d] = false) (hb : d = 0 ∨ 9 < d ∨ l[j] = 48 ∨ j + d = l.length) (k n : Nat) (r : List UInt8) : ¬ StepS nx (l.drop j) k n r := by
  by_cases ha : j + d < l.length
  · rw [drop_parts (l := l) (j := j) (d := d), List.drop_eq_getElem_cons ha]
    refine rs_bad hP (hx ha) ?_
    rcases hb with rfl | hb | hb | hb
    · left; rfl
    · right; left; rw [List.length_take, List.length_drop]; omega
    · rcases Nat.eq_zero_or_pos d with rfl | hp
      · left; rfl
      · right; right
        rw [List.head?_take, if_neg (by omega), List.head?_drop, List.getElem?_eq_getElem h, hb]
    · omega
  · rw [drop_parts (l := l) (j := j) (d := d), show l.drop (j + d) = [] from List.drop_eq_nil_of_le (by omega), List.append_nil]
    exact rs_all hP

theorem rs_nolet {l : List UInt8} {j d nx m : Nat} (ha : j + d < l.length) (hP : ∀ b ∈ (l.drop j).take d, isDg b = true) (hx : isDg l[j + d] = false) (hm : Lib.decFrom 0 ((l.drop j).take d) = some m)
    (hb : ∀ i, i ≤ 2 → l[j + d] = letC i → nx ≤ i → limB i m = false) (k n : Nat) (r : List UInt8) : ¬ StepS nx (l.drop j) k n r := by
  rw [drop_parts (l := l) (j := j) (d := d), List.drop_eq_getElem_cons ha]
  exact rs_def hP hx hm hb

theorem rs_here {l : List UInt8} {j d nx m k : Nat} (h : j < l.length) (ha : j + d < l.length) (hm : Lib.decFrom 0 ((l.drop j).take d) = some m) (h0 : d ≠ 0) (h9 : d ≤ 9) (h48 : l[j] ≠ 48)
    (hc : l[j + d] = letC k) (hnx : nx ≤ k) (hk : k ≤ 2) (hlim : limB k m = true) : StepS nx (l.drop j) k m (l.drop (j + d + 1)) := by
  rw [drop_parts (l := l) (j := j) (d := d), List.drop_eq_getElem_cons ha, hc]
  refine rs_some hm ?_ ?_ ?_ hnx hk hlim
  · intro e
    have := congrArg List.length e
    rw [List.length_take, List.length_drop, List.length_nil] at this; omega
  · rw [List.head?_take, if_neg h0, List.head?_drop, List.getElem?_eq_getElem h]
    intro e; exact h48 (Option.some.inj e)
  · rw [List.length_take]; omega

theorem dec9 {l : List UInt8} {m : Nat} (h : Lib.decFrom 0 l = some m) (hl : l.length ≤ 9) : m < 1000000000 := by
  have h1 := Lib.decFrom_lt l 0 m h
  have h2 : 10 ^ l.length ≤ 10 ^ 9 := Nat.pow_le_pow_right (by decide) hl
  have h3 : (10 : Nat) ^ 9 = 1000000000 := by decide
  omega

theorem dec_next {l : List UInt8} {j d m : Nat} (h : j + d < l.length) (hm : Lib.decFrom 0 ((l.drop j).take d) = some m) (hd : isDg l[j + d] = true) : Lib.decFrom 0 ((l.drop j).take (d + 1)) = some (m * 10 + (l[j + d].toNat - 48)) := by
  rw [isDg, Bool.and_eq_true] at hd
  rw [List.take_succ_eq_append_getElem (by rw [List.length_drop]; omega), List.getElem_drop, decFrom_snoc, hm, digitVal_yes (of_decide_eq_true hd.1) (of_decide_eq_true hd.2)]
  rfl

set_option maxRecDepth 100000 in
set_option maxHeartbeats 8000000 in
theorem rspan_any (l : List UInt8) (w : World) (hl : l.length ≤ 9223372036854775807) :
    Calls Tryz.prog 16 #[.string (bs l)] w (RSpanP l w) := by
  obtain ⟨T, hT⟩ : ∃ T, T = bs l := ⟨_, rfl⟩
  have tz : T.size = l.length := by rw [hT, bs_size]
  have HT := Lib.hid hT
  have TG := Lib.hid (show ∀ k (h : k < l.length) (h2 : k < T.size), T[k] = l[k] by subst hT; exact fun k h h2 => bs_get l k h h2)
  rw [← hT]
  by_cases h0 : l = [48, 109]
  · have u1 : T.toList = [48, 109] := by rw [hT, bs_toList, h0]
    have u2 : (T.toList == [48, 109]) = true := by rw [u1]; rfl
    have SR := Lib.hid (show SpanR l (0, 0) from .inl ⟨h0, rfl⟩)
    clear h0 hT tz
    go_enter Tryz.func16, Tryz.ntmps16
    go_wp2
    go_ret2
    exact ⟨_, SR.out, rfl, rfl⟩
  have u1 : ¬ T.toList = [48, 109] := by rw [hT, bs_toList]; exact h0
  have u2 : (T.toList == [48, 109]) = false := by rw [beq_eq_false_iff_ne]; exact u1
  obtain ⟨less, hless⟩ : ∃ b, b = lessB l := ⟨_, rfl⟩
  obtain ⟨st, hst⟩ : ∃ st : Nat, st = if less = true then 1 else 0 := ⟨_, rfl⟩
  have HB := Lib.hid (show bodyS l = l.drop st by rw [hst, hless]; exact bodyS_drop l)
  have HL := Lib.hid hless
  have HS := Lib.hid hst
  have stl : st ≤ l.length := by
    rw [hst, hless]
    cases l with
    | nil => simp [lessB]
    | cons a r => split <;> simp
  have N0 := Lib.hid h0
  have TZ := Lib.hid tz
  have tb : T.size ≤ 9223372036854775807 := by omega
  have BAD := Lib.hid (show ∀ (nx tot : Nat) (s : List UInt8), (∀ x, RdS nx tot s x → RdS 0 0 (bodyS l) x) → s ≠ [] → (∀ k n r, ¬ StepS nx s k n r) → SpanR l (0, 2) from fun nx tot s h1 h2 h3 => .inr ⟨h0, none, h1 _ (.bad _ _ _ h2 h3), rfl⟩)
  have DONE := Lib.hid (show ∀ (nx tot : Nat), (∀ x, RdS nx tot [] x → RdS 0 0 (bodyS l) x) → SpanR l (finS less (some (nx, tot))) from fun nx tot h1 => .inr ⟨h0, _, h1 _ (.done _ _), by rw [hless]⟩)
  clear hT h0 hless hst
  go_enter Tryz.func16, Tryz.ntmps16
  go_upto_region 4 with fail
  go_cut [5] (fun s5 wx => s5 = .bool less ∧ w = wx)
  case first =>
    rcases l with _ | ⟨a, r⟩
    · have E := Lib.hid (show less = false by rw [HL.out]; rfl)
      have z0 : T.size = 0 := tz
      have z1 : decide ((0 : Int) < (T.size : Int)) = false := decide_eq_false (by omega)
      have z2 : decide (0 < T.size) = false := decide_eq_false (by omega)
      clear tz z0
      go_wp2
      go_meet
      exact ⟨by rw [E.out], rfl⟩
    · have z1 : decide ((0 : Int) < (T.size : Int)) = true := decide_eq_true (by rw [tz]; simp)
      have z2 : decide (0 < T.size) = true := decide_eq_true (by rw [tz]; simp)
      have z3 : 0 < T.size := by rw [tz]; simp
      obtain ⟨n, hn⟩ : ∃ n : Int, n = (a.toNat : Int) := ⟨_, rfl⟩
      have hc : ((T[0]'z3).toNat : Int) = n := by rw [TG.out 0 (by simp) z3, hn]; rfl
      have E := Lib.hid (show (n == 45) = less by
        rw [HL.out, lessB]; simp only [List.head?_cons, Option.some.injEq]; exact byte_num (d := 45) hn rfl)
      clear hn tz
      go_wp2
      go_meet
      exact ⟨by rw [E.out], rfl⟩
  case rest =>
  obtain ⟨rfl, rfl⟩ := hcut
  go_upto_if 20 with fail
  go_cut [4] (fun s4 wx => s4 = .int .i64 st ∧ w = wx)
  case first =>
    cases less
    · have E := Lib.hid (show st = 0 by rw [HS.out]; rfl)
      go_wp2
      go_meet
      exact ⟨by rw [E.out]; rfl, rfl⟩
    · have E := Lib.hid (show st = 1 by rw [HS.out]; rfl)
      go_wp2
      go_meet
      exact ⟨by rw [E.out]; rfl, rfl⟩
  case rest =>
  obtain ⟨rfl, rfl⟩ := hcut
  go_wp2
  go_loopg [4, 6, 7] (l.length - st) (fun g iv nv pv wr => ∃ j nx tot : Nat, iv = .int .i64 j ∧ nv = .int .i64 tot ∧ pv = .int .i64 nx ∧ j ≤ l.length ∧ nx ≤ 3 ∧ tot ≤ nx * 1440000000000 ∧ g = l.length - j ∧ Hid (∀ x, RdS nx tot (l.drop j) x → RdS 0 0 (bodyS l) x) ∧ wr = w)
  case atStart => exact ⟨st, 0, 0, rfl, rfl, rfl, stl, by omega, by omega, rfl, Lib.hid (fun x hx => by rw [HB.out]; exact hx), rfl⟩
  case round =>
    obtain ⟨j, nx, tot, rfl, rfl, rfl, hj, hnx, htot, hg, KEEP, rfl⟩ := hrel
    have G := Lib.hid hg; clear hg
    have j0 : (0 : Int) ≤ (j : Int) := Int.natCast_nonneg _
    have n0 : (0 : Int) ≤ (nx : Int) := Int.natCast_nonneg _
    have n3 : (nx : Int) ≤ 3 := by omega
    have t0 : (0 : Int) ≤ (tot : Int) := Int.natCast_nonneg _
    have t9 : (tot : Int) ≤ 4320000000000 := by omega
    by_cases hlt : j < l.length
    · have i1 : (j : Int) < (T.size : Int) := by omega
      clear i1
      have i1 : (j : Int) < (T.size : Int) := by omega
      go_wp2_with fail
      go_loopg [4, 8, 9] (l.length - j) (fun g iv kv dv wx => ∃ a d m : Nat, iv = .int .i64 a ∧ kv = .int .i64 m ∧ dv = .int .i64 d ∧ a = j + d ∧ a ≤ l.length ∧ m < 10000000000 ∧ g = l.length - a ∧ Hid ((∀ b ∈ (l.drop j).take d, isDg b = true) ∧ (d ≤ 9 → Lib.decFrom 0 ((l.drop j).take d) = some m)) ∧ wx = wr)
      case atStart => exact ⟨j, 0, 0, rfl, rfl, rfl, rfl, hj, by decide, rfl, Lib.hid ⟨by simp, fun _ => by simp [Lib.decFrom]⟩, rfl⟩
      case round =>
        obtain ⟨a, d, m, rfl, rfl, rfl, had, hal, hm, hg2, DD, rfl⟩ := hrel
        have G2 := Lib.hid hg2; clear hg2
        have HAD := Lib.hid had
        have dl : d ≤ 9223372036854775807 := by omega
        have a0 : (0 : Int) ≤ (a : Int) := Int.natCast_nonneg _
        have d0 : (0 : Int) ≤ (d : Int) := Int.natCast_nonneg _
        have m0 : (0 : Int) ≤ (m : Int) := Int.natCast_nonneg _
        have m1 : (m : Int) < 10000000000 := by omega
        have a1 : (a : Int) ≤ 9223372036854775807 := by omega
        have d1 : (d : Int) ≤ 9223372036854775807 := by omega
        obtain ⟨q, hq⟩ : ∃ q : Bool, q = (if h : a < l.length then isDg l[a] else false) := ⟨_, rfl⟩
        have Q := Lib.hid hq; clear hq had
        go_upto_region 12 with fail
        go_cut [42] (fun s42 wx => s42 = .bool q ∧ wx = wr)
        case first =>
          by_cases hlt2 : a < l.length
          · have a2 : (a : Int) < (T.size : Int) := by omega
            have a2b : a < T.size := by omega
            have t1 : decide ((a : Int) < (T.size : Int)) = true := decide_eq_true a2
            have t1b : decide (a < T.size) = true := decide_eq_true a2b
            obtain ⟨n, hn⟩ : ∃ n : Int, n = (l[a].toNat : Int) := ⟨_, rfl⟩
            have hcn : ((T[a]'a2b).toNat : Int) = n := by rw [hn, TG.out a hlt2 a2b]
            have N := Lib.hid hn
            clear hn
            have EQ := Lib.hid (show q = isDg l[a] by rw [Q.out, dif_pos hlt2])
            by_cases h1 : n < 48
            · have E := Lib.hid (show q = false by rw [EQ.out, isDg, decide_eq_false (by have := N.out; omega)]; rfl)
              have t2 : decide (48 ≤ n) = false := decide_eq_false (by omega)
              clear tz
              go_wp2
              go_meet
              exact ⟨by rw [E.out], rfl⟩
            have t2 : decide (48 ≤ n) = true := decide_eq_true (by omega)
            by_cases h2 : 57 < n
            · have E := Lib.hid (show q = false by rw [EQ.out, isDg, decide_eq_false (p := l[a].toNat ≤ 57) (by have := N.out; omega), Bool.and_false])
              have t3 : decide (n ≤ 57) = false := decide_eq_false (by omega)
              clear tz
              go_wp2
              go_meet
              exact ⟨by rw [E.out], rfl⟩
            have E := Lib.hid (show q = true by rw [EQ.out, isDg, decide_eq_true (p := l[a].toNat ≤ 57) (by have := N.out; omega), decide_eq_true (p := 48 ≤ l[a].toNat) (by have := N.out; omega)]; rfl)
            have t3 : decide (n ≤ 57) = true := decide_eq_true (by omega)
            clear tz
            go_wp2
            go_meet
            exact ⟨by rw [E.out], rfl⟩
          · have t1 : decide ((a : Int) < (T.size : Int)) = false := decide_eq_false (by omega)
            have t1b : decide (a < T.size) = false := decide_eq_false (by omega)
            have E := Lib.hid (show q = false by rw [Q.out, dif_neg hlt2])
            clear tz
            go_wp2
            go_meet
            exact ⟨by rw [E.out], rfl⟩
        case rest =>
        obtain ⟨rfl, rfl⟩ := hcut
        cases q
        · have QF : ∀ h : a < l.length, isDg l[a] = false := fun h => by have := Q.out; rw [dif_pos h] at this; exact this.symm
          have NO := Lib.hid (show (d = 0 ∨ 9 < d ∨ l[j] = 48 ∨ a = l.length) → SpanR l (0, 2) from fun hb => BAD.out nx tot (l.drop j) KEEP.out (by intro e; have := congrArg List.length e; rw [List.length_drop, List.length_nil] at this; omega) (rs_none hlt (by have := HAD.out; omega) DD.out.1 (by obtain rfl := HAD.out; exact QF) (by obtain rfl := HAD.out; exact hb)))
          by_cases e1 : d = 0
          · have SR := Lib.hid (NO.out (.inl e1))
            have t1 : ((d : Int) == 0) = true := by rw [beq_iff_eq]; omega
            have t1b : (d == 0) = true := by rw [beq_iff_eq]; omega
            clear e1 tz QF
            go_wp2
            go_ret2
            exact ⟨_, SR.out, rfl, rfl⟩
          have t1 : ((d : Int) == 0) = false := by rw [beq_eq_false_iff_ne]; omega
          by_cases e2 : 9 < d
          · have SR := Lib.hid (NO.out (.inr (.inl e2)))
            have t2 : decide (9 < (d : Int)) = true := decide_eq_true (by omega)
            have t2b : decide (9 < d) = true := decide_eq_true e2
            clear e1 e2 tz QF
            go_wp2
            go_ret2
            exact ⟨_, SR.out, rfl, rfl⟩
          have t2 : decide (9 < (d : Int)) = false := decide_eq_false (by omega)
          have t2b : decide (9 < d) = false := decide_eq_false e2
          have sub : (a : Int) - (d : Int) = (j : Int) := by have := HAD.out; omega
          have jT : j < T.size := by omega
          obtain ⟨nj, hnj⟩ : ∃ n : Int, n = (l[j].toNat : Int) := ⟨_, rfl⟩
          have hcj : ((T[j]'jT).toNat : Int) = nj := by rw [hnj, TG.out j hlt jT]
          have e48 : (nj == 48) = decide (l[j] = 48) := byte_num (d := 48) hnj rfl
          by_cases e3 : l[j] = 48
          · have SR := Lib.hid (NO.out (.inr (.inr (.inl e3))))
            rw [decide_eq_true e3] at e48
            clear e1 e2 e3 tz QF hnj
            go_wp2
            go_ret2
            exact ⟨_, SR.out, rfl, rfl⟩
          rw [decide_eq_false e3] at e48
          by_cases e4 : a = l.length
          · have SR := Lib.hid (NO.out (.inr (.inr (.inr e4))))
            have t4 : ((a : Int) == (T.size : Int)) = true := by rw [beq_iff_eq]; omega
            have t4b : (a == T.size) = true := by rw [beq_iff_eq]; omega
            clear e1 e2 e3 e4 tz QF hnj
            go_wp2
            go_ret2
            exact ⟨_, SR.out, rfl, rfl⟩
          have hlt3 : a < l.length := by omega
          have a2b : a < T.size := by omega
          have a2 : (a : Int) < (T.size : Int) := by omega
          have t4 : ((a : Int) == (T.size : Int)) = false := by rw [beq_eq_false_iff_ne]; omega
          have t4b : (a == T.size) = false := by rw [beq_eq_false_iff_ne]; omega
          have DM := DD.out.2 (by omega)
          have m9 : m < 1000000000 := dec9 DM (by rw [List.length_take]; omega)
          have m9i : (m : Int) < 1000000000 := by omega
          obtain ⟨n, hn⟩ : ∃ n : Int, n = (l[a].toNat : Int) := ⟨_, rfl⟩
          have hcn : ((T[a]'a2b).toNat : Int) = n := by rw [hn, TG.out a hlt3 a2b]
          have HERE := Lib.hid (show ∀ k, l[a] = letC k → nx ≤ k → k ≤ 2 → limB k m = true → ∀ x, RdS (k + 1) (tot + m * unitN k) (l.drop (a + 1)) x → RdS 0 0 (bodyS l) x from by
            obtain rfl := HAD.out
            exact fun k h1 h2 h3 h4 x hx => KEEP.out x (.go _ _ _ k m _ x (rs_here hlt hlt3 DM e1 (by omega) e3 h1 h2 h3 h4) hx))
          have NOLET := Lib.hid (show (∀ i, i ≤ 2 → l[a] = letC i → nx ≤ i → limB i m = false) → SpanR l (0, 2) from by
            obtain rfl := HAD.out
            exact fun hb => BAD.out nx tot (l.drop j) KEEP.out (by intro e; have := congrArg List.length e; rw [List.length_drop, List.length_nil] at this; omega) (rs_nolet hlt3 DD.out.1 (QF hlt3) DM hb))
          have E0 := Lib.hid (show (n == 100) = decide (l[a] = letC 0) from byte_num (d := 100) hn rfl)
          have E1 := Lib.hid (show (n == 104) = decide (l[a] = letC 1) from byte_num (d := 104) hn rfl)
          have E2 := Lib.hid (show (n == 109) = decide (l[a] = letC 2) from byte_num (d := 109) hn rfl)
          have hdl : (a : Int) + 1 ≤ 9223372036854775807 := by omega
          clear e1 e2 e3 e4 tz QF hnj DM hn hal
          have CASES : (n = 100 ∨ n = 104 ∨ n = 109 ∨ (n ≠ 100 ∧ n ≠ 104 ∧ n ≠ 109)) := by omega
          rcases CASES with rfl | rfl | rfl | ⟨k1, k2, k3⟩
          · have L0 := Lib.hid (of_decide_eq_true E0.out.symm : l[a] = letC 0)
            by_cases h0 : nx = 0
            · have KEEP2 := Lib.hid (HERE.out 0 L0.out (by omega) (by omega) rfl)
              have c1 : ((nx : Int) == 0) = true := by rw [beq_iff_eq]; omega
              have V := Lib.hid (show (tot : Int) + (m : Int) * 1440 = ((tot + m * 1440 : Nat) : Int) by omega)
              have HT2 := Lib.hid (show tot + m * 1440 ≤ 1 * 1440000000000 by omega)
              clear h0
              go_wp2
              go_roundg (l.length - (a + 1))
              case measure => rw [G.out]; have := HAD.out; omega
              case rel => exact ⟨a + 1, 1, tot + m * 1440, by go_num, by rw [V.out], rfl, hlt3, by omega, HT2.out, rfl, KEEP2, rfl⟩
            · have SR := Lib.hid (NOLET.out (fun i h1 h2 h3 => by
                have := h2.symm.trans L0.out
                match i, h1 with
                | 0, _ => omega
                | 1, _ => exact absurd this (by decide)
                | 2, _ => exact absurd this (by decide)))
              have c1 : ((nx : Int) == 0) = false := by rw [beq_eq_false_iff_ne]; omega
              clear h0
              go_wp2
              go_ret2
              exact ⟨_, SR.out, rfl, rfl⟩
          · have L0 := Lib.hid (of_decide_eq_true E1.out.symm : l[a] = letC 1)
            by_cases h0 : nx ≤ 1 ∧ m < 24
            · have KEEP2 := Lib.hid (HERE.out 1 L0.out h0.1 (by omega) (decide_eq_true (.inr (.inl ⟨rfl, h0.2⟩))))
              have c1 : decide ((nx : Int) ≤ 1) = true := decide_eq_true (by omega)
              have c1b : decide (nx ≤ 1) = true := decide_eq_true h0.1
              have c2 : decide ((m : Int) < 24) = true := decide_eq_true (by omega)
              have c2b : decide (m < 24) = true := decide_eq_true h0.2
              have V := Lib.hid (show (tot : Int) + (m : Int) * 60 = ((tot + m * 60 : Nat) : Int) by omega)
              have HT2 := Lib.hid (show tot + m * 60 ≤ 2 * 1440000000000 by omega)
              clear h0
              go_wp2
              go_roundg (l.length - (a + 1))
              case measure => rw [G.out]; have := HAD.out; omega
              case rel => exact ⟨a + 1, 2, tot + m * 60, by go_num, by rw [V.out], rfl, hlt3, by omega, HT2.out, rfl, KEEP2, rfl⟩
            · have SR := Lib.hid (NOLET.out (fun i h1 h2 h3 => by
                have := h2.symm.trans L0.out
                match i, h1 with
                | 0, _ => exact absurd this (by decide)
                | 1, _ => exact decide_eq_false (by omega)
                | 2, _ => exact absurd this (by decide)))
              by_cases h1 : nx ≤ 1
              · have c1 : decide ((nx : Int) ≤ 1) = true := decide_eq_true (by omega)
                have c1b : decide (nx ≤ 1) = true := decide_eq_true h1
                have c2 : decide ((m : Int) < 24) = false := decide_eq_false (by omega)
                have c2b : decide (m < 24) = false := decide_eq_false (by omega)
                clear h0 h1
                go_wp2
                go_ret2
                exact ⟨_, SR.out, rfl, rfl⟩
              · have c1 : decide ((nx : Int) ≤ 1) = false := decide_eq_false (by omega)
                have c1b : decide (nx ≤ 1) = false := decide_eq_false h1
                clear h0 h1
                go_wp2
                go_ret2
                exact ⟨_, SR.out, rfl, rfl⟩
          · have L0 := Lib.hid (of_decide_eq_true E2.out.symm : l[a] = letC 2)
            by_cases h0 : nx ≤ 2 ∧ m < 60
            · have KEEP2 := Lib.hid (HERE.out 2 L0.out h0.1 (by omega) (decide_eq_true (.inr (.inr ⟨rfl, h0.2⟩))))
              have c1 : decide ((nx : Int) ≤ 2) = true := decide_eq_true (by omega)
              have c1b : decide (nx ≤ 2) = true := decide_eq_true h0.1
              have c2 : decide ((m : Int) < 60) = true := decide_eq_true (by omega)
              have c2b : decide (m < 60) = true := decide_eq_true h0.2
              have V := Lib.hid (show (tot : Int) + (m : Int) = ((tot + m * 1 : Nat) : Int) by omega)
              have HT2 := Lib.hid (show tot + m * 1 ≤ 3 * 1440000000000 by omega)
              clear h0
              go_wp2
              go_roundg (l.length - (a + 1))
              case measure => rw [G.out]; have := HAD.out; omega
              case rel => exact ⟨a + 1, 3, tot + m * 1, by go_num, by rw [V.out], rfl, hlt3, by omega, HT2.out, rfl, KEEP2, rfl⟩
            · have SR := Lib.hid (NOLET.out (fun i h1 h2 h3 => by
                have := h2.symm.trans L0.out
                match i, h1 with
                | 0, _ => exact absurd this (by decide)
                | 1, _ => exact absurd this (by decide)
                | 2, _ => exact decide_eq_false (by omega)))
              by_cases h1 : nx ≤ 2
              · have c1 : decide ((nx : Int) ≤ 2) = true := decide_eq_true (by omega)
                have c1b : decide (nx ≤ 2) = true := decide_eq_true h1
                have c2 : decide ((m : Int) < 60) = false := decide_eq_false (by omega)
                have c2b : decide (m < 60) = false := decide_eq_false (by omega)
                clear h0 h1
                go_wp2
                go_ret2
                exact ⟨_, SR.out, rfl, rfl⟩
              · have c1 : decide ((nx : Int) ≤ 2) = false := decide_eq_false (by omega)
                have c1b : decide (nx ≤ 2) = false := decide_eq_false h1
                clear h0 h1
                go_wp2
                go_ret2
                exact ⟨_, SR.out, rfl, rfl⟩
          · have SR := Lib.hid (NOLET.out (fun i h1 h2 h3 => by
              match i, h1 with
              | 0, _ => exact absurd (E0.out.trans (decide_eq_true h2)) (by rw [beq_iff_eq]; exact k1)
              | 1, _ => exact absurd (E1.out.trans (decide_eq_true h2)) (by rw [beq_iff_eq]; exact k2)
              | 2, _ => exact absurd (E2.out.trans (decide_eq_true h2)) (by rw [beq_iff_eq]; exact k3)))
            have b1 : (n == 100) = false := by rw [beq_eq_false_iff_ne]; exact k1
            have b2 : (n == 104) = false := by rw [beq_eq_false_iff_ne]; exact k2
            have b3 : (n == 109) = false := by rw [beq_eq_false_iff_ne]; exact k3
            clear k1 k2 k3
            go_wp2
            go_ret2
            exact ⟨_, SR.out, rfl, rfl⟩
        · have hlt2 : a < l.length := by
            by_cases h : a < l.length
            · exact h
            · have := Q.out; rw [dif_neg h] at this; cases this
          have hdg : isDg l[a] = true := by have := Q.out; rw [dif_pos hlt2] at this; exact this.symm
          have a2 : (a : Int) < (T.size : Int) := by omega
          have a2b : a < T.size := by omega
          obtain ⟨n, hn⟩ : ∃ n : Int, n = (l[a].toNat : Int) := ⟨_, rfl⟩
          have hcn : ((T[a]'a2b).toNat : Int) = n := by rw [hn, TG.out a hlt2 a2b]
          have hnd : 48 ≤ n ∧ n ≤ 57 := by
            rw [isDg, Bool.and_eq_true] at hdg
            have := of_decide_eq_true hdg.1; have := of_decide_eq_true hdg.2; omega
          obtain ⟨n1, n2⟩ := hnd
          have ALL := Lib.hid (show ∀ b ∈ (l.drop j).take (d + 1), isDg b = true by obtain rfl := HAD.out; exact take_all DD.out.1 hlt2 hdg)
          have NXT := Lib.hid (show d ≤ 8 → Lib.decFrom 0 ((l.drop j).take (d + 1)) = some (m * 10 + (l[a].toNat - 48)) by obtain rfl := HAD.out; exact fun h => dec_next hlt2 (DD.out.2 (by omega)) hdg)
          have M9 : d ≤ 9 → m < 1000000000 := fun h => dec9 (DD.out.2 h) (by rw [List.length_take]; omega)
          have V := Lib.hid (show (m : Int) * 10 + n - 48 = ((m * 10 + (l[a].toNat - 48) : Nat) : Int) by omega)
          have VL : d ≤ 9 → m * 10 + (l[a].toNat - 48) < 10000000000 := fun h => by have := M9 h; omega
          by_cases h10 : d < 10
          · have m2 := M9 (by omega)
            have v2 := VL (by omega)
            have t1 : decide ((d : Int) < 10) = true := decide_eq_true (by omega)
            have t1b : decide (d < 10) = true := decide_eq_true h10
            have m3 : (m : Int) < 1000000000 := by omega
            have hd2 : d ≤ 9 := by omega
            have hd3 : (d : Int) ≤ 9 := by omega
            clear VL M9 h10 hn hdg tz
            go_wp2
            go_roundg (l.length - (a + 1))
            case measure => rw [G2.out]; omega
            case rel => exact ⟨a + 1, d + 1, m * 10 + (l[a].toNat - 48), by go_num, by rw [V.out], by go_num, by have := HAD.out; omega, by omega, v2, rfl, Lib.hid ⟨ALL.out, fun h => NXT.out (by omega)⟩, rfl⟩
          · have d2 : (d : Int) + 1 ≤ 9223372036854775807 := by have := HAD.out; omega
            have t1 : decide ((d : Int) < 10) = false := decide_eq_false (by omega)
            have t1b : decide (d < 10) = false := decide_eq_false h10
            clear VL M9 hn hdg tz
            go_wp2
            go_roundg (l.length - (a + 1))
            case measure => rw [G2.out]; omega
            case rel => exact ⟨a + 1, d + 1, m, by go_num, rfl, by go_num, by have := HAD.out; omega, by omega, hm, rfl, Lib.hid ⟨ALL.out, fun h => by omega⟩, rfl⟩
    · obtain rfl : j = l.length := by omega
      have SR := Lib.hid (DONE.out nx tot (by have := KEEP.out; rw [List.drop_length] at this; exact this))
      have i1 : ¬ ((l.length : Int) < (T.size : Int)) := by omega
      have i1b : ¬ (l.length < T.size) := by omega
      have i2 : decide ((l.length : Int) < (T.size : Int)) = false := decide_eq_false i1
      have i2b : decide (l.length < T.size) = false := decide_eq_false i1b
      clear tz
      by_cases hn0 : nx = 0
      · have E := Lib.hid (show finS less (some (nx, tot)) = (0, 2) by rw [finS, if_pos hn0])
        have q1 : ((nx : Int) == 0) = true := by rw [beq_iff_eq]; omega
        clear hn0
        go_wp2
        go_ret2
        exact ⟨_, SR.out, by rw [E.out]; rfl, rfl⟩
      have q1 : ((nx : Int) == 0) = false := by rw [beq_eq_false_iff_ne]; omega
      by_cases hn1 : 1000000 < tot
      · have E := Lib.hid (show finS less (some (nx, tot)) = (0, 1) by rw [finS, if_neg hn0, if_pos hn1])
        have q2 : decide (1000000 < (tot : Int)) = true := decide_eq_true (by omega)
        have q2b : decide (1000000 < tot) = true := decide_eq_true hn1
        clear hn0 hn1
        go_wp2
        go_ret2
        exact ⟨_, SR.out, by rw [E.out]; rfl, rfl⟩
      have q2 : decide (1000000 < (tot : Int)) = false := decide_eq_false (by omega)
      have q2b : decide (1000000 < tot) = false := decide_eq_false hn1
      have E := Lib.hid (show finS less (some (nx, tot)) = (if less then -(tot : Int) else tot, 0) by rw [finS, if_neg hn0, if_neg hn1])
      clear hn0 hn1
      cases less
      · go_wp2
        go_ret2
        exact ⟨_, SR.out, by rw [E.out]; rfl, rfl⟩
      · go_wp2
        go_ret2
        exact ⟨_, SR.out, by rw [E.out]; rfl, rfl⟩

end Go.Proofs.YtiihkdefhhdfnaaGreatDoor
