/- Texts joined into one (a claim has at most 60 files): The days of a rule that goes each week, plainly; and the rings of the event that the laws of the whole try first; chimetop.one: the closed fact that the laws of the whole try first: its contract; The law TopDays, plainly: the times of an event that repeats, in a zone without shifts, in a month; and their load. -/
import Derived.Test.YtgelojhpanbnaaaGreatDoorQ11
import Derived.Test.YtgelojhpanbnaaaGreatDoorQ27
import Derived.Test.YtgelojhpanbnaaaGreatDoorQ14
import Derived.Test.YtgelojhpanbnaaaGreatDoorQ28
import Derived.Test.YtgelojhpanbnaaaGreatDoorQ37
namespace Go.Proofs.YtgelojhpanbnaaaGreatDoor
open Go.RowKit Go.Shelf
set_option linter.unusedSimpArgs false
set_option linter.unusedVariables false

theorem tmod7 (a : Int) : a.tmod 7 = 0 ↔ a % 7 = 0 := by
  rw [← Int.dvd_iff_tmod_eq_zero, ← Int.dvd_iff_emod_eq_zero]

theorem ask_2 (n0 n : Int) : askB 2 [] [] [] n0 n = ((n - n0).tmod 7 == 0) := by
  simp [askB, okB, zB]

theorem perL_week {n0 a x : Int} : x ∈ perL 2 [] [] [] [] n0 a (a + 6) ↔ a ≤ x ∧ x ≤ a + 6 ∧ x ≤ 109573 ∧ (x - n0) % 7 = 0 := by
  rw [perL, pickL, if_pos rfl]
  constructor
  · intro h
    obtain ⟨h1, h2, h3⟩ := daysG_mem _ _ _ _ h
    rw [ask_2, beq_iff_eq, tmod7] at h3
    omega
  · rintro ⟨h1, h2, h3, h4⟩
    refine daysG_has _ _ _ _ h1 (by omega) ?_
    rw [ask_2, beq_iff_eq, tmod7]; exact h4

theorem perD_week {y m d st k : Int} (hst : Cal.num y m d = st) (hk : 0 ≤ k ∧ k ≤ 109573) : perD 2 1 y m d [] [] [] [] st k = if Cal.mondayI st + 7 * k ≤ 109573 then some (perL 2 [] [] [] [] st (Cal.mondayI st + 7 * k) (Cal.mondayI st + 7 * k + 6)) else none := by
  unfold perD perS
  rw [if_neg (by omega), if_neg (by decide), if_pos rfl, hst, Int.mul_one]
  split
  · rfl
  · rfl

theorem restG_week {y m d st : Int} (hst : Cal.num y m d = st) : ∀ (c : Nat) (k : Int), 0 ≤ k → k + c ≤ 109574 → ∀ x, x ∈ restG (perD 2 1 y m d [] [] [] [] st) st c k ↔ (st < x ∧ x ≤ 109573 ∧ (x - st) % 7 = 0) ∧ Cal.mondayI st + 7 * k ≤ x ∧ x < Cal.mondayI st + 7 * (k + c)
  | 0, k, hk, hc, x => by
    simp [restG] <;> omega
  | c + 1, k, hk, hc, x => by
    rw [restG, perD_week hst ⟨hk, by omega⟩]
    have ih := restG_week hst c (k + 1) (by omega) (by omega) x
    by_cases hl : Cal.mondayI st + 7 * k ≤ 109573
    · rw [if_pos hl]
      show x ∈ (perL 2 [] [] [] [] st (Cal.mondayI st + 7 * k) (Cal.mondayI st + 7 * k + 6)).filter (fun n => decide (st < n)) ++ restG (perD 2 1 y m d [] [] [] [] st) st c (k + 1) ↔ _
      rw [List.mem_append, List.mem_filter, perL_week, ih]
      simp only [decide_eq_true_eq]
      constructor
      · rintro (h | h) <;> omega
      · intro h
        by_cases h2 : x < Cal.mondayI st + 7 * (k + 1)
        · left; omega
        · right; omega
    · rw [if_neg hl]
      show x ∈ ([] : List Int) ↔ _
      simp; omega

theorem each_week {y m d st x : Int} (hd : Cal.dateB y m d = true) (hst : Cal.num y m d = st) : x ∈ eachL 2 1 0 0 y m d [] [] [] [] st ↔ st ≤ x ∧ x ≤ 109573 ∧ (x - st) % 7 = 0 := by
  have hb := (Cal.num_bd hd).2.2
  rw [hst] at hb
  have e : ∀ (l : List Int) (j : Nat), eachG 0 0 j l = l := by
    intro l
    induction l with
    | nil => intro j; rfl
    | cons z r ih => intro j; rw [eachG, if_pos (by simp [okT, okC]), ih]
  rw [eachL, e, List.mem_cons, restL, show (109574 - (0 : Int)).toNat = 109574 by omega, restG_week hst 109574 0 (by omega) (by omega)]
  unfold Cal.mondayI
  constructor
  · rintro (rfl | h)
    · omega
    · omega
  · intro h
    by_cases h2 : x = st
    · exact .inl h2
    · right; omega

/-- the times of the first event that the laws of the whole try: each week. -/
theorem week_T {t : Int} : t ∈ ruleT true 66729179 2 1 0 0 [] [] [] [] ↔ ∃ j : Nat, t = 66729179 + j * 10080 ∧ 46340 + (j : Int) * 7 ≤ 109573 := by
  obtain ⟨y, m, d, hd, hn⟩ := Cal.ex_date 46340 (by omega) (by omega)
  rw [ruleT, if_pos rfl, show (66729179 : Int) / 1440 + 1 = 46340 by decide, show (66729179 : Int) % 1440 = 1019 by decide, daysAt_eq hd hn, tmsL, List.mem_map]
  constructor
  · rintro ⟨x, hx, rfl⟩
    have h := (each_week hd hn).1 hx
    refine ⟨((x - 46340) / 7).toNat, ?_, by omega⟩
    rw [evT_in (by omega) (by omega) (by omega) (by omega)]
    omega
  · rintro ⟨j, rfl, hj⟩
    refine ⟨46340 + j * 7, (each_week hd hn).2 (by omega), ?_⟩
    rw [evT_in (by omega) (by omega) (by omega) (by omega)]
    omega

/-- its rings: three. -/
theorem week_rings : ringsL 0 [] (ruleT true 66729179 2 1 0 0 [] [] [] []) [] [] [] [(0, false, 0, 0)] 60 66729179 66749999 = [(66729179, 66729179, 0, 0), (66739259, 66739259, 0, 0), (66749339, 66749339, 0, 0)] := by
  have hz : MayZ 0 [] := mayZ_nil (by decide)
  have hC : ([] : List (Int × Int)).Pairwise (fun x y => x.1 < y.1) := List.Pairwise.nil
  have hA : ∀ a ∈ [((0 : Int), false, (0 : Int), (0 : Int))], almBad a = false := fun a ha => by
    obtain rfl := List.mem_singleton.1 ha; decide
  have hr : ∀ t, reallyC [] t = (t, false) := fun t => rfl
  have tb : ∀ t : Int, 1 ≤ t → t < 157785120 → timeB t = true := fun t h1 h2 => by unfold timeB; simp; omega
  refine ord_ext lt4_irr (fun h1 h2 => lt4_trans h1 h2) _ _ (ringsL_ord hz hC) (by simp [Lt4]) fun r => ?_
  rw [ringsL_mem hz hC hA (by decide)]
  obtain ⟨r1, r2, r3, r4⟩ := r
  simp only [List.mem_cons, List.not_mem_nil, or_false, Prod.mk.injEq]
  constructor
  · rintro ⟨⟨h1, h2⟩, h3, f, j, k, hj, hi, ho, hk, ha, hx, hy⟩
    obtain rfl : j = 0 := by simpa using hj
    obtain ⟨q1, q2, q3, -, -⟩ := oneT_nil.1 ho
    rw [hr] at q3
    simp only [List.getElem_cons_zero, almAt] at hk ha
    obtain ⟨hi2, -⟩ := hi
    rcases hi2 with hi2 | hi2
    · obtain ⟨n, hn, hn2⟩ := week_T.1 hi2
      simp only at q3 hn ha hk hx hy h1 h2
      have hk0 : k = 0 := by omega
      subst hk0
      have ha2 : r1 = r2 := by simp at ha; omega
      subst ha2
      have hn3 : n = 0 ∨ n = 1 ∨ n = 2 := by omega
      rcases hn3 with rfl | rfl | rfl
      · left; refine ⟨by omega, by omega, by simpa using hx, by simpa using hy⟩
      · right; left; refine ⟨by omega, by omega, by simpa using hx, by simpa using hy⟩
      · right; right; refine ⟨by omega, by omega, by simpa using hx, by simpa using hy⟩
    · cases hi2
  · have go : ∀ (n : Nat) (t : Int), n ≤ 2 → t = 66729179 + n * 10080 → ((66729179 ≤ t ∧ t ≤ 66749999) ∧ timeB t = true ∧ ∃ (f : Int) (j k : Nat) (h : j < [((0 : Int), false, (0 : Int), (0 : Int))].length), IsT (ruleT true 66729179 2 1 0 0 [] [] [] []) [] [] t ∧ oneT 0 [] [] 60 t = some (t, f) ∧ (k : Int) ≤ [((0 : Int), false, (0 : Int), (0 : Int))][j].2.2.1 ∧ t = almAt [((0 : Int), false, (0 : Int), (0 : Int))][j] f 60 + k * [((0 : Int), false, (0 : Int), (0 : Int))][j].2.2.2 ∧ (0 : Int) = j ∧ (0 : Int) = k) := by
      intro n t hn ht
      refine ⟨by omega, tb _ (by omega) (by omega), t, 0, 0, by simp, ⟨.inl (week_T.2 ⟨n, ht, by omega⟩), by simp [inB]⟩, oneT_nil.2 ⟨by rw [hr], rfl, by rw [hr]; simp, tb _ (by simp only; omega) (by simp only; omega), tb _ (by simp only; omega) (by simp only; omega)⟩, by simp, by simp [almAt], rfl, rfl⟩
    rintro (⟨rfl, rfl, rfl, rfl⟩ | ⟨rfl, rfl, rfl, rfl⟩ | ⟨rfl, rfl, rfl, rfl⟩)
    · exact go 0 _ (by omega) (by omega)
    · exact go 1 _ (by omega) (by omega)
    · exact go 2 _ (by omega) (by omega)

end Go.Proofs.YtgelojhpanbnaaaGreatDoor

namespace Go.Proofs.YtgelojhpanbnaaaGreatDoor
open Go.RowKit Go.Shelf
set_option linter.unusedSimpArgs false
set_option linter.unusedVariables false

theorem alms_oneW {w : World} {b : Nat} {al : Alm} (h0 : w.cell? ⟨b, 0, none⟩ = some (.int .i64 al.1)) (h1 : w.cell? ⟨b, 1, none⟩ = some (.bool al.2.1)) (h2 : w.cell? ⟨b, 2, none⟩ = some (.int .i64 al.2.2.1)) (h3 : w.cell? ⟨b, 3, none⟩ = some (.int .i64 al.2.2.2)) : AlmsR w (.slice (some ⟨b, 0, none⟩) 1 1) [al] :=
  ⟨_, 1, rfl, by simp [almV], by simp, by decide, fun _ => ⟨b, 0, rfl, fun j u hj => by
    match j, hj with
    | 0, hj => (simp [almV] at hj; subst hj; simpa using h0)
    | 1, hj => (simp [almV] at hj; subst hj; simpa using h1)
    | 2, hj => (simp [almV] at hj; subst hj; simpa using h2)
    | 3, hj => (simp [almV] at hj; subst hj; simpa using h3)⟩⟩

theorem one_lit (w0 : World) : ∃ ob vA1, Value.pointer (some ⟨w0.heap.size + 1, 0, none⟩) = .pointer (some ⟨ob, 0, none⟩) ∧ EvC ((w0.alloc (.cells #[.int .i64 0, .bool false, .int .i64 0, .int .i64 0] 84)).alloc (.cells #[.string { data := #[97] }, .string { data := #[] }, .int .i64 66729179, .int .i64 60, .bool true, .int .i64 2, .int .i64 1, .int .i64 0, .int .i64 0, .slice none 0 0, .slice none 0 0, .slice none 0 0, .slice none 0 0, .slice none 0 0, .slice none 0 0, .slice none 0 0, .slice (some ⟨w0.heap.size, 0, none⟩) 1 1] 29)) ob { data := #[97] } { data := #[] } 66729179 60 true 2 1 0 0 (.slice none 0 0) (.slice none 0 0) (.slice none 0 0) (.slice none 0 0) (.slice none 0 0) (.slice none 0 0) (.slice none 0 0) vA1 ∧ AlmsR ((w0.alloc (.cells #[.int .i64 0, .bool false, .int .i64 0, .int .i64 0] 84)).alloc (.cells #[.string { data := #[97] }, .string { data := #[] }, .int .i64 66729179, .int .i64 60, .bool true, .int .i64 2, .int .i64 1, .int .i64 0, .int .i64 0, .slice none 0 0, .slice none 0 0, .slice none 0 0, .slice none 0 0, .slice none 0 0, .slice none 0 0, .slice none 0 0, .slice (some ⟨w0.heap.size, 0, none⟩) 1 1] 29)) vA1 [(((0 : Int), false, (0 : Int), (0 : Int)) : Alm)] ∧ Below w0.heap.size w0 ((w0.alloc (.cells #[.int .i64 0, .bool false, .int .i64 0, .int .i64 0] 84)).alloc (.cells #[.string { data := #[97] }, .string { data := #[] }, .int .i64 66729179, .int .i64 60, .bool true, .int .i64 2, .int .i64 1, .int .i64 0, .int .i64 0, .slice none 0 0, .slice none 0 0, .slice none 0 0, .slice none 0 0, .slice none 0 0, .slice none 0 0, .slice none 0 0, .slice (some ⟨w0.heap.size, 0, none⟩) 1 1] 29)) := by
  obtain ⟨y1, hy1⟩ : ∃ z, z = w0.alloc (.cells #[.int .i64 0, .bool false, .int .i64 0, .int .i64 0] 84) := ⟨_, rfl⟩
  have s1 : y1.heap.size = w0.heap.size + 1 := by rw [hy1]; simp
  have c0 : y1.cell? ⟨w0.heap.size, 0, none⟩ = some (.int .i64 0) := by rw [hy1]; simp
  have c1 : y1.cell? ⟨w0.heap.size, 1, none⟩ = some (.bool false) := by rw [hy1]; simp
  have c2 : y1.cell? ⟨w0.heap.size, 2, none⟩ = some (.int .i64 0) := by rw [hy1]; simp
  have c3 : y1.cell? ⟨w0.heap.size, 3, none⟩ = some (.int .i64 0) := by rw [hy1]; simp
  have b1 : Below w0.heap.size w0 y1 := by rw [hy1]; exact (Below.refl _ _).alloc (Nat.le_refl _) _
  rw [← hy1]
  obtain ⟨o, ho⟩ : ∃ o : Obj, o = .cells #[.string { data := #[97] }, .string { data := #[] }, .int .i64 66729179, .int .i64 60, .bool true, .int .i64 2, .int .i64 1, .int .i64 0, .int .i64 0, .slice none 0 0, .slice none 0 0, .slice none 0 0, .slice none 0 0, .slice none 0 0, .slice none 0 0, .slice none 0 0, .slice (some ⟨w0.heap.size, 0, none⟩) 1 1] 29 := ⟨_, rfl⟩
  have ec := evC_new y1 29 { data := #[97] } { data := #[] } 66729179 60 true 2 1 0 0 (.slice none 0 0) (.slice none 0 0) (.slice none 0 0) (.slice none 0 0) (.slice none 0 0) (.slice none 0 0) (.slice none 0 0) (.slice (some ⟨w0.heap.size, 0, none⟩) 1 1)
  rw [← ho] at ec ⊢
  have b3 : Below y1.heap.size y1 (y1.alloc o) := (Below.refl y1.heap.size y1).alloc (Nat.le_refl _) o
  have i1 := alms_oneW (al := (((0 : Int), false, (0 : Int), (0 : Int)) : Alm)) (cell_below b3 c0) (cell_below b3 c1) (cell_below b3 c2) (cell_below b3 c3)
  rw [s1] at ec
  exact ⟨_, _, rfl, ec, i1, b1.trans (b3.mono (by omega))⟩

theorem one_fact : evF [97] [] 66729179 60 true 2 1 0 0 [] [] [] [] [] [] [] [(0, false, 0, 0)] = 0 := by decide +kernel

theorem one_call (vA : Value) (w : World) (hw : Months w) (hA : AlmsR w vA [(((0 : Int), false, (0 : Int), (0 : Int)) : Alm)]) : Calls Tryz.prog 24 #[.agg #[.int .i64 0, .slice none 0 0], .agg #[.string { data := #[97] }, .string { data := #[] }, .int .i64 66729179, .int .i64 60, .bool true, .int .i64 2, .int .i64 1, .int .i64 0, .int .i64 0, .slice none 0 0, .slice none 0 0, .slice none 0 0, .slice none 0 0, .slice none 0 0, .slice none 0 0, .slice none 0 0, vA], .int .i64 66729179, .int .i64 66750000] w
      (RingsP (bs [97]) 0 [((66729179, 66729179, 0, 0) : Rng), (66739259, 66739259, 0, 0), (66749339, 66749339, 0, 0)] w) := by
  have h := rings_any [97] [] 66729179 60 true 2 1 0 0 (.slice none 0 0) (.slice none 0 0) (.slice none 0 0) (.slice none 0 0) (.slice none 0 0) (.slice none 0 0) (.slice none 0 0) vA [] [] [] [] [] [] [] [(0, false, 0, 0)] 0 (.slice none 0 0) [] 66729179 66750000 w hw ⟨intsR_nil _, intsR_nil _, reads_nil _ _, intsR_nil _, intsR_nil _, intsR_nil _, reads_nil _ _, hA⟩ (reads_nil _ _) (by decide) (by decide) (by decide)
  rw [one_fact, show (66750000 : Int) - 1 = 66749999 by decide, week_rings, show ringE (betE 0 (zfault 0 []) 66729179 66750000) [((66729179, 66729179, 0, 0) : Rng), (66739259, 66739259, 0, 0), (66749339, 66749339, 0, 0)].length = 0 by decide] at h
  exact h

set_option maxRecDepth 100000 in
set_option maxHeartbeats 8000000 in
theorem one_any (w : World) (hw : Months w) : Calls Tryz.prog 10 #[] w fun e w' => e = .returned (.bool true) ∧ Below w.heap.size w w' := by
  have HW := Lib.hid hw
  clear hw
  go_enter Tryz.func10, Tryz.ntmps10
  go_upto_region 1 with fail
  go_cut [1] (fun s1 wx => ∃ ob vA1, s1 = .pointer (some ⟨ob, 0, none⟩) ∧ EvC wx ob { data := #[97] } { data := #[] } 66729179 60 true 2 1 0 0 (.slice none 0 0) (.slice none 0 0) (.slice none 0 0) (.slice none 0 0) (.slice none 0 0) (.slice none 0 0) (.slice none 0 0) vA1 ∧ AlmsR wx vA1 [(((0 : Int), false, (0 : Int), (0 : Int)) : Alm)] ∧ Below w.heap.size w wx)
  case first =>
    go_wp2
    go_meet
    exact one_lit w
  case rest =>
  obtain ⟨ob, vA1, rfl, ec1, hA1, hb1⟩ := hcut
  obtain ⟨w1, rfl⟩ : ∃ x, x = wc := ⟨_, rfl⟩
  have B1 := Lib.hid hb1
  obtain ⟨aA, kA, rfl, -, -, -⟩ := almsR_open hA1
  have LC := Lib.hid (one_call _ w1 (HW.out.below hb1) hA1)
  obtain ⟨k0, k1, k2, k3, k4, k5, k6, k7, k8, k9, k10, k11, k12, k13, k14, k15, k16⟩ := ec1
  clear hb1 hA1
  go_upto_region 2 with fail
  go_cut [2, 3] (fun s2 s3 wx => (∃ g c, s2 = .slice (some ⟨g, 0, none⟩) 3 c ∧ wx.cell? ⟨g, 10, none⟩ = some (.int .i64 66749339)) ∧ s3 = .nilIface ∧ Below w1.heap.size w1 wx)
  case first =>
    go_wp2_with fail
    refine LC.out.mono ?_; rintro e w2 ⟨v2, rfl, hv2, hb2⟩
    rw [if_pos rfl] at hv2
    obtain ⟨va, vc, rfl, -, -, hcs⟩ := owns_cells hv2
    obtain ⟨g, rfl, -, hc⟩ := hcs (by decide)
    have C0 := Lib.hid (show w2.cell? ⟨g, 10, none⟩ = some (.int .i64 66749339) from hc 10 _ rfl)
    have B2 := Lib.hid hb2
    rw [errV_0]
    clear hcs hc hv2 hb2 k0 k1 k2 k3 k4 k5 k6 k7 k8 k9 k10 k11 k12 k13 k14 k15 k16
    go_wp2
    go_meet
    exact ⟨⟨_, _, rfl, C0.out⟩, rfl, B2.out⟩
  case rest =>
  clear k0 k1 k2 k3 k4 k5 k6 k7 k8 k9 k10 k11 k12 k13 k14 k15 k16
  obtain ⟨⟨g2, c2, rfl, hc0⟩, rfl, hb2⟩ := hcut
  obtain ⟨w2, rfl⟩ : ∃ x, x = wc := ⟨_, rfl⟩
  have B2 := Lib.hid (B1.out.trans (hb2.mono B1.out.size))
  clear hb2 LC
  go_wp2
  go_ret
  exact ⟨by first | rfl | simp, B2.out⟩

end Go.Proofs.YtgelojhpanbnaaaGreatDoor

namespace Go.Proofs.YtgelojhpanbnaaaGreatDoor
open Go.RowKit Go.Shelf
set_option linter.unusedSimpArgs false
set_option linter.unusedVariables false

/-- the minute of a day. -/
def kkT (mi d : Int) : Int := (d - 1) * 1440 + mi

theorem btw_mem {E : List Int} {a b x : Int} : x ∈ btwL E a b ↔ x ∈ E ∧ a ≤ x ∧ x ≤ b := by
  unfold btwL
  rw [List.mem_filter]
  simp only [Bool.and_eq_true, decide_eq_true_eq]

theorem btw_up {E : List Int} {a b : Int} (h : E.Pairwise (· < ·)) : (btwL E a b).Pairwise (· < ·) := h.filter _

theorem tms_mem {E : List Int} {mi x : Int} (hE : ∀ z ∈ E, 1 ≤ z ∧ z ≤ 109573) (hm : 0 ≤ mi ∧ mi < 1440) : x ∈ tmsL mi E ↔ ∃ d ∈ E, x = kkT mi d := by
  rw [tmsL, List.mem_map]
  constructor
  · rintro ⟨d, hd, rfl⟩
    have := hE d hd
    exact ⟨d, hd, evT_in this.1 this.2 hm.1 hm.2⟩
  · rintro ⟨d, hd, rfl⟩
    have := hE d hd
    exact ⟨d, hd, evT_in this.1 this.2 hm.1 hm.2⟩

theorem top_times {E : List Int} {mi ah ln fi : Int} {n : Nat} (hu : E.Pairwise (· < ·)) (hE : ∀ z ∈ E, 1 ≤ z ∧ z ≤ 109573) (hm : 0 ≤ mi ∧ mi < 1440) (ha : -900 ≤ ah ∧ ah ≤ 900) (hl : 0 ≤ ln ∧ ln ≤ 100000) (hf : 366 ≤ fi) (hn : fi + n ≤ 109209) :
    tmsOf ah [] (tmsL mi E) [] [] [] ln ((fi - 1) * 1440 - ah) ((fi - 1) * 1440 - ah + n * 1440) = (btwL E fi (fi + n - 1)).map fun d => (kkT mi d, kkT mi d - ah) := by
  have hr : ∀ t, reallyC [] t = (t, false) := fun t => rfl
  refine ord_ext lt2_irr (fun h1 h2 => lt2_trans h1 h2) _ _ (tmsOf_ord ..) ?_ fun x => ?_
  · rw [List.pairwise_map]
    exact (btw_up hu).imp fun h => by unfold Lt2 kkT; simp only; omega
  · rw [tmsOf_mem (mayZ_nil ha) List.Pairwise.nil, List.mem_map]
    constructor
    · rintro ⟨⟨h1, -⟩, h2, h3, h4⟩
      rcases h1 with h1 | h1
      · obtain ⟨d, hd, he⟩ := (tms_mem hE hm).1 h1
        obtain ⟨-, -, q3, -, -⟩ := oneT_nil.1 h2
        rw [hr] at q3
        simp only at q3
        refine ⟨d, btw_mem.2 ⟨hd, ?_, ?_⟩, ?_⟩
        · unfold kkT at he; omega
        · unfold kkT at he; omega
        · exact Prod.ext he.symm (by simp only; omega)
      · cases h1
    · rintro ⟨d, hd, rfl⟩
      obtain ⟨h1, h2, h3⟩ := btw_mem.1 hd
      simp only
      refine ⟨⟨.inl ((tms_mem hE hm).2 ⟨d, h1, rfl⟩), by simp [inB]⟩, oneT_nil.2 ⟨by rw [hr], rfl, by rw [hr], timeB_mk ?_ ?_, timeB_mk ?_ ?_⟩, ?_, ?_⟩ <;> (unfold kkT; (try simp only); omega)

theorem lod_nil {T : List Int} {low hi : Int} : lodP [] (evL T [] [] low hi) (chgL T [] [] []) = evL T [] [] low hi := by
  unfold lodP chgL
  have h : (evL T [] [] low hi).filter (fun t => (reallyC [] t).1 == t) = evL T [] [] low hi := List.filter_eq_self.2 fun t _ => by
    rw [show reallyC [] t = (t, false) from rfl]; simp
  rw [h]
  simp

theorem top_evL {E : List Int} {mi fi : Int} {n : Nat} (hu : E.Pairwise (· < ·)) (hE : ∀ z ∈ E, 1 ≤ z ∧ z ≤ 109573) (hm : 0 ≤ mi ∧ mi < 1440) :
    evL (tmsL mi E) [] [] ((fi - 1) * 1440) ((fi - 1) * 1440 + n * 1440 - 1) = (btwL E fi (fi + n - 1)).map (kkT mi) := by
  refine rise_ext _ _ (evL_up ..) ?_ fun x => ?_
  · rw [List.pairwise_map]
    exact (btw_up hu).imp fun h => by unfold kkT; omega
  · rw [evL_is, List.mem_map]
    constructor
    · rintro ⟨⟨h1, -⟩, h2, h3⟩
      rcases h1 with h1 | h1
      · obtain ⟨d, hd, rfl⟩ := (tms_mem hE hm).1 h1
        exact ⟨d, btw_mem.2 ⟨hd, by unfold kkT at h2; omega, by unfold kkT at h3; omega⟩, rfl⟩
      · cases h1
    · rintro ⟨d, hd, rfl⟩
      obtain ⟨h1, h2, h3⟩ := btw_mem.1 hd
      exact ⟨⟨.inl ((tms_mem hE hm).2 ⟨d, h1, rfl⟩), by simp [inB]⟩, by unfold kkT; omega, by unfold kkT; omega⟩

/-- all that is counted, day by day. -/
theorem loadC_sum (low : Int) (Ns : List Int) : ∀ (d : Nat), (loadC low d Ns).sum = ((Ns.countP (fun t => decide (low ≤ t ∧ t < low + d * 1440)) : Nat) : Int)
  | 0 => by
    have : Ns.countP (fun t => decide (low ≤ t ∧ t < low + (0 : Nat) * 1440)) = 0 := List.countP_eq_zero.2 fun t _ => by simp <;> omega
    rw [this]; rfl
  | d + 1 => by
    have ih := loadC_sum low Ns d
    have e1 : loadC low (d + 1) Ns = loadC low d Ns ++ [((Ns.countP (onDay low d) : Nat) : Int)] := by
      unfold loadC; rw [List.range_succ, List.map_append]; rfl
    have e2 : Ns.countP (fun t => decide (low ≤ t ∧ t < low + (d + 1 : Nat) * 1440)) = Ns.countP (fun t => decide (low ≤ t ∧ t < low + d * 1440)) + Ns.countP (onDay low d) := by
      rw [countP_split _ (fun t => decide (low ≤ t ∧ t < low + d * 1440)) Ns]
      congr 1
      · exact countP_eq fun t _ => by
          rw [Bool.eq_iff_iff]; simp only [Bool.and_eq_true, decide_eq_true_eq]; omega
      · exact countP_eq fun t _ => by
          rw [Bool.eq_iff_iff]; simp only [onDay, Bool.and_eq_true, Bool.not_eq_true', decide_eq_true_eq, decide_eq_false_iff_not]; omega
    rw [e1, List.sum_append, ih, e2]
    simp

/-- what the law asks of the load. -/
theorem top_load {X : List Int} {mi fi : Int} {n : Nat} (hu : X.Pairwise (· < ·)) (hX : ∀ d ∈ X, fi ≤ d ∧ d ≤ fi + n - 1) (hm : 0 ≤ mi ∧ mi < 1440) :
    (loadC ((fi - 1) * 1440) n (X.map (kkT mi))).sum = X.length ∧ ∀ d ∈ X, (loadC ((fi - 1) * 1440) n (X.map (kkT mi)))[(d - fi).toNat]? = some 1 := by
  constructor
  · rw [loadC_sum]
    have : (X.map (kkT mi)).countP (fun t => decide ((fi - 1) * 1440 ≤ t ∧ t < (fi - 1) * 1440 + n * 1440)) = (X.map (kkT mi)).length := List.countP_eq_length.2 fun t ht => by
      obtain ⟨d, hd, rfl⟩ := List.mem_map.1 ht
      have := hX d hd
      unfold kkT
      exact decide_eq_true (by omega)
    rw [this, List.length_map]
  · intro d hd
    have hb := hX d hd
    have hi : (d - fi).toNat < (loadC ((fi - 1) * 1440) n (X.map (kkT mi))).length := by rw [loadC_len]; omega
    rw [List.getElem?_eq_getElem hi, loadC_get hi]
    have h1 : (X.map (kkT mi)).countP (onDay ((fi - 1) * 1440) (d - fi).toNat) = X.countP (fun z => decide (z = d)) := by
      rw [List.countP_map]
      refine countP_eq fun z hz => ?_
      simp only [Function.comp, onDay, kkT]
      by_cases h : z = d
      · rw [decide_eq_true h]; exact decide_eq_true (by omega)
      · rw [decide_eq_false h]; exact decide_eq_false (by omega)
    have h2 : X.countP (fun z => decide (z = d)) = [d].countP (fun z => decide (z = d)) := countP_nodup (up_nodup hu) (by simp) fun x hx => by
      have : x = d := of_decide_eq_true hx
      subst this
      simp [hd]
    rw [h1, h2]
    simp

theorem btw_len {E : List Int} {fi : Int} {n : Nat} (hu : E.Pairwise (· < ·)) : (btwL E fi (fi + n - 1)).length ≤ n := by
  have := up_len (btwL E fi (fi + n - 1)) fi (fi + n - 1) (btw_up hu) fun x hx => (btw_mem.1 hx).2
  omega

end Go.Proofs.YtgelojhpanbnaaaGreatDoor
