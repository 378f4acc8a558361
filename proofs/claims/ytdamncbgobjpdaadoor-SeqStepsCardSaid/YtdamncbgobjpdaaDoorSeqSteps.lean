/- The law SeqSteps: a rule that goes each so many days tells days so far apart: the walk. Conditions: the table of months. -/
import Derived.Test.YtdamncbgobjpdaaDoorSeqF
import Derived.Test.YtdamncbgobjpdaaDoorSeqS
import Derived.Test.YtdamncbgobjpdaaDoorDayA
import Derived.Outline
namespace Go.Proofs.YtdamncbgobjpdaaDoor
open Go.RowKit Go.Shelf
set_option linter.unusedSimpArgs false
set_option linter.unusedVariables false

theorem plainF2 (ev ct : Int) : ruleF 1 ev ct 0 [] [] [] [] = if (1 ≤ ev ∧ ev ≤ 50) ∧ 0 ≤ ct ∧ ct ≤ 200 then 0 else 1 := by
  by_cases h1 : (1 ≤ ev ∧ ev ≤ 50) ∧ 0 ≤ ct ∧ ct ≤ 200
  · rw [if_pos h1]
    simp [ruleF, numsB, freqB, fullB, inB2, upB, shapeB, withinB, risesB, risesNB, h1.1.1, h1.1.2, h1.2.1, h1.2.2]
  · rw [if_neg h1]
    have hn : numsB 1 ev ct 0 = false := by
      simp only [numsB, Bool.and_eq_false_iff, decide_eq_false_iff_not]
      simp
      omega
    simp [ruleF, hn]

/-- the first of the facts: the tenth of a month, and three days behind it. -/
theorem steps_fact (L : List Int) (h : StepsL 10 3 2 L) : ∃ h1 : 1 < L.length, L.length = 2 ∧ L[1] = 13 := by
  obtain ⟨h1, h2, h3⟩ := h
  rcases h3 with h3 | ⟨h3, h4⟩
  · omega
  · have hl : L.length = 2 := by omega
    exact ⟨by omega, hl, by rw [h1 1 (by omega)]; rfl⟩

theorem plain_seq {st ev ct : Int} (h : seqF (ruleF 1 ev ct 0 [] [] [] []) st = 0) : (1 ≤ ev ∧ ev ≤ 50) ∧ (0 ≤ ct ∧ ct ≤ 200) ∧ (1 ≤ st ∧ st ≤ 109573) := by
  rw [plainF2] at h
  unfold seqF at h
  split at h
  · split at h
    · simp at h; omega
    · simp at h; omega
  · split at h
    · simp at h
    · simp at h; omega

set_option maxRecDepth 100000 in
set_option maxHeartbeats 4000000 in
theorem seqSteps_bad (st ev ct y m d : Int) (w : World) (hw : Months w) (hd : Cal.dateB y m d = true) (hst : Cal.num y m d = 10) (hF : seqF (ruleF 1 ev ct 0 [] [] [] []) st ≠ 0) :
    Calls Tryd.prog 5 #[.int .i64 st, .int .i64 ev, .int .i64 ct] w fun e w' => e = .returned (.bool true) ∧ Below w.heap.size w w' := by
  have hb0 : Below w.heap.size w (w.alloc (.cells #[.int .i64 1, .int .i64 ev, .int .i64 ct, .int .i64 0, .slice none 0 0, .slice none 0 0, .slice none 0 0, .slice none 0 0] 62)) := (Below.refl _ _).alloc (Nat.le_refl _) _
  have hw0 := hw.below hb0
  have hR1 := rlC_new w 62 1 ev ct 0 (.slice none 0 0) (.slice none 0 0) (.slice none 0 0) (.slice none 0 0)
  have FR : ruleF 1 3 2 0 [] [] [] [] = 0 := by rw [plainF2, if_pos (by decide)]
  have SD := steps_day hd hst (show (1 : Int) ≤ 3 by decide) 9 (by decide) (show (0 : Int) ≤ 2 ∧ (2 : Int) ≤ (9 : Nat) by decide)
  obtain ⟨L0, hL0⟩ : ∃ L0, L0 = (eachL 1 3 2 0 y m d [] [] [] [] 10).take 9 := ⟨_, rfl⟩
  rw [← hL0] at SD
  go_enter Tryd.func5, Tryd.ntmps5
  go_wp2_with fail
  refine (sfirst_ok 1 3 2 0 y m d 10 9 _ _ _ _ [] [] [] [] _ hw0 (intsR_nil _) (intsR_nil _) (reads_nil _ 2) (intsR_nil _) hd hst FR (by omega)).mono ?_; rintro e w1 ⟨v, rfl, ⟨hv, hfr⟩, hb1⟩
  have hv : IntsR w1 v L0 := hL0 ▸ hv
  obtain ⟨hlt, hl2, hl3⟩ := steps_fact L0 SD
  obtain ⟨va, vc, rfl, _, _, hvc⟩ := intsR_open hv
  obtain ⟨lb, lo, rfl, hcs⟩ := hvc (by omega)
  have cv := hcs 1 hlt
  rw [hl3] at cv
  rw [hl2]
  obtain ⟨c0, c1, c2, c3, c4, c5, c6, c7⟩ := hR1.same (hb1.block _ (by rw [World.size_alloc]; omega))
  have hbb := hb0.trans (hb1.mono hb0.size)
  clear hb0 hb1 hw0 hR1 hv hcs hvc SD hL0 hl2 hl3 hlt hfr FR hd hst
  go_wp2_with fail
  refine (sfirst_err 1 ev ct 0 st 200 _ _ _ _ [] [] [] [] _ (intsR_nil _) (intsR_nil _) (reads_nil _ 2) (intsR_nil _) hF).mono ?_; rintro e w2 ⟨rfl, hb2⟩
  rw [show errV (seqF (ruleF 1 ev ct 0 [] [] [] []) st) = .iface 114 (.int .i64 (seqF (ruleF 1 ev ct 0 [] [] [] []) st)) by rw [errV, if_neg hF]]
  have B := Lib.hid (hbb.trans (hb2.mono hbb.size))
  clear hbb hb2 c0 c1 c2 c3 c4 c5 c6 c7 cv
  go_wp2
  go_ret
  exact ⟨rfl, B.out⟩

theorem mul_bdS (k ev : Int) (hk : 0 ≤ k ∧ k ≤ 200) (he : 1 ≤ ev ∧ ev ≤ 50) : 0 ≤ k * ev ∧ k * ev ≤ 10000 := by
  refine ⟨Int.mul_nonneg hk.1 (by omega), ?_⟩
  have h1 := Int.mul_le_mul_of_nonneg_left he.2 hk.1
  omega

set_option maxRecDepth 100000 in
set_option maxHeartbeats 4000000 in
theorem seqSteps_ok (st ev ct y m d y1 m1 d1 : Int) (w : World) (hw : Months w) (hd : Cal.dateB y m d = true) (hst : Cal.num y m d = 10) (hd1 : Cal.dateB y1 m1 d1 = true) (hst1 : Cal.num y1 m1 d1 = st)
    (he : 1 ≤ ev ∧ ev ≤ 50) (hc : 0 ≤ ct ∧ ct ≤ 200) (hs : 1 ≤ st ∧ st ≤ 109573) :
    Calls Tryd.prog 5 #[.int .i64 st, .int .i64 ev, .int .i64 ct] w fun e w' => e = .returned (.bool true) ∧ Below w.heap.size w w' := by
  have hb0 : Below w.heap.size w (w.alloc (.cells #[.int .i64 1, .int .i64 ev, .int .i64 ct, .int .i64 0, .slice none 0 0, .slice none 0 0, .slice none 0 0, .slice none 0 0] 62)) := (Below.refl _ _).alloc (Nat.le_refl _) _
  have hw0 := hw.below hb0
  have hR1 := rlC_new w 62 1 ev ct 0 (.slice none 0 0) (.slice none 0 0) (.slice none 0 0) (.slice none 0 0)
  have FR : ruleF 1 3 2 0 [] [] [] [] = 0 := by rw [plainF2, if_pos (by decide)]
  have FE : ruleF 1 ev ct 0 [] [] [] [] = 0 := by rw [plainF2, if_pos ⟨he, hc⟩]
  have SD := steps_day hd hst (show (1 : Int) ≤ 3 by decide) 9 (by decide) (show (0 : Int) ≤ 2 ∧ (2 : Int) ≤ (9 : Nat) by decide)
  have SE := steps_day hd1 hst1 he.1 200 (by decide) (show 0 ≤ ct ∧ ct ≤ (200 : Nat) by omega)
  obtain ⟨L0, hL0⟩ : ∃ L0, L0 = (eachL 1 3 2 0 y m d [] [] [] [] 10).take 9 := ⟨_, rfl⟩
  obtain ⟨L, hL⟩ : ∃ L, L = (eachL 1 ev ct 0 y1 m1 d1 [] [] [] [] st).take 200 := ⟨_, rfl⟩
  rw [← hL0] at SD
  rw [← hL] at SE
  have hLl : L.length ≤ 200 := by rw [hL, List.length_take]; omega
  go_enter Tryd.func5, Tryd.ntmps5
  go_wp2_with fail
  refine (sfirst_ok 1 3 2 0 y m d 10 9 _ _ _ _ [] [] [] [] _ hw0 (intsR_nil _) (intsR_nil _) (reads_nil _ 2) (intsR_nil _) hd hst FR (by omega)).mono ?_; rintro e w1 ⟨v, rfl, ⟨hv, hfr⟩, hb1⟩
  have hv : IntsR w1 v L0 := hL0 ▸ hv
  obtain ⟨hlt, hl2, hl3⟩ := steps_fact L0 SD
  obtain ⟨va, vc, rfl, _, _, hvc⟩ := intsR_open hv
  obtain ⟨lb, lo, rfl, hcs⟩ := hvc (by omega)
  have cv := hcs 1 hlt
  rw [hl3] at cv
  rw [hl2]
  obtain ⟨c0, c1, c2, c3, c4, c5, c6, c7⟩ := hR1.same (hb1.block _ (by rw [World.size_alloc]; omega))
  have hbb := hb0.trans (hb1.mono hb0.size)
  have hw1 := hw0.below hb1
  clear hb0 hb1 hw0 hR1 hv hcs hvc SD hL0 hl2 hl3 hlt hfr FR hd hst
  go_wp2_with fail
  refine (sfirst_ok 1 ev ct 0 y1 m1 d1 st 200 _ _ _ _ [] [] [] [] _ hw1 (intsR_nil _) (intsR_nil _) (reads_nil _ 2) (intsR_nil _) hd1 hst1 FE (by omega)).mono ?_; rintro e w2 ⟨v2, rfl, ⟨hv2, hfr2⟩, hb2⟩
  have hv2 : IntsR w2 v2 L := hL ▸ hv2
  have B := Lib.hid (hbb.trans (hb2.mono hbb.size))
  obtain ⟨va2, vc2, rfl, _, _, hvc2⟩ := intsR_open hv2
  obtain ⟨S1, S2, S3⟩ := SE
  obtain ⟨lb2, lo2, rfl, hcs2⟩ := hvc2 S2
  have HC := Lib.hid hcs2; have SS := Lib.hid S1; have S4 := Lib.hid S3
  clear hbb hb2 c0 c1 c2 c3 c4 c5 c6 c7 cv hv2 hvc2 hcs2 S1 S3 hL hw1 hfr2 hd1 hst1 FE hw
  go_wp2_with fail
  go_loopg [12] L.length (fun g i wr => ∃ k : Nat, k ≤ L.length ∧ i = .int .i64 k ∧ g = L.length - k ∧ wr = w2)
  case atStart => exact ⟨0, Nat.zero_le _, rfl, rfl, rfl⟩
  case round =>
    obtain ⟨k, hk, rfl, hg, rfl⟩ := hrel
    have G := Lib.hid hg; clear hg
    by_cases hlt : k < L.length
    · have c0 := HC.out k hlt
      rw [SS.out k hlt] at c0
      have hm := mul_bdS k ev (by omega) he
      have i1 : (0 : Int) ≤ (k : Int) := Int.natCast_nonneg _
      have i2 : (k : Int) < (L.length : Int) := by omega
      go_wp2
      go_roundg (L.length - (k + 1))
      case measure => rw [G.out]; omega
      case rel => exact ⟨k + 1, by omega, by go_num, rfl, rfl⟩
    · obtain rfl : k = L.length := by omega
      have i2 : ¬ ((L.length : Nat) : Int) < (L.length : Int) := by omega
      have cl := HC.out (L.length - 1) (by omega)
      rw [SS.out (L.length - 1) (by omega)] at cl
      have hm := mul_bdS ((L.length - 1 : Nat) : Int) ev (by omega) he
      have hmul : st + ((L.length - 1 : Nat) : Int) * ev + ev = st + L.length * ev := by
        rw [show (L.length : Int) = ((L.length - 1 : Nat) : Int) + 1 by omega, Int.add_mul]; omega
      have D := S4.out
      rw [← hmul] at D
      clear hmul
      obtain ⟨z, hz⟩ : ∃ z, z = st + ((L.length - 1 : Nat) : Int) * ev := ⟨_, rfl⟩
      rw [← hz] at cl D
      have hzb : 1 ≤ z ∧ z ≤ 200000 := by omega
      have ci : wr.cell? ⟨lb2, lo2 + ((L.length : Int) - 1).toNat, none⟩ = some (.int .i64 z) := by rw [show ((L.length : Int) - 1).toNat = L.length - 1 by omega]; exact cl
      have jw : IntKind.i64.wrap ((L.length : Int) - 1) = (L.length : Int) - 1 := IntWalk.i64_in _ (by omega)
      have jz : IntKind.i64.wrap (z + ev) = z + ev := IntWalk.i64_in _ (by omega)
      have j1 : (0 : Int) ≤ (L.length : Int) - 1 := by omega
      have j2 : (L.length : Int) - 1 < (L.length : Int) := by omega
      have j3 : (1 : Int) ≤ (L.length : Int) := by omega
      have j4 : ((L.length : Int) - 1).toNat = L.length - 1 := by omega
      clear ci hm hz G
      rcases D with hct | ⟨hle, hct⟩
      · subst hct
        go_wp2
        go_quiet (fail)
        go_wp2
        go_ret
        exact ⟨rfl, below_drewN B.out _⟩
      · have e0 : (ct == 0) = false := by rw [beq_eq_false_iff_ne]; omega
        have e1 : decide ((L.length : Int) ≤ ct) = true := by rw [decide_eq_true_eq]; exact hle
        by_cases hq : (L.length : Int) = ct
        · have e2 : ((L.length : Int) == ct) = true := by rw [beq_iff_eq]; exact hq
          go_wp2
          go_quiet (fail)
          go_wp2
          go_ret
          exact ⟨rfl, below_drewN B.out _⟩
        · have e2 : ((L.length : Int) == ct) = false := by rw [beq_eq_false_iff_ne]; exact hq
          have e3 : 109573 < z + ev := by omega
          clear hct
          go_wp2
          go_quiet ((go_at_call 34; exact quiet_l (last_any _)))
          go_wp2
          go_ret
          exact ⟨rfl, below_drewN B.out _⟩

theorem seqSteps_top (st ev ct : Int) (w : World) (hw : Months w) (_ : (Lit.int .i64 st).wf = true) (_ : (Lit.int .i64 ev).wf = true) (_ : (Lit.int .i64 ct).wf = true) :
    Calls Tryd.prog 5 #[.int .i64 st, .int .i64 ev, .int .i64 ct] w fun e w' => e = .returned (.bool true) ∧ Below w.heap.size w w' := by
  obtain ⟨y, m, d, hd, hst⟩ := Cal.ex_date 10 (by decide) (by decide)
  by_cases hF : seqF (ruleF 1 ev ct 0 [] [] [] []) st = 0
  · obtain ⟨he, hc, hs⟩ := plain_seq hF
    obtain ⟨y1, m1, d1, hd1, hst1⟩ := Cal.ex_date st hs.1 hs.2
    exact seqSteps_ok st ev ct y m d y1 m1 d1 w hw hd hst hd1 hst1 he hc hs
  · exact seqSteps_bad st ev ct y m d w hw hd hst hF

end Go.Proofs.YtdamncbgobjpdaaDoor
