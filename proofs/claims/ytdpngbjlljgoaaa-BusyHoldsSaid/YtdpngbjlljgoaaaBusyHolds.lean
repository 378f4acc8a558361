/- The law BusyHolds: the walk. No condition. -/
import Derived.Test.YtdpngbjlljgoaaaBusyD
import Derived.Deep.CutBlock
namespace Go.Proofs.Ytdpngbjlljgoaaa
open Go.RowKit
set_option linter.unusedSimpArgs false
set_option linter.unusedVariables false

theorem holds_fact : busyE [(10, 20)] = 0 ∧ strE 5 30 = 0 ∧ freeL 30 (normL [(10, 20)]) 5 = [(5, 10), (20, 30)] := by decide

theorem first_ok {n : Int} {F : List (Int × Int)} (h : firstE n F = 0) : 1 ≤ n ∧ n ≤ 1000000 ∧ ∃ c ∈ F, firstV n F = c.1 ∧ n ≤ c.2 - c.1 := by
  unfold firstE at h
  split at h
  · simp at h
  · next h1 =>
    cases hf : F.find? (fitB n) with
    | none => rw [hf] at h; simp at h
    | some c =>
      have h2 := List.mem_of_find?_eq_some hf
      have h3 := List.find?_some hf
      refine ⟨by omega, by omega, c, h2, by rw [firstV, if_neg h1, hf]; rfl, by simpa [fitB] using h3⟩

/-- does a stretch hold a slot from end to end? -/
def holdB (s n : Int) (c : Int × Int) : Bool := decide (c.1 ≤ s) && decide (s + n ≤ c.2)

theorem any_snoc {α : Type} (p : α → Bool) (L : List α) (k : Nat) (h : k < L.length) : (L.take (k + 1)).any p = ((L.take k).any p || p L[k]) := by
  rw [List.take_succ_eq_append_getElem h, List.any_append]; simp

theorem free_at {L : List (Int × Int)} {a b : Int} (h : busyE L = 0) (t : Int) : covB (freeL b (normL L) a) t = (decide (a ≤ t) && decide (t < b) && !covB L t) := by
  have g1 : ∀ c ∈ L, c.1 ≤ c.2 := fun c hc => ((busyE_ok h).2 c hc).2.2
  rw [(free_ok b (normL L) a (norm_sep g1)).2 t, norm_cov g1]

theorem norm_at {L : List (Int × Int)} (h : busyE L = 0) (t : Int) : covB (normL L) t = covB L t := norm_cov (fun c hc => ((busyE_ok h).2 c hc).2.2) t

theorem norm_again {L : List (Int × Int)} (h : busyE L = 0) : busyE (normL L) = 0 := by
  refine busyE_mk (by have := norm_len L; have := (busyE_ok h).1; omega) fun c hc => ?_
  have h1 := norm_good h c hc
  exact ⟨timeB_mk (by omega) (by omega), timeB_mk (by omega) (by omega), by omega⟩

theorem tot_all {L : List (Int × Int)} (h : busyE L = 0) : totL (normL L) = cntB (covB L) 1 157785119 := by
  have g1 : ∀ c ∈ L, c.1 ≤ c.2 := fun c hc => ((busyE_ok h).2 c hc).2.2
  rw [tot_cnt 1 157785119 _ (norm_sep g1) (fun c hc => by have := norm_good h c hc; omega)]
  exact cnt_congr 1 _ fun t _ _ => norm_cov g1 t

theorem join_tot {A B : List (Int × Int)} (hA : busyE A = 0) (h : busyE (A ++ B) = 0) : totL (normL A) ≤ totL (normL (normL (A ++ B))) := by
  rw [tot_all hA, tot_all (norm_again h), cnt_congr (p := covB (normL (A ++ B))) (q := covB (A ++ B)) 1 _ (fun t _ _ => norm_at h t)]
  exact cnt_mono 1 _ fun t ht => by rw [covB_append, ht]; rfl

theorem joinE_ok {A B : List (Int × Int)} (h : joinE A B = 0) : busyE (A ++ B) = 0 := by
  unfold joinE at h
  split at h
  · split at h
    · exact h
    · contradiction
  · contradiction

set_option maxRecDepth 100000 in
set_option maxHeartbeats 4000000 in
theorem busyHolds_any (va vb : Value) (A B : List (Int × Int)) (a b n t : Int) (w : World) (hA : PairsR w va A) (hB : PairsR w vb B) :
    Calls Try.prog 5 #[va, vb, .int .i64 a, .int .i64 b, .int .i64 n, .int .i64 t] w fun e w' => e = .returned (.bool true) ∧ Below w.heap.size w w' := by
  have HA := Lib.hid hA
  have HB := Lib.hid hB
  clear hA hB
  have PL := Lib.hid (pairs_laid w 38 [(10, 20)] #[.int .i64 10, .int .i64 20] rfl (by decide))
  have F1 := Lib.hid holds_fact
  go_enter Try.func5, Try.ntmps5
  go_wp2_with fail
  refine (free_yes _ [(10, 20)] 5 30 _ PL.out F1.out.1 F1.out.2.1).mono ?_; rintro e w1 ⟨u, rfl, hown, hb1⟩
  rw [F1.out.2.2] at hown
  have BW := Lib.hid (show Below w.heap.size w w1 from ((Below.refl _ _).alloc (Nat.le_refl _) _).trans (hb1.mono (by simp)))
  obtain ⟨ua, uc, rfl, _, uk, hcell⟩ := pairsR_open (show PairsR w1 u [(5, 10), (20, 30)] from ownsRow_reads hown)
  unfold maxLen at uk
  obtain ⟨b0, off, rfl, hcs⟩ := hcell (by decide)
  have q1 := (hcs 0 (by decide)).2
  have q2 := (hcs 1 (by decide)).1
  simp at q1 q2
  clear hcs hcell hown hb1
  by_cases hE : freeE A a b = 0
  · have hE1 : busyE A = 0 := by
      unfold freeE at hE; split at hE
      · assumption
      · exact hE
    have hE2 : strE a b = 0 := by rw [freeE, if_pos hE1] at hE; exact hE
    have E1 := Lib.hid hE1; have E2 := Lib.hid hE2
    clear hE hE1 hE2
    go_wp2_with fail
    refine (free_yes _ A a b _ (HA.out.below BW.out) E1.out E2.out).mono ?_; rintro e w2 ⟨u, rfl, hown, hb2⟩
    obtain ⟨F, hF⟩ : ∃ F, F = freeL b (normL A) a := ⟨_, rfl⟩
    rw [← hF] at hown
    have FE := Lib.hid hF
    have PF := Lib.hid (show PairsR w2 u F from ownsRow_reads hown)
    have B2 := Lib.hid (BW.out.trans (hb2.mono BW.out.size))
    clear hown hb2 q1 q2 hF
    go_wp2_with fail
    refine (norm_yes _ A _ (HA.out.below B2.out) E1.out).mono ?_; rintro e w3 ⟨l, rfl, hown, hb3⟩
    have PN := Lib.hid (show PairsR w3 l (normL A) from ownsRow_reads hown)
    have B3 := Lib.hid (B2.out.trans (hb3.mono B2.out.size))
    have PF := Lib.hid (PF.out.below hb3)
    clear hown hb3
    go_wp2_with fail
    refine (within_any _ _ t _ PN.out).mono ?_; rintro e w4 ⟨rfl, hb4⟩
    obtain ⟨x, hx⟩ : ∃ x, x = covB A t := ⟨_, rfl⟩
    rw [norm_at E1.out, ← hx]
    have X := Lib.hid hx
    have B4 := Lib.hid (B3.out.trans (hb4.mono B3.out.size))
    have PF := Lib.hid (PF.out.below hb4)
    clear hb4 hx
    go_wp2_with fail
    refine (within_any _ _ t _ PF.out).mono ?_; rintro e w5 ⟨rfl, hb5⟩
    obtain ⟨y, hy⟩ : ∃ y, y = (decide (a ≤ t) && decide (t < b) && !x) := ⟨_, rfl⟩
    rw [FE.out, free_at E1.out, ← X.out, ← hy]
    have Y := Lib.hid hy
    clear hy
    have B5 := Lib.hid (B4.out.trans (hb5.mono B4.out.size))
    have PF := Lib.hid (PF.out.below hb5)
    clear hb5
    go_wp2_with fail
    refine (within_any _ _ t _ (HA.out.below B5.out)).mono ?_; rintro e w6 ⟨rfl, hb6⟩
    rw [← X.out]
    have B6 := Lib.hid (B5.out.trans (hb6.mono B5.out.size))
    have PF := Lib.hid (PF.out.below hb6)
    clear hb6
    go_upto_region 13 with fail
    go_cut [101] (fun s101 wx => s101 = .bool false ∧ w6 = wx)
    case first => as_aux_lemma =>
      by_cases h1 : a ≤ t
      · by_cases h2 : t < b
        · cases x
          · skip
            obtain rfl : y = true := by rw [Y.out]; simp [h1, h2]
            go_wp2
            go_meet
            exact ⟨rfl, rfl⟩
          · skip
            obtain rfl : y = false := by rw [Y.out]; simp [h1, h2]
            go_wp2
            go_meet
            exact ⟨rfl, rfl⟩
        · cases x
          · skip
            obtain rfl : y = false := by rw [Y.out]; simp [h1, h2]
            go_wp2
            go_meet
            exact ⟨rfl, rfl⟩
          · skip
            obtain rfl : y = false := by rw [Y.out]; simp [h1, h2]
            go_wp2
            go_meet
            exact ⟨rfl, rfl⟩
      · cases x
        · skip
          obtain rfl : y = false := by rw [Y.out]; simp [h1]
          go_wp2
          go_meet
          exact ⟨rfl, rfl⟩
        · skip
          obtain rfl : y = false := by rw [Y.out]; simp [h1]
          go_wp2
          go_meet
          exact ⟨rfl, rfl⟩
    case rest =>
    obtain ⟨rfl, rfl⟩ := hcut
    obtain ⟨V, hV⟩ : ∃ V, V = firstV n F := ⟨_, rfl⟩
    obtain ⟨G, hG⟩ : ∃ G, G = errV (firstE n F) := ⟨_, rfl⟩
    have VE := Lib.hid hV
    have GE := Lib.hid hG
    clear hV hG
    go_wp2_with fail
    refine (slot_yes _ A a b n _ (HA.out.below B6.out) E1.out E2.out).mono ?_; rintro e w7 ⟨rfl, hb7⟩
    rw [← FE.out, ← VE.out, ← GE.out]
    have B7 := Lib.hid (B6.out.trans (hb7.mono B6.out.size))
    have PF := Lib.hid (PF.out.below hb7)
    clear hb7
    obtain ⟨ua, uc2, rfl, _, uk2, hcell⟩ := pairsR_open PF.out
    unfold maxLen at uk2
    have CS := Lib.hid hcell
    clear hcell
    have GF := Lib.hid (show Good F by rw [FE.out]; exact free_good E1.out E2.out)
    go_upto_region 16 with fail
    go_cut [111] (fun s111 wx => ∃ bb : Bool, s111 = .bool bb ∧ Hid (bb = true → firstE n F = 0) ∧ w7 = wx)
    case first => as_aux_lemma =>
      by_cases hf : firstE n F = 0
      · obtain rfl : G = .nilIface := by rw [GE.out, hf]; rfl
        have HF := Lib.hid hf
        clear hf
        go_wp2
        go_meet
        exact ⟨true, rfl, Lib.hid (fun _ => HF.out), rfl⟩
      · obtain ⟨f, hf2⟩ : ∃ f, f = firstE n F := ⟨_, rfl⟩
        obtain rfl : G = .iface 65 (.int .i64 f) := by rw [GE.out, errV, if_neg hf, hf2]
        clear hf hf2
        go_wp2
        go_meet
        exact ⟨false, rfl, Lib.hid (fun h => by cases h), rfl⟩
    case rest =>
    obtain ⟨bb, rfl, BF, rfl⟩ := hcut
    go_upto_if 111 with fail
    go_cut [23] (fun s23 wx => Below w7.heap.size w7 wx)
    case first => as_aux_lemma =>
      cases bb
      case true =>
        obtain ⟨n1, n2, c, hc, hv, hn⟩ := first_ok (BF.out rfl)
        have hcg := GF.out c hc
        have v1 : 1 ≤ V := by rw [VE.out, hv]; omega
        have v2 : V < 157785120 := by rw [VE.out, hv]; omega
        have AL := Lib.hid (show F.any (holdB V n) = true from List.any_eq_true.2 ⟨c, hc, by rw [holdB, VE.out, hv]; simp; omega⟩)
        clear hv hn hc hcg
        go_wp2
        go_loopg [23, 24] F.length (fun g fv i wr => ∃ (k : Nat) (f : Bool), k ≤ F.length ∧ i = .int .i64 k ∧ fv = .bool f ∧ g = F.length - k ∧ Hid (f = (F.take k).any (holdB V n)) ∧ w7 = wr)
        case atStart => exact ⟨0, false, Nat.zero_le _, rfl, rfl, rfl, Lib.hid (by simp), rfl⟩
        case round =>
          obtain ⟨k, f, hk, rfl, rfl, hg, FF, rfl⟩ := hrel
          have G := Lib.hid hg; clear hg
          by_cases hlt : k < F.length
          · obtain ⟨fb, off2, rfl, hcs⟩ := CS.out (by omega)
            have c0 := (hcs k hlt).1
            have c1 := (hcs k hlt).2
            have Z := Lib.hid (any_snoc (holdB V n) F k hlt)
            obtain ⟨p, hp⟩ : ∃ p, p = F[k].1 := ⟨_, rfl⟩
            obtain ⟨q, hq⟩ : ∃ q, q = F[k].2 := ⟨_, rfl⟩
            rw [← hp] at c0; rw [← hq] at c1
            have PQ := Lib.hid (show F[k] = (p, q) by rw [hp, hq])
            clear hp hq hcs
            have i1 : (0 : Int) ≤ (k : Int) := Int.natCast_nonneg _
            have i2 : (k : Int) < (F.length : Int) := by omega
            cases f
            · by_cases h1 : p ≤ V
              · by_cases h2 : V + n ≤ q
                · have E := Lib.hid (show true = (F.take (k + 1)).any (holdB V n) by rw [Z.out, PQ.out, holdB]; simp [h1, h2])
                  go_wp2
                  go_roundg (F.length - (k + 1))
                  case measure => rw [G.out]; omega
                  case rel => exact ⟨k + 1, true, by omega, by go_num, rfl, rfl, E, rfl⟩
                · have E := Lib.hid (show false = (F.take (k + 1)).any (holdB V n) by rw [Z.out, PQ.out, holdB, ← FF.out]; simp [h1, h2])
                  go_wp2
                  go_roundg (F.length - (k + 1))
                  case measure => rw [G.out]; omega
                  case rel => exact ⟨k + 1, false, by omega, by go_num, rfl, rfl, E, rfl⟩
              · have E := Lib.hid (show false = (F.take (k + 1)).any (holdB V n) by rw [Z.out, PQ.out, holdB, ← FF.out]; simp [h1])
                go_wp2
                go_roundg (F.length - (k + 1))
                case measure => rw [G.out]; omega
                case rel => exact ⟨k + 1, false, by omega, by go_num, rfl, rfl, E, rfl⟩
            · have E := Lib.hid (show true = (F.take (k + 1)).any (holdB V n) by rw [Z.out, ← FF.out]; rfl)
              go_wp2
              go_roundg (F.length - (k + 1))
              case measure => rw [G.out]; omega
              case rel => exact ⟨k + 1, true, by omega, by go_num, rfl, rfl, E, rfl⟩
          · obtain rfl : k = F.length := by omega
            obtain rfl : f = true := by rw [FF.out, List.take_length]; exact AL.out
            go_wp2
            go_meet
            exact Below.refl _ _
      case false =>
        go_wp2
        go_meet
        exact Below.refl _ _
    case rest =>
    have B8 := Lib.hid (B7.out.trans (hcut.mono B7.out.size))
    clear hcut
    obtain ⟨w8, rfl⟩ : ∃ w8, w8 = wc := ⟨_, rfl⟩
    go_wp2_with fail
    refine (join_any _ _ A B _ (HA.out.below B8.out) (HB.out.below B8.out)).mono ?_; rintro e w9 ⟨⟨hJ, rfl⟩ | ⟨hJ, m, rfl, hm⟩, hb9⟩
    · have E := Lib.hid (show errV (joinE A B) = .iface 65 (.int .i64 (joinE A B)) by rw [errV, if_neg hJ])
      have B9 := Lib.hid (B8.out.trans (hb9.mono B8.out.size))
      clear hJ hb9
      rw [E.out]
      go_wp2
      go_ret
      exact ⟨rfl, B9.out⟩
    · have EJ := Lib.hid (joinE_ok hJ)
      have B9 := Lib.hid (B8.out.trans (hb9.mono B8.out.size))
      have M := Lib.hid hm
      clear hJ hb9 hm
      go_wp2_with fail
      refine (within_any _ _ t _ M.out).mono ?_; rintro e w10 ⟨rfl, hb10⟩
      obtain ⟨q, hq⟩ : ∃ q, q = covB B t := ⟨_, rfl⟩
      rw [norm_at EJ.out, covB_append, ← X.out, ← hq]
      have Q := Lib.hid hq
      have B10 := Lib.hid (B9.out.trans (hb10.mono B9.out.size))
      have M := Lib.hid (M.out.below hb10)
      clear hb10 hq
      go_wp2_with fail
      refine (within_any _ _ t _ (HB.out.below B10.out)).mono ?_; rintro e w11 ⟨rfl, hb11⟩
      rw [← Q.out]
      have B11 := Lib.hid (B10.out.trans (hb11.mono B10.out.size))
      have M := Lib.hid (M.out.below hb11)
      clear hb11
      go_wp2_with fail
      refine (total_yes _ _ _ M.out (norm_again EJ.out)).mono ?_; rintro e w12 ⟨rfl, hb12⟩
      obtain ⟨T, hT⟩ : ∃ T, T = totL (normL (normL (A ++ B))) := ⟨_, rfl⟩
      rw [← hT]
      have B12 := Lib.hid (B11.out.trans (hb12.mono B11.out.size))
      have TE := Lib.hid hT
      clear hb12 hT
      go_wp2_with fail
      refine (total_yes _ _ _ (HA.out.below B12.out) E1.out).mono ?_; rintro e w13 ⟨rfl, hb13⟩
      obtain ⟨U, hU⟩ : ∃ U, U = totL (normL A) := ⟨_, rfl⟩
      rw [← hU]
      have B13 := Lib.hid (B12.out.trans (hb13.mono B12.out.size))
      have hTU : U ≤ T := by rw [hU, TE.out]; exact join_tot E1.out EJ.out
      clear hb13 hU
      cases x
      · cases q
        · go_wp2
          go_ret
          exact ⟨rfl, B13.out⟩
        · go_wp2
          go_ret
          exact ⟨rfl, B13.out⟩
      · go_wp2
        go_ret
        exact ⟨rfl, B13.out⟩
  · have E := Lib.hid (show errV (freeE A a b) = .iface 65 (.int .i64 (freeE A a b)) by rw [errV, if_neg hE])
    have HE := Lib.hid hE
    clear hE
    go_wp2_with fail
    refine (free_no _ A a b _ (HA.out.below BW.out) HE.out).mono ?_; rintro e w2 ⟨rfl, hb2⟩
    rw [E.out]
    have B2 := Lib.hid (BW.out.trans (hb2.mono BW.out.size))
    clear hb2
    go_wp2
    go_ret
    exact ⟨rfl, B2.out⟩

theorem busyHolds_walk (va : Value) (A : List (Int × Int)) (vb : Value) (B : List (Int × Int)) (a b n t : Int) (w : World) (hA : PairsR w va A) (hB : PairsR w vb B)
    (_ : (Lit.int IntKind.i64 a).wf = true) (_ : (Lit.int IntKind.i64 b).wf = true) (_ : (Lit.int IntKind.i64 n).wf = true) (_ : (Lit.int IntKind.i64 t).wf = true) :
    Calls Try.prog 5 #[va, vb, .int .i64 a, .int .i64 b, .int .i64 n, .int .i64 t] w fun e w' => e = .returned (.bool true) ∧ Below w.heap.size w w' := busyHolds_any va vb A B a b n t w hA hB

end Go.Proofs.Ytdpngbjlljgoaaa
