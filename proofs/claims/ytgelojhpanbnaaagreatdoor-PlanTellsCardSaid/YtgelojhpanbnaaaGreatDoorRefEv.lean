/- The contract of the reference chimeref2.Event. Conditions: texts below 2^47 bytes, lists of at most 2^43. (printed by gen_revent.py) -/
import Derived.Test.YtgelojhpanbnaaaGreatDoorQ32
import Derived.Test.YtgelojhpanbnaaaGreatDoorEvC
import Derived.Test.YtgelojhpanbnaaaGreatDoorQ05
import Derived.Test.YtgelojhpanbnaaaGreatDoorRefR
namespace Go.Proofs.YtgelojhpanbnaaaGreatDoor
open Go.RowKit Go.Shelf
set_option linter.unusedSimpArgs false
set_option linter.unusedVariables false

def chBad (c : Int × Int) : Bool := badT c.1 || badC c

theorem evE_split (M N : List Int) (C : List (Int × Int)) : evE M N C = (M.any badT || N.any badT || C.any chBad) := by
  unfold evE
  rw [List.any_append, List.any_append, List.any_map]
  rw [Bool.or_assoc, Bool.or_assoc, Bool.or_assoc]
  congr 1; congr 1
  induction C with
  | nil => rfl
  | cons c r ih =>
    simp only [List.any_cons, chBad, Function.comp] at ih ⊢
    rw [← ih]
    cases badT c.1 <;> cases badC c <;> cases r.any (badT ∘ fun x => x.1) <;> cases r.any badC <;> rfl

set_option maxRecDepth 100000 in
set_option maxHeartbeats 16000000 in
theorem revent_any (nm tx : List UInt8) (st ln : Int) (rp : Bool) (fr ev ct ti : Int) (vm vd vw vp vM vN vC vA : Value) (mo da : List Int) (we : List (Int × Int)) (pk : List Int) (M N : List Int) (C : List (Int × Int)) (A : List Alm) (w : World)
    (h1 : IntsR w vm mo) (h2 : IntsR w vd da) (h3 : PairsR w vw we) (h4 : IntsR w vp pk) (hM : IntsR w vM M) (hN : IntsR w vN N) (hC : PairsR w vC C) (hA : AlmsR w vA A)
    (hnm : nm.length ≤ 140737488351232) (htx : tx.length ≤ 140737488351232) (hcl : C.length ≤ 8796093022208) (hsm : mo.length ≤ 70368744177664 ∧ da.length ≤ 70368744177664 ∧ we.length ≤ 70368744177664 ∧ pk.length ≤ 70368744177664) :
    Calls Tryz.prog 49 #[.agg #[.string (bs nm), .string (bs tx), .int .i64 st, .int .i64 ln, .bool rp, .int .i64 fr, .int .i64 ev, .int .i64 ct, .int .i64 ti, vm, vd, vw, vp, vM, vN, vC, vA]] w fun e w' => e = .returned (.int .i64 (evF nm tx st ln rp fr ev ct ti mo da we pk M N C A)) ∧ Below w.heap.size w w' := by
  obtain ⟨i0, hi0, hz0, hz1, hz2⟩ := info_parts intInfoP
  obtain ⟨am, km, rfl, -, -, -⟩ := intsR_open h1
  obtain ⟨ad, kd, rfl, -, -, -⟩ := intsR_open h2
  obtain ⟨aw, kw, rfl, -, -, -⟩ := pairsR_open h3
  obtain ⟨ap, kp, rfl, -, -, -⟩ := intsR_open h4
  obtain ⟨aM, kM, rfl, -, kM2, -⟩ := intsR_open hM
  obtain ⟨aN, kN, rfl, -, kN2, -⟩ := intsR_open hN
  obtain ⟨aC, kC, rfl, -, kC2, -⟩ := pairsR_open hC
  obtain ⟨aA, kA, rfl, -, kA2, -⟩ := almsR_open hA
  obtain ⟨snm, hsnm⟩ : ∃ s, s = bs nm := ⟨_, rfl⟩
  obtain ⟨stx, hstx⟩ : ∃ s, s = bs tx := ⟨_, rfl⟩
  obtain ⟨w0, hw0⟩ : ∃ x, x = w.alloc (.cells #[.string snm, .string stx, .int .i64 st, .int .i64 ln, .bool rp, .int .i64 fr, .int .i64 ev, .int .i64 ct, .int .i64 ti, .slice am mo.length km, .slice ad da.length kd, .slice aw we.length kw, .slice ap pk.length kp, .slice aM M.length kM, .slice aN N.length kN, .slice aC C.length kC, .slice aA A.length kA] 29) := ⟨_, rfl⟩
  have hb0 : Below w.heap.size w w0 := by rw [hw0]; exact (Below.refl _ _).alloc (Nat.le_refl _) _
  have ec := hw0 ▸ evC_new w 29 snm stx st ln rp fr ev ct ti (.slice am mo.length km) (.slice ad da.length kd) (.slice aw we.length kw) (.slice ap pk.length kp) (.slice aM M.length kM) (.slice aN N.length kN) (.slice aC C.length kC) (.slice aA A.length kA)
  have B1 := Lib.hid hb0
  have EC := Lib.hid ec
  have R1 := Lib.hid (h1.below hb0); have R2 := Lib.hid (h2.below hb0); have R3 := Lib.hid (h3.below hb0); have R4 := Lib.hid (h4.below hb0)
  have RM := Lib.hid (hM.below hb0); have RN := Lib.hid (hN.below hb0); have RC := Lib.hid (hC.below hb0); have RA := Lib.hid (hA.below hb0)
  have TZ := Lib.hid (show stx.size = tx.length by rw [hstx, bs_size])
  have GT := Lib.hid (show ∀ k (h : k < tx.length) (h2 : k < stx.size), stx[k] = tx[k] by subst hstx; exact fun k h h2 => bs_get tx k h h2)
  have NC := Lib.hid (show ∀ wx, Calls Tryz.prog 112 #[.string snm] wx (fun e w' => e = .returned (.bool (nameB nm)) ∧ wx = w') from fun wx => by rw [hsnm]; exact rname_any nm wx hnm)
  have SM := Lib.hid hsm
  rw [← hsnm, ← hstx]
  obtain ⟨b, hbq⟩ : ∃ b, b = w.heap.size := ⟨_, rfl⟩
  rw [← hbq] at EC
  have W0 := Lib.hid hw0; have BQ := Lib.hid hbq
  obtain ⟨F, hF⟩ : ∃ F, F = evF nm tx st ln rp fr ev ct ti mo da we pk M N C A := ⟨_, rfl⟩
  have FF := Lib.hid hF
  rw [← hF]
  clear h1 h2 h3 h4 hM hN hC hA hw0 hb0 ec hsnm hstx hbq hF hsm
  go_enter Tryz.func49, Tryz.ntmps49
  go_upto_region 1 with fail
  rw [← W0.out]
  rw [← BQ.out]
  have F0 := Lib.hid (show F = if evA nm tx = true then 2 else (if evB st ln = true then 1 else (if evG rp fr ev ct ti mo.length da.length we.length pk.length = true then 3 else (if rp = true ∧ ruleF fr ev ct ti mo da we pk ≠ 0 then ruleF fr ev ct ti mo da we pk else (if evD M.length N.length C.length A.length = true then 4 else (if evE M N C = true then 1 else (if evR M N C = true then 7 else (if A.any almBad = true then 1 else 0))))))) by rw [FF.out]; rfl)
  clear FF
  have k0 := EC.out.k0; have k1 := EC.out.k1
  obtain ⟨nb, hnb⟩ : ∃ x, x = nameB nm := ⟨_, rfl⟩
  rw [← hnb] at NC
  have NB := Lib.hid hnb
  clear hnb
  go_wp2_with fail
  refine (NC.out _).mono ?_; rintro e w2 ⟨rfl, rfl⟩
  clear k0 NC
  cases nb
  · obtain rfl : F = 2 := by rw [F0.out, if_pos (by rw [evA, ← NB.out]; rfl)]
    go_wp2
    go_ret
    exact ⟨rfl, B1.out⟩
  by_cases h60 : 60 < tx.length
  · obtain rfl : F = 2 := by rw [F0.out, if_pos (by rw [evA, decide_eq_true h60]; simp)]
    have t1 : decide ((60 : Int) < (stx.size : Int)) = true := decide_eq_true (by have := TZ.out; omega)
    have t1b : decide (60 < stx.size) = true := decide_eq_true (by have := TZ.out; omega)
    clear h60
    go_wp2
    go_ret
    exact ⟨rfl, B1.out⟩
  have t1 : decide ((60 : Int) < (stx.size : Int)) = false := decide_eq_false (by have := TZ.out; omega)
  have t1b : decide (60 < stx.size) = false := decide_eq_false (by have := TZ.out; omega)
  have TE := Lib.hid (show evA nm tx = tx.any (fun c : UInt8 => textOut (c.toNat : Int)) by rw [evA, ← NB.out, decide_eq_false h60]; simp)
  have l60 : stx.size ≤ 60 := by have := TZ.out; omega
  clear h60 NB
  go_upto_block 0 with fail
  clear t1 t1b
  go_cut [4] (fun s4 wx => Hid (tx.any (fun c : UInt8 => textOut (c.toNat : Int)) = false) ∧ w0 = wx)
  case first => as_aux_lemma =>
    go_wp2_with fail
    go_loopg [4] tx.length (fun g iv wr => ∃ (k : Nat), k ≤ tx.length ∧ iv = .int .i64 k ∧ g = tx.length - k ∧ Hid ((tx.take k).any (fun c : UInt8 => textOut (c.toNat : Int)) = false) ∧ wr = w0)
    case atStart => exact ⟨0, Nat.zero_le _, rfl, rfl, Lib.hid (by simp), rfl⟩
    case round =>
      obtain ⟨k, hk, rfl, hg, NO, rfl⟩ := hrel
      have G := Lib.hid hg; clear hg
      by_cases hlt : k < stx.size
      · have hlt2 : k < tx.length := by rw [← TZ.out]; exact hlt
        obtain ⟨n, hn⟩ : ∃ n : Int, n = ((stx[k]).toNat : Int) := ⟨_, rfl⟩
        have N2 := Lib.hid (show textOut (tx[k].toNat : Int) = textOut n by rw [hn, GT.out k hlt2 hlt])
        have hcn : ((stx[k]).toNat : Int) = n := hn.symm
        clear hn
        have i1 : (0 : Int) ≤ (k : Int) := Int.natCast_nonneg _
        have i2 : (k : Int) < (stx.size : Int) := by omega
        by_cases g1 : n < 32
        · have d1 : decide (n < 32) = true := decide_eq_true g1
          obtain rfl : F = 2 := by rw [F0.out, if_pos (by rw [TE.out, any_yes (p := fun c : UInt8 => textOut (c.toNat : Int)) hlt2 (by show textOut _ = true; rw [N2.out, textOut]; simp [g1])])]
          clear g1
          go_wp2
          go_ret
          exact ⟨rfl, B1.out⟩
        have d1 : decide (n < 32) = false := decide_eq_false g1
        by_cases g2 : 126 < n
        · have d2 : decide (126 < n) = true := decide_eq_true g2
          obtain rfl : F = 2 := by rw [F0.out, if_pos (by rw [TE.out, any_yes (p := fun c : UInt8 => textOut (c.toNat : Int)) hlt2 (by show textOut _ = true; rw [N2.out, textOut]; simp [g2])])]
          clear g1 g2
          go_wp2
          go_ret
          exact ⟨rfl, B1.out⟩
        have d2 : decide (126 < n) = false := decide_eq_false g2
        have FX := Lib.hid (any_no (p := fun c : UInt8 => textOut (c.toNat : Int)) hlt2 NO.out (by show textOut _ = false; rw [N2.out, textOut, d1, d2]; rfl))
        clear g1 g2
        go_wp2
        go_roundg (tx.length - (k + 1))
        case measure => rw [G.out]; omega
        case rel => exact ⟨k + 1, by omega, by go_num, rfl, FX, rfl⟩
      · obtain rfl : k = tx.length := by have := TZ.out; omega
        have FX := Lib.hid (show tx.any (fun c : UInt8 => textOut (c.toNat : Int)) = false by have := NO.out; rwa [List.take_length] at this)
        go_wp2
        go_meet
        exact ⟨FX, rfl⟩
  case rest =>
  obtain ⟨hta, rfl⟩ := hcut
  have F1 := Lib.hid (show F = (if evB st ln = true then 1 else (if evG rp fr ev ct ti mo.length da.length we.length pk.length = true then 3 else (if rp = true ∧ ruleF fr ev ct ti mo da we pk ≠ 0 then ruleF fr ev ct ti mo da we pk else (if evD M.length N.length C.length A.length = true then 4 else (if evE M N C = true then 1 else (if evR M N C = true then 7 else (if A.any almBad = true then 1 else 0))))))) by rw [F0.out, if_neg (by rw [TE.out, hta.out]; exact Bool.false_ne_true)])
  clear hta F0 TE k1 GT
  have k2 := EC.out.k2; have k3 := EC.out.k3
  obtain ⟨t, ht⟩ : ∃ t, t = timeB st := ⟨_, rfl⟩
  have T1 := Lib.hid ht
  have RT1 := Lib.hid (show ∀ wx, Calls Tryz.prog 44 #[.int .i64 st] wx (fun e w' => e = .returned (.bool t) ∧ wx = w') from fun wx => by rw [ht]; exact rtime_any st wx)
  clear ht
  go_wp2_with fail
  refine (RT1.out _).mono ?_; rintro e w2 ⟨rfl, rfl⟩
  clear RT1 k2
  cases t
  · obtain rfl : F = 1 := by rw [F1.out, if_pos (by rw [evB, badT, ← T1.out]; rfl)]
    go_wp2
    go_ret
    exact ⟨rfl, B1.out⟩
  by_cases g1 : ln < 0
  · have d1 : decide (ln < 0) = true := decide_eq_true g1
    obtain rfl : F = 1 := by rw [F1.out, if_pos (by rw [evB, d1]; simp)]
    clear g1
    go_wp2
    go_ret
    exact ⟨rfl, B1.out⟩
  have d1 : decide (ln < 0) = false := decide_eq_false g1
  by_cases g2 : 100000 < ln
  · have d2 : decide (100000 < ln) = true := decide_eq_true g2
    obtain rfl : F = 1 := by rw [F1.out, if_pos (by rw [evB, d2]; simp)]
    clear g1 g2
    go_wp2
    go_ret
    exact ⟨rfl, B1.out⟩
  have d2 : decide (100000 < ln) = false := decide_eq_false g2
  have F2 := Lib.hid (show F = (if evG rp fr ev ct ti mo.length da.length we.length pk.length = true then 3 else (if rp = true ∧ ruleF fr ev ct ti mo da we pk ≠ 0 then ruleF fr ev ct ti mo da we pk else (if evD M.length N.length C.length A.length = true then 4 else (if evE M N C = true then 1 else (if evR M N C = true then 7 else (if A.any almBad = true then 1 else 0)))))) by rw [F1.out, if_neg (by rw [evB, badT, ← T1.out, d1, d2]; exact Bool.false_ne_true)])
  clear g1 g2 F1 T1
  have k5 := EC.out.k5; have k6 := EC.out.k6; have k7 := EC.out.k7; have k8 := EC.out.k8; have k9 := EC.out.k9; have k10 := EC.out.k10; have k11 := EC.out.k11; have k12 := EC.out.k12
  obtain ⟨w1, hw1⟩ : ∃ x, x = w0.alloc (.cells #[.int .i64 fr, .int .i64 ev, .int .i64 ct, .int .i64 ti, .slice am mo.length km, .slice ad da.length kd, .slice aw we.length kw, .slice ap pk.length kp] 25) := ⟨_, rfl⟩
  obtain ⟨rb, hrb⟩ : ∃ x, x = w0.heap.size := ⟨_, rfl⟩
  have hb1 : Below w0.heap.size w0 w1 := by rw [hw1]; exact (Below.refl _ _).alloc (Nat.le_refl _) _
  have RL := Lib.hid (show w1.cell? ⟨rb, 0, none⟩ = some (.int .i64 fr) ∧ w1.cell? ⟨rb, 1, none⟩ = some (.int .i64 ev) ∧ w1.cell? ⟨rb, 2, none⟩ = some (.int .i64 ct) ∧ w1.cell? ⟨rb, 3, none⟩ = some (.int .i64 ti) ∧ w1.cell? ⟨rb, 4, none⟩ = some (.slice am mo.length km) ∧ w1.cell? ⟨rb, 5, none⟩ = some (.slice ad da.length kd) ∧ w1.cell? ⟨rb, 6, none⟩ = some (.slice aw we.length kw) ∧ w1.cell? ⟨rb, 7, none⟩ = some (.slice ap pk.length kp) by
    rw [hw1, hrb]; exact ⟨by simp, by simp, by simp, by simp, by simp, by simp, by simp, by simp⟩)
  have B01 := Lib.hid hb1
  have BX := Lib.hid hb1
  have W1 := Lib.hid hw1; have RB := Lib.hid hrb
  clear hw1 hrb hb1
  go_upto_region 13 with fail
  rw [← W1.out]
  rw [← RB.out]
  clear d1 d2 k3 k5 k6 k7 k8 k9 k10 k11 k12
  have k4 := (EC.out.below BX.out).k4
  obtain ⟨r0, r1, r2, r3, r4, r5, r6, r7⟩ := RL.out
  obtain ⟨bg, hbg⟩ : ∃ x, x = evG rp fr ev ct ti mo.length da.length we.length pk.length := ⟨_, rfl⟩
  have BG := Lib.hid hbg
  clear hbg
  go_cut [105] (fun s105 wx => s105 = .bool bg ∧ w1 = wx)
  case first => as_aux_lemma =>
    cases rp
    rotate_left
    · obtain rfl : bg = false := by rw [BG.out, evG]; rfl
      go_wp2
      go_meet
      exact ⟨rfl, rfl⟩
    have BG2 := Lib.hid (show bg = !emptyB fr ev ct ti mo.length da.length we.length pk.length by rw [BG.out, evG]; rfl)
    by_cases e1 : (fr == 0) = true
    rotate_left
    · have t : (fr == 0) = false := by simpa using e1
      have t2 : (fr != 0) = true := by simp [bne, t]
      obtain rfl : bg = true := by rw [BG2.out]; simp [emptyB, t]
      clear e1
      go_wp2
      go_meet
      exact ⟨rfl, rfl⟩
    have f1 : (fr != 0) = false := by simp [bne, e1]
    by_cases e2 : (ev == 0) = true
    rotate_left
    · have t : (ev == 0) = false := by simpa using e2
      have t2 : (ev != 0) = true := by simp [bne, t]
      obtain rfl : bg = true := by rw [BG2.out]; simp [emptyB, t]
      clear e2
      go_wp2
      go_meet
      exact ⟨rfl, rfl⟩
    have f2 : (ev != 0) = false := by simp [bne, e2]
    by_cases e3 : (ct == 0) = true
    rotate_left
    · have t : (ct == 0) = false := by simpa using e3
      have t2 : (ct != 0) = true := by simp [bne, t]
      obtain rfl : bg = true := by rw [BG2.out]; simp [emptyB, t]
      clear e3
      go_wp2
      go_meet
      exact ⟨rfl, rfl⟩
    have f3 : (ct != 0) = false := by simp [bne, e3]
    by_cases e4 : (ti == 0) = true
    rotate_left
    · have t : (ti == 0) = false := by simpa using e4
      have t2 : (ti != 0) = true := by simp [bne, t]
      obtain rfl : bg = true := by rw [BG2.out]; simp [emptyB, t]
      clear e4
      go_wp2
      go_meet
      exact ⟨rfl, rfl⟩
    have f4 : (ti != 0) = false := by simp [bne, e4]
    obtain ⟨q1, q2, q3, q4⟩ := SM.out
    obtain ⟨n1, hn1⟩ : ∃ n, n = mo.length := ⟨_, rfl⟩
    obtain ⟨n2, hn2⟩ : ∃ n, n = da.length := ⟨_, rfl⟩
    obtain ⟨n3, hn3⟩ : ∃ n, n = we.length := ⟨_, rfl⟩
    obtain ⟨n4, hn4⟩ : ∃ n, n = pk.length := ⟨_, rfl⟩
    rw [← hn1] at q1 r4 BG2; rw [← hn2] at q2 r5 BG2; rw [← hn3] at q3 r6 BG2; rw [← hn4] at q4 r7 BG2
    have s1 : IntKind.i64.wrap ((n1 : Int) + (n2 : Int)) = (n1 : Int) + (n2 : Int) := IntWalk.i64_in _ (by omega)
    have s2 : IntKind.i64.wrap ((n1 : Int) + (n2 : Int) + (n3 : Int)) = (n1 : Int) + (n2 : Int) + (n3 : Int) := IntWalk.i64_in _ (by omega)
    have s3 : IntKind.i64.wrap ((n1 : Int) + (n2 : Int) + (n3 : Int) + (n4 : Int)) = (n1 : Int) + (n2 : Int) + (n3 : Int) + (n4 : Int) := IntWalk.i64_in _ (by omega)
    have SW := Lib.hid (show sumW n1 n2 n3 n4 = (n1 : Int) + (n2 : Int) + (n3 : Int) + (n4 : Int) by
      unfold sumW
      rw [IntWalk.wrap64_in ((n1 : Int) + (n2 : Int)) (by omega), IntWalk.wrap64_in ((n1 : Int) + (n2 : Int) + (n3 : Int)) (by omega), IntWalk.wrap64_in ((n1 : Int) + (n2 : Int) + (n3 : Int) + (n4 : Int)) (by omega)])
    by_cases g : 0 < (n1 : Int) + (n2 : Int) + (n3 : Int) + (n4 : Int)
    · have d : decide (0 < (n1 : Int) + (n2 : Int) + (n3 : Int) + (n4 : Int)) = true := decide_eq_true g
      obtain rfl : bg = true := by
        rw [BG2.out, emptyB, SW.out, show ((n1 : Int) + (n2 : Int) + (n3 : Int) + (n4 : Int) == 0) = false from by rw [beq_eq_false_iff_ne]; omega]; simp
      clear g q1 q2 q3 q4 hn1 hn2 hn3 hn4
      go_wp2
      go_meet
      exact ⟨by first | rfl | simp [d], rfl⟩
    · have d : decide (0 < (n1 : Int) + (n2 : Int) + (n3 : Int) + (n4 : Int)) = false := decide_eq_false g
      obtain rfl : bg = false := by
        rw [BG2.out, emptyB, SW.out, show ((n1 : Int) + (n2 : Int) + (n3 : Int) + (n4 : Int) == 0) = true from by rw [beq_iff_eq]; omega, e1, e2, e3, e4]; rfl
      clear g q1 q2 q3 q4 hn1 hn2 hn3 hn4
      go_wp2
      go_meet
      exact ⟨by first | rfl | simp [d], rfl⟩
  case rest =>
  obtain ⟨rfl, rfl⟩ := hcut
  by_cases hx : bg = true
  · obtain rfl := hx
    obtain rfl : F = 3 := by rw [F2.out, if_pos BG.out.symm]
    go_wp2
    go_ret
    exact ⟨rfl, B1.out.trans (BX.out.mono B1.out.size)⟩
  obtain rfl : bg = false := by simpa using hx
  have F3 := Lib.hid (show F = (if rp = true ∧ ruleF fr ev ct ti mo da we pk ≠ 0 then ruleF fr ev ct ti mo da we pk else (if evD M.length N.length C.length A.length = true then 4 else (if evE M N C = true then 1 else (if evR M N C = true then 7 else (if A.any almBad = true then 1 else 0))))) by rw [F2.out, if_neg (by rw [← BG.out]; exact Bool.false_ne_true)])
  clear hx F2
  clear BG r0 r1 r2 r3 r4 r5 r6 r7
  obtain ⟨r0, r1, r2, r3, r4, r5, r6, r7⟩ := RL.out
  go_upto_if 107 with fail
  go_cut [7] (fun s7 wx => Hid (F = (if evD M.length N.length C.length A.length = true then 4 else (if evE M N C = true then 1 else (if evR M N C = true then 7 else (if A.any almBad = true then 1 else 0))))) ∧ Below w1.heap.size w1 wx)
  case first => as_aux_lemma =>
    cases rp
    · have G := Lib.hid (show F = (if evD M.length N.length C.length A.length = true then 4 else (if evE M N C = true then 1 else (if evR M N C = true then 7 else (if A.any almBad = true then 1 else 0)))) by rw [F3.out, if_neg (by simp)])
      go_wp2
      go_meet
      exact ⟨G, Below.refl _ _⟩
    · obtain ⟨rf, hrf⟩ : ∃ x, x = ruleF fr ev ct ti mo da we pk := ⟨_, rfl⟩
      have RF := Lib.hid hrf
      have F3b := Lib.hid (show F = if rf ≠ 0 then rf else (if evD M.length N.length C.length A.length = true then 4 else (if evE M N C = true then 1 else (if evR M N C = true then 7 else (if A.any almBad = true then 1 else 0)))) by rw [F3.out, ← hrf]; simp)
      clear hrf F3
      go_wp2_with fail
      refine (rrule_any fr ev ct ti _ _ _ _ mo da we pk _ (R1.out.below BX.out) (R2.out.below BX.out) (R3.out.below BX.out) (R4.out.below BX.out)).mono ?_; rintro e w5 ⟨rfl, hb5⟩
      rw [← RF.out]
      have B5 := Lib.hid hb5
      clear hb5 r0 r1 r2 r3 r4 r5 r6 r7
      by_cases h0 : rf = 0
      · have G := Lib.hid (show F = (if evD M.length N.length C.length A.length = true then 4 else (if evE M N C = true then 1 else (if evR M N C = true then 7 else (if A.any almBad = true then 1 else 0)))) by rw [F3b.out, if_neg (by simp [h0])])
        subst h0
        go_wp2
        go_meet
        exact ⟨G, B5.out⟩
      · have FE := Lib.hid (show F = rf by rw [F3b.out, if_pos h0])
        have t1 : (rf == 0) = false := by simpa using h0
        have t2 : (rf != 0) = true := by simp [bne, t1]
        clear h0
        go_wp2
        go_ret
        exact ⟨by rw [FE.out]; rfl, B1.out.trans ((BX.out.trans (B5.out.mono BX.out.size)).mono B1.out.size)⟩
  case rest =>
  obtain ⟨F4, hb⟩ := hcut
  have BX := Lib.hid (BX.out.trans (hb.mono BX.out.size))
  clear hb F3 k4 r0 r1 r2 r3 r4 r5 r6 r7 RL
  obtain ⟨w5, rfl⟩ : ∃ x, x = wc := ⟨_, rfl⟩
  have k13 := (EC.out.below BX.out).k13
  have k14 := (EC.out.below BX.out).k14
  have k15 := (EC.out.below BX.out).k15
  have k16 := (EC.out.below BX.out).k16
  obtain ⟨bd, hbd⟩ : ∃ x, x = evD M.length N.length C.length A.length := ⟨_, rfl⟩
  have BD := Lib.hid hbd
  clear hbd
  go_upto_region 19 with fail
  go_cut [134] (fun s134 wx => s134 = .bool bd ∧ w5 = wx)
  case first => as_aux_lemma =>
    go_wp2
    all_goals
      go_meet
      refine ⟨congrArg Value.bool ?_, rfl⟩
      rw [BD.out, evD, Bool.eq_iff_iff]
      simp only [Bool.or_eq_true, decide_eq_true_eq, Bool.false_eq_true, false_or, or_false, true_iff, iff_true, false_iff, iff_false]
      omega
  case rest =>
  obtain ⟨rfl, rfl⟩ := hcut
  by_cases hx : bd = true
  · obtain rfl := hx
    obtain rfl : F = 4 := by rw [F4.out, if_pos BD.out.symm]
    go_wp2
    go_ret
    exact ⟨rfl, B1.out.trans (BX.out.mono B1.out.size)⟩
  obtain rfl : bd = false := by simpa using hx
  have F5 := Lib.hid (show F = (if evE M N C = true then 1 else (if evR M N C = true then 7 else (if A.any almBad = true then 1 else 0))) by rw [F4.out, if_neg (by rw [← BD.out]; exact Bool.false_ne_true)])
  clear hx F4
  have LN := Lib.hid (show M.length ≤ 100 ∧ N.length ≤ 100 ∧ C.length ≤ 100 ∧ A.length ≤ 4 by
    have h := BD.out
    simp [evD] at h
    omega)
  clear BD k13 k14 k15 k16
  have k13 := (EC.out.below BX.out).k13
  have k14 := (EC.out.below BX.out).k14
  have F5b := Lib.hid (show F = if (M.any badT || N.any badT || C.any chBad) = true then 1 else (if evR M N C = true then 7 else (if A.any almBad = true then 1 else 0)) by rw [F5.out, evE_split])
  obtain ⟨bm, hbm⟩ : ∃ x, x = M.any badT := ⟨_, rfl⟩
  obtain ⟨bn, hbn⟩ : ∃ x, x = N.any badT := ⟨_, rfl⟩
  have TM := Lib.hid (show Calls Tryz.prog 114 #[.slice aM M.length kM] w5 (fun e w' => e = .returned (.bool (!bm)) ∧ w5 = w') by rw [hbm]; exact rtimesB_any _ M w5 (RM.out.below BX.out))
  have TN := Lib.hid (show Calls Tryz.prog 114 #[.slice aN N.length kN] w5 (fun e w' => e = .returned (.bool (!bn)) ∧ w5 = w') by rw [hbn]; exact rtimesB_any _ N w5 (RN.out.below BX.out))
  rw [← hbm, ← hbn] at F5b
  clear hbm hbn F5
  go_wp2_with fail
  refine TM.out.mono ?_; rintro e w6 ⟨rfl, rfl⟩
  go_wp2_with fail
  refine TN.out.mono ?_; rintro e w6 ⟨rfl, rfl⟩
  clear TM TN k13 k14
  cases bm
  rotate_left
  · obtain rfl : F = 1 := by rw [F5b.out, if_pos (by simp)]
    go_wp2
    go_ret
    exact ⟨rfl, B1.out.trans (BX.out.mono B1.out.size)⟩
  cases bn
  rotate_left
  · obtain rfl : F = 1 := by rw [F5b.out, if_pos (by simp)]
    go_wp2
    go_ret
    exact ⟨rfl, B1.out.trans (BX.out.mono B1.out.size)⟩
  have F5c := Lib.hid (show F = if C.any chBad = true then 1 else (if evR M N C = true then 7 else (if A.any almBad = true then 1 else 0)) by rw [F5b.out]; rfl)
  clear F5b
  have RC5 := Lib.hid (RC.out.below BX.out)
  have EC5 := Lib.hid (EC.out.below BX.out)
  unfold maxLen at kC2
  go_upto_block 2 with fail
  go_cut [10] (fun s10 wx => wx.ownsRow w5.heap.size 3 1 s10 C.length ((C.map (·.1)).map (Value.int .i64)) ∧ Hid (C.any chBad = false) ∧ Below w5.heap.size w5 wx)
  case first => as_aux_lemma =>
    obtain ⟨a6, c6, e6, _, _, hds⟩ := pairsR_open RC5.out
    cases e6
    have HC := Lib.hid hds
    clear hds
    go_wp2_with fail
    go_loopg [10, 11] C.length (fun g ov iv wr => ∃ k : Nat, k ≤ C.length ∧ iv = .int .i64 k ∧ g = C.length - k ∧ Hid ((C.take k).any chBad = false) ∧ wr.ownsRow w5.heap.size 3 1 ov k (((C.take k).map (·.1)).map (Value.int .i64)) ∧ Below w5.heap.size w5 wr)
    case atStart => exact ⟨0, Nat.zero_le _, rfl, rfl, Lib.hid (by simp), World.ownsRow_nil _ _ _ _, Below.refl _ _⟩
    case round =>
      obtain ⟨k, hk, rfl, hg, NO, hown, hb⟩ := hrel
      obtain ⟨Q, hQ⟩ : ∃ q, q = (C.take k).map (·.1) := ⟨_, rfl⟩
      rw [← hQ] at hown
      have QE := Lib.hid hQ
      clear hQ
      have G := Lib.hid hg
      have BW := Lib.hid hb
      have OW := Lib.hid hown
      obtain ⟨wo, rfl⟩ : ∃ x, x = wr := ⟨_, rfl⟩
      obtain ⟨oa, oc, rfl, -, -, -⟩ := owns_cells hown
      clear hg hown
      have k15 := (EC5.out.below BW.out).k15
      have i1 : (0 : Int) ≤ (k : Int) := Int.natCast_nonneg _
      by_cases hlt : k < C.length
      · obtain ⟨cb, co, rfl, hcs⟩ := HC.out (by omega)
        have c0 := cell_below hb (hcs k hlt).1
        have c1 := cell_below hb (hcs k hlt).2
        obtain ⟨x, hx⟩ : ∃ x, x = C[k].1 := ⟨_, rfl⟩
        obtain ⟨y, hy⟩ : ∃ y, y = C[k].2 := ⟨_, rfl⟩
        rw [← hx] at c0; rw [← hy] at c1
        have X := Lib.hid (show (C.take (k + 1)).map (·.1) = Q ++ [x] by rw [List.take_succ_eq_append_getElem hlt, List.map_append, hx, QE.out]; rfl)
        have hbs := hb.size
        obtain ⟨tx1, htx1⟩ : ∃ t, t = timeB x := ⟨_, rfl⟩
        obtain ⟨ty1, hty1⟩ : ∃ t, t = timeB y := ⟨_, rfl⟩
        have CB := Lib.hid (show chBad C[k] = (!tx1 || (y != 0 && !ty1)) by rw [htx1, hty1, hx, hy]; rfl)
        have RX := Lib.hid (show ∀ wx, Calls Tryz.prog 44 #[.int .i64 x] wx (fun e w' => e = .returned (.bool tx1) ∧ wx = w') from fun wx => by rw [htx1]; exact rtime_any x wx)
        have RY := Lib.hid (show ∀ wx, Calls Tryz.prog 44 #[.int .i64 y] wx (fun e w' => e = .returned (.bool ty1) ∧ wx = w') from fun wx => by rw [hty1]; exact rtime_any y wx)
        have AY := Lib.hid (show chBad C[k] = true → C.any chBad = true from fun h => any_yes (p := chBad) hlt h)
        have AN := Lib.hid (show chBad C[k] = false → (C.take (k + 1)).any chBad = false from fun h => any_no (p := chBad) hlt NO.out h)
        rw [CB.out] at AY AN
        clear hx hy hcs hb htx1 hty1 CB
        have i2 : (k : Int) < (C.length : Int) := by omega
        go_upto_region 30 with fail
        obtain ⟨wv, hwv⟩ : ∃ v, v = wo.alloc (.cells #[.int .i64 x, .int .i64 y] 134) := ⟨_, rfl⟩
        obtain ⟨vb, hvb⟩ : ∃ v, v = wo.heap.size := ⟨_, rfl⟩
        rw [← hwv]
        rw [← hvb]
        have d0 : wv.cell? ⟨vb, 0, none⟩ = some (.int .i64 x) := by rw [hwv, hvb]; simp
        have d1 : wv.cell? ⟨vb, 1, none⟩ = some (.int .i64 y) := by rw [hwv, hvb]; simp
        have hbv : Below wo.heap.size wo wv := by rw [hwv]; exact (Below.refl _ _).alloc (Nat.le_refl _) _
        have hown := OW.out.alloc (.cells #[.int .i64 x, .int .i64 y] 134)
        rw [← hwv] at hown
        have OV := Lib.hid hown
        have BV := Lib.hid (BW.out.trans (hbv.mono hbs))
        have hvs := BV.out.size
        clear hwv hvb c0 c1 hbv hown k15
        go_wp2_with fail
        refine (RX.out _).mono ?_; rintro e w6 ⟨rfl, rfl⟩
        go_wp2_with fail
        refine (RY.out _).mono ?_; rintro e w6 ⟨rfl, rfl⟩
        clear RX RY
        cases tx1
        · obtain rfl : F = 1 := by rw [F5c.out, if_pos (AY.out rfl)]
          go_wp2
          go_ret
          exact ⟨rfl, B1.out.trans ((BX.out.trans (BV.out.mono BX.out.size)).mono B1.out.size)⟩
        by_cases gy : (y == 0) = true
        · have gy2 : (y != 0) = false := by simp [bne, gy]
          have NX := Lib.hid (AN.out (by rw [gy2]; rfl))
          clear AY AN
          cases ty1
          all_goals
            go_wp2_with (at_builtin; refine wpList_append_lies _ rfl _ _ 22 rfl w5.heap.size 3 i0 _ 1 8 Tryz.underlying22 hi0 hz0 hz1 hz2 rfl (by decide) _ _ _ rfl (OV.out.alloc _) ⟨wv.heap.size, 0, none⟩ 1 1 [.int .i64 x] rfl rfl (cell_one_new _ _ _) (by simp [Value.oneCell']) (by decide) (by unfold maxLen; omega) (by omega) (by simp; omega) _ rfl ?_)
            intro g3 cap3 wn hown3 hgrow3 hat3 hlt3
            have B3 := Lib.hid ((BV.out.alloc hvs (.cells #[.int .i64 x] 3)).grown hgrow3 (by simp; omega) (ownBlock_ge OV.out))
            have O3 := Lib.hid hown3
            clear hown3 hgrow3 hat3 hlt3 d0 d1
            go_wp2
            go_roundg (C.length - (k + 1))
            case measure => rw [G.out]; omega
            case rel => exact ⟨k + 1, by omega, by go_num, rfl, NX, by rw [X.out, List.map_append]; exact O3.out, B3.out⟩
        have gy1 : (y == 0) = false := by simpa using gy
        have gy2 : (y != 0) = true := by simp [bne, gy1]
        cases ty1
        · obtain rfl : F = 1 := by rw [F5c.out, if_pos (AY.out (by rw [gy2]; rfl))]
          clear gy
          go_wp2
          go_ret
          exact ⟨rfl, B1.out.trans ((BX.out.trans (BV.out.mono BX.out.size)).mono B1.out.size)⟩
        have NX := Lib.hid (AN.out (by rw [gy2]; rfl))
        clear gy AY AN
        go_wp2_with (at_builtin; refine wpList_append_lies _ rfl _ _ 22 rfl w5.heap.size 3 i0 _ 1 8 Tryz.underlying22 hi0 hz0 hz1 hz2 rfl (by decide) _ _ _ rfl (OV.out.alloc _) ⟨wv.heap.size, 0, none⟩ 1 1 [.int .i64 x] rfl rfl (cell_one_new _ _ _) (by simp [Value.oneCell']) (by decide) (by unfold maxLen; omega) (by omega) (by simp; omega) _ rfl ?_)
        intro g3 cap3 wn hown3 hgrow3 hat3 hlt3
        have B3 := Lib.hid ((BV.out.alloc hvs (.cells #[.int .i64 x] 3)).grown hgrow3 (by simp; omega) (ownBlock_ge OV.out))
        have O3 := Lib.hid hown3
        clear hown3 hgrow3 hat3 hlt3 d0 d1
        go_wp2
        go_roundg (C.length - (k + 1))
        case measure => rw [G.out]; omega
        case rel => exact ⟨k + 1, by omega, by go_num, rfl, NX, by rw [X.out, List.map_append]; exact O3.out, B3.out⟩
      · obtain rfl : k = C.length := by omega
        have i2 : ¬ (C.length : Int) < (C.length : Int) := by omega
        have O := Lib.hid (show wo.ownsRow w5.heap.size 3 1 _ C.length ((C.map (·.1)).map (Value.int .i64)) by have := OW.out; rw [QE.out, List.take_length] at this; exact this)
        have NX := Lib.hid (show C.any chBad = false by have := NO.out; rwa [List.take_length] at this)
        go_wp2
        go_meet
        exact ⟨O.out, NX, BW.out⟩
  case rest =>
  obtain ⟨hown, NX, hb⟩ := hcut
  have F6 := Lib.hid (show F = (if evR M N C = true then 7 else (if A.any almBad = true then 1 else 0)) by rw [F5c.out, if_neg (by rw [NX.out]; exact Bool.false_ne_true)])
  have RT := Lib.hid (show IntsR wc _ (C.map (·.1)) from intsR_of_owns (by rw [List.length_map]; exact hown))
  have BX := Lib.hid (BX.out.trans (hb.mono BX.out.size))
  obtain ⟨w6, rfl⟩ : ∃ x, x = wc := ⟨_, rfl⟩
  clear hown hb NX F5c RC5 EC5
  obtain ⟨T, hT⟩ : ∃ T, T = C.map (·.1) := ⟨_, rfl⟩
  rw [← hT] at RT
  have TE := Lib.hid hT
  clear hT
  obtain ⟨aT, kT, rfl, -, -, -⟩ := intsR_open RT.out
  have k13 := (EC.out.below BX.out).k13
  have k14 := (EC.out.below BX.out).k14
  obtain ⟨br, hbr⟩ : ∃ x, x = evR M N C := ⟨_, rfl⟩
  have BR := Lib.hid (show br = (!risesB M || !risesB N || !risesB T) by rw [hbr, evR, TE.out])
  have BR2 := Lib.hid hbr
  clear hbr
  go_upto_region 35 with fail
  go_cut [8] (fun s8 wx => s8 = .bool (risesB M) ∧ Below w6.heap.size w6 wx)
  case first => as_aux_lemma =>
    go_wp2_with fail
    refine (rrises_any _ M _ (RM.out.below BX.out)).mono ?_; rintro e w9 ⟨rfl, hb9⟩
    obtain ⟨q1, hq1⟩ : ∃ x, x = risesB M := ⟨_, rfl⟩
    rw [← hq1]
    have B9 := Lib.hid hb9
    have Q1 := Lib.hid hq1
    clear hq1 hb9 k13 k14
    go_wp2
    go_meet
    exact ⟨by rw [Q1.out], B9.out⟩
  case rest =>
  obtain ⟨rfl, hb⟩ := hcut
  have BX := Lib.hid (BX.out.trans (hb.mono BX.out.size))
  have RT := Lib.hid (RT.out.below hb)
  obtain ⟨w7, rfl⟩ : ∃ x, x = wc := ⟨_, rfl⟩
  obtain ⟨q1, hq1⟩ : ∃ x, x = risesB M := ⟨_, rfl⟩
  rw [← hq1] at BR ⊢
  clear hb hq1 k13 k14
  have k14 := (EC.out.below BX.out).k14
  go_upto_region 36 with fail
  go_cut [9] (fun s9 wx => s9 = .bool (risesB N) ∧ Below w7.heap.size w7 wx)
  case first => as_aux_lemma =>
    go_wp2_with fail
    refine (rrises_any _ N _ (RN.out.below BX.out)).mono ?_; rintro e w9 ⟨rfl, hb9⟩
    obtain ⟨q2, hq2⟩ : ∃ x, x = risesB N := ⟨_, rfl⟩
    rw [← hq2]
    have B9 := Lib.hid hb9
    have Q2 := Lib.hid hq2
    clear hq2 hb9 k14
    go_wp2
    go_meet
    exact ⟨by rw [Q2.out], B9.out⟩
  case rest =>
  obtain ⟨rfl, hb⟩ := hcut
  have BX := Lib.hid (BX.out.trans (hb.mono BX.out.size))
  have RT := Lib.hid (RT.out.below hb)
  obtain ⟨w8, rfl⟩ : ∃ x, x = wc := ⟨_, rfl⟩
  obtain ⟨q2, hq2⟩ : ∃ x, x = risesB N := ⟨_, rfl⟩
  rw [← hq2] at BR ⊢
  clear hb hq2 k14
  go_wp2_with fail
  refine (rrises_any _ T _ RT.out).mono ?_; rintro e w9 ⟨rfl, hb9⟩
  have BX := Lib.hid (BX.out.trans (hb9.mono BX.out.size))
  obtain ⟨q3, hq3⟩ : ∃ x, x = risesB T := ⟨_, rfl⟩
  rw [← hq3] at BR ⊢
  clear hb9 hq3 RT
  cases q1
  · obtain rfl : F = 7 := by rw [F6.out, if_pos (by rw [← BR2.out, BR.out]; rfl)]
    go_wp2
    go_ret
    exact ⟨rfl, B1.out.trans (BX.out.mono B1.out.size)⟩
  cases q2
  · obtain rfl : F = 7 := by rw [F6.out, if_pos (by rw [← BR2.out, BR.out]; rfl)]
    go_wp2
    go_ret
    exact ⟨rfl, B1.out.trans (BX.out.mono B1.out.size)⟩
  cases q3
  · obtain rfl : F = 7 := by rw [F6.out, if_pos (by rw [← BR2.out, BR.out]; rfl)]
    go_wp2
    go_ret
    exact ⟨rfl, B1.out.trans (BX.out.mono B1.out.size)⟩
  have F7 := Lib.hid (show F = (if A.any almBad = true then 1 else 0) by rw [F6.out, if_neg (by rw [← BR2.out, BR.out]; exact Bool.false_ne_true)])
  clear F6 BR BR2 TE
  have RA9 := Lib.hid (RA.out.below BX.out)
  have EC9 := Lib.hid (EC.out.below BX.out)
  unfold maxLen at kA2
  obtain ⟨a6, c6, e6, _, _, hds⟩ := almsR_open RA9.out
  cases e6
  have HA := Lib.hid hds
  have lA := LN.out.2.2.2
  clear hds RA9
  go_wp2_with fail
  go_loopg [16] A.length (fun g iv wr => ∃ k : Nat, k ≤ A.length ∧ iv = .int .i64 k ∧ g = A.length - k ∧ Hid ((A.take k).any almBad = false) ∧ Below w9.heap.size w9 wr)
  case atStart => exact ⟨0, Nat.zero_le _, rfl, rfl, Lib.hid (by simp), Below.refl _ _⟩
  case round =>
    obtain ⟨k, hk, rfl, hg, NO, hb⟩ := hrel
    have G := Lib.hid hg
    have BW := Lib.hid hb
    have k16 := (EC9.out.below hb).k16
    clear hg
    by_cases hlt : k < A.length
    · obtain ⟨cb, co, rfl, hcs⟩ := HA.out (by omega)
      obtain ⟨p0, p1, p2, p3⟩ := hcs k hlt
      have p0 := cell_below hb p0; have p1 := cell_below hb p1; have p2 := cell_below hb p2; have p3 := cell_below hb p3
      obtain ⟨al, hal⟩ : ∃ x, x = A[k] := ⟨_, rfl⟩
      rw [← hal] at p0 p1 p2 p3
      have AB := Lib.hid (show almBad A[k] = (almE al.1 al.2.2.1 al.2.2.2 != 0) by rw [hal]; rfl)
      obtain ⟨a1, a2, a3, a4⟩ := al
      simp only at p0 p1 p2 p3 AB
      obtain ⟨f, hf⟩ : ∃ f, f = almE a1 a3 a4 := ⟨_, rfl⟩
      rw [← hf] at AB
      have F01 := Lib.hid (show f = 0 ∨ f = 1 by rw [hf, almE]; split <;> simp)
      have RL := Lib.hid (show ∀ wx, Calls Tryz.prog 116 #[.agg #[.int .i64 a1, .bool a2, .int .i64 a3, .int .i64 a4]] wx (fun e w' => e = .returned (.int .i64 f) ∧ Below wx.heap.size wx w') from fun wx => by rw [hf]; exact ralarm_any a1 a3 a4 a2 wx)
      have i1 : (0 : Int) ≤ (k : Int) := Int.natCast_nonneg _
      have i2 : (k : Int) < (A.length : Int) := by omega
      clear hal hcs hb hf
      go_wp2_with fail
      refine (RL.out _).mono ?_; rintro e w10 ⟨rfl, hb10⟩
      have BW2 := Lib.hid (BW.out.trans (hb10.mono BW.out.size))
      clear hb10 RL p0 p1 p2 p3 k16
      rcases F01.out with rfl | rfl
      · have NX := Lib.hid (any_no (p := almBad) hlt NO.out (by rw [AB.out]; rfl))
        go_wp2
        go_roundg (A.length - (k + 1))
        case measure => rw [G.out]; omega
        case rel => exact ⟨k + 1, by omega, by go_num, rfl, NX, BW2.out⟩
      · obtain rfl : F = 1 := by rw [F7.out, if_pos (any_yes (p := almBad) hlt (by rw [AB.out]; rfl))]
        go_wp2
        go_ret
        exact ⟨rfl, B1.out.trans ((BX.out.trans (BW2.out.mono BX.out.size)).mono B1.out.size)⟩
    · obtain rfl : k = A.length := by omega
      have i2 : ¬ (A.length : Int) < (A.length : Int) := by omega
      obtain rfl : F = 0 := by rw [F7.out, if_neg (by have := NO.out; rw [List.take_length] at this; rw [this]; exact Bool.false_ne_true)]
      clear hb
      go_wp2
      go_ret
      exact ⟨rfl, B1.out.trans ((BX.out.trans (BW.out.mono BX.out.size)).mono B1.out.size)⟩

end Go.Proofs.YtgelojhpanbnaaaGreatDoor
