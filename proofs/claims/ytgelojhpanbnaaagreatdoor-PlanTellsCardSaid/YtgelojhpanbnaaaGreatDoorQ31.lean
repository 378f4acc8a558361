/- Texts joined into one (a claim has at most 60 files): event.Of of an event that repeats: its contract; event.Of and event.Local of any event: their contracts. -/
import Derived.Test.YtgelojhpanbnaaaGreatDoorQ14
import Derived.Sort.CutIn
import Derived.Sort.LoopGhostIn
import Derived.RangeFuncCalls
import Derived.RegionIn
namespace Go.Proofs.YtgelojhpanbnaaaGreatDoor
open Go.RowKit Go.Shelf
set_option linter.unusedSimpArgs false
set_option linter.unusedVariables false
attribute [local go_sem] Oper.semAt_some

theorem quo_day {st : Int} (h0 : 0 ≤ st) (h1 : st / 1440 + 1 ≤ 109573) : wrap64 (wrap64 (st.tdiv 1440) + 1) = st / 1440 + 1 := by
  rw [Int.tdiv_eq_ediv_of_nonneg h0]
  rw [IntWalk.wrap64_in (st / 1440) (by omega), IntWalk.wrap64_in _ (by omega)]

set_option maxRecDepth 100000 in
set_option maxHeartbeats 8000000 in
theorem evof_rep (m : Nat) (snm stx : ByteArray) (st ln : Int) (fr ev ct ti y mm d : Int) (vm vd vw vp vM vN vC vA : Value) (mo da : List Int) (we : List (Int × Int)) (pk M N : List Int) (a b : Int) (w : World) (hw : Months w)
    (h1 : IntsR w vm mo) (h2 : IntsR w vd da) (h3 : PairsR w vw we) (h4 : IntsR w vp pk) (hvC : vC.oneCell' = true) (hvA : vA.oneCell' = true) (hM : IntsR w vM M) (hN : IntsR w vN N) (hMl : M.length ≤ 100)
    (hs0 : 0 ≤ st) (hd : Cal.dateB y mm d = true) (hst : Cal.num y mm d = st / 1440 + 1) (hF : ruleF fr ev ct ti mo da we pk = 0) :
    CallsIn Fence.wide (m + 1) Tryz.prog 80 #[.agg #[.string snm, .string stx, .int .i64 st, .int .i64 ln, .bool true, .int .i64 fr, .int .i64 ev, .int .i64 ct, .int .i64 ti, vm, vd, vw, vp, vM, vN, vC, vA], .int .i64 a, .int .i64 b] w
      fun e w' => ∃ v, e = .returned v ∧ OwnI w.heap.size w' v (evL (tmsL (st % 1440) (eachL fr ev ct ti y mm d mo da we pk (st / 1440 + 1))) M N a b) ∧ Below w.heap.size w w' := by
  obtain ⟨am, km, rfl, -, -, -⟩ := intsR_open h1
  obtain ⟨ad, kd, rfl, -, -, -⟩ := intsR_open h2
  obtain ⟨aw, kw, rfl, -, -, -⟩ := pairsR_open h3
  obtain ⟨ap, kp, rfl, -, -, -⟩ := intsR_open h4
  have hst1 : 1 ≤ st / 1440 + 1 ∧ st / 1440 + 1 ≤ 109573 := hst ▸ (Cal.num_bd hd).2.2
  have hEl := eachL_len hd hst (ruleF_0 hF).2.1 (fr := fr) (ct := ct) (ti := ti) (mo := mo) (da := da) (we := we) (pk := pk)
  have hEu := eachL_up hd hst (ruleF_0 hF).2.1 (fr := fr) (ct := ct) (ti := ti) (mo := mo) (da := da) (we := we) (pk := pk)
  obtain ⟨E, hE⟩ : ∃ E, E = eachL fr ev ct ti y mm d mo da we pk (st / 1440 + 1) := ⟨_, rfl⟩
  rw [← hE]
  have EL := Lib.hid hEl; have EU := Lib.hid hEu; have EE := Lib.hid hE; have HF := Lib.hid hF; have HD := Lib.hid hd; have HS := Lib.hid hst; have S1 := Lib.hid hst1; have S0' := Lib.hid hs0
  have HW := Lib.hid hw; have I1 := Lib.hid h1; have I2 := Lib.hid h2; have I3 := Lib.hid h3; have I4 := Lib.hid h4
  clear hEl hEu hE hF hd hst hst1 hs0 hw h1 h2 h3 h4
  obtain ⟨aM, kM, rfl, -, kM2, -⟩ := intsR_open hM
  obtain ⟨aN, kN, rfl, -, kN2, -⟩ := intsR_open hN
  obtain ⟨eb, heb⟩ : ∃ x, x = w.heap.size := ⟨_, rfl⟩
  obtain ⟨w0, hw0⟩ : ∃ x, x = w.alloc (.cells #[.string snm, .string stx, .int .i64 st, .int .i64 ln, .bool true, .int .i64 fr, .int .i64 ev, .int .i64 ct, .int .i64 ti, .slice am mo.length km, .slice ad da.length kd, .slice aw we.length kw, .slice ap pk.length kp, .slice aM M.length kM, .slice aN N.length kN, vC, vA] 29) := ⟨_, rfl⟩
  have hb0 : Below w.heap.size w w0 := by rw [hw0]; exact (Below.refl _ _).alloc (Nat.le_refl _) _
  have hs0 : w0.heap.size = w.heap.size + 1 := by rw [hw0]; simp
  have ec := hw0 ▸ evC_new w 29 snm stx st ln true fr ev ct ti (.slice am mo.length km) (.slice ad da.length kd) (.slice aw we.length kw) (.slice ap pk.length kp) (.slice aM M.length kM) (.slice aN N.length kN) vC vA
  obtain ⟨wa, hwa⟩ : ∃ x, x = w0.alloc (.cells #[.int .i64 a] 3) := ⟨_, rfl⟩
  have hba : Below w0.heap.size w0 wa := by rw [hwa]; exact (Below.refl _ _).alloc (Nat.le_refl _) _
  have hsa : wa.heap.size = w0.heap.size + 1 := by rw [hwa]; simp
  have ca : wa.cell? ⟨w0.heap.size, 0, none⟩ = some (.int .i64 a) := by rw [hwa]; simp
  obtain ⟨wb, hwb⟩ : ∃ x, x = wa.alloc (.cells #[.int .i64 b] 3) := ⟨_, rfl⟩
  have hbb : Below wa.heap.size wa wb := by rw [hwb]; exact (Below.refl _ _).alloc (Nat.le_refl _) _
  have hsb : wb.heap.size = wa.heap.size + 1 := by rw [hwb]; simp
  have cb : wb.cell? ⟨wa.heap.size, 0, none⟩ = some (.int .i64 b) := by rw [hwb]; simp
  have ca := cell_below hbb ca
  have ec := (ec.below hba).below hbb
  have hbwb : Below w.heap.size w wb := (hb0.trans (hba.mono hb0.size)).trans (hbb.mono (by omega))
  obtain ⟨wc, hwc⟩ : ∃ x, x = wb.alloc (.cells #[.slice none 0 0] 22) := ⟨_, rfl⟩
  have hsc : wc.heap.size = wb.heap.size + 1 := by rw [hwc]; simp
  have bO : Boxed wc wb.heap.size 22 (.slice none 0 0) := by rw [hwc]; exact Boxed.new wb 22 (.slice none 0 0)
  have hbc : Below wb.heap.size wb wc := by rw [hwc]; exact (Below.refl _ _).alloc (Nat.le_refl _) _
  obtain ⟨wd, hwd⟩ : ∃ x, x = wc.alloc (.cells #[.func (.func 152) #[] #[.pointer (some ⟨eb + 1, 0, none⟩), .pointer (some ⟨eb + 1 + 1, 0, none⟩), .pointer (some ⟨wb.heap.size, 0, none⟩)]] 149) := ⟨_, rfl⟩
  have bK : Boxed wd wc.heap.size 149 (.func (.func 152) #[] #[.pointer (some ⟨eb + 1, 0, none⟩), .pointer (some ⟨eb + 1 + 1, 0, none⟩), .pointer (some ⟨wb.heap.size, 0, none⟩)]) := by rw [hwd]; exact Boxed.new wc 149 _
  have hbd : Below wb.heap.size wb wd := by rw [hwd]; exact hbc.alloc (by omega) _
  have bO : Boxed wd wb.heap.size 22 (.slice none 0 0) := by rw [hwd]; exact (Below.heap_alloc _ _ _ (by omega)).trans bO
  have col : Col wb wb.heap.size 22 3 (fun k => k = wc.heap.size) [] wd := ⟨⟨hbd, Nat.le_refl _, by rintro k rfl; exact bK.lt⟩, _, bO, World.ownsRow_nil _ _ _ _, by omega, fun g h => by cases h⟩
  have BO := Lib.hid bO; have CO := Lib.hid col; have BK := Lib.hid bK; have EC := Lib.hid ec; have CA := Lib.hid ca; have CB := Lib.hid cb; have BB := Lib.hid hbwb; have BD := Lib.hid hbd
  have RM := Lib.hid (hM.below hbwb); have RN := Lib.hid (hN.below hbwb)
  have W0 := Lib.hid hw0; have WA := Lib.hid hwa; have WB := Lib.hid hwb; have WC := Lib.hid hwc; have WD := Lib.hid hwd
  have EB := Lib.hid heb
  have q0 : w0.heap.size = eb + 1 := by omega
  have q1 : wa.heap.size = eb + 1 + 1 := by omega
  have q2 : wb.heap.size = eb + 1 + 1 + 1 := by omega
  have q3 : wc.heap.size = wb.heap.size + 1 := hsc
  rw [← heb] at EC
  rw [q0] at CA; rw [q1] at CB
  have Q2 := Lib.hid q2; have Q3 := Lib.hid q3
  clear hM hN hw0 hb0 hs0 ec hwa hba hsa ca hwb hbb hsb cb hbwb hwc hsc bO hbc hwd bK hbd col heb q0 q1 q2 q3
  refine callsIn_of_wp_marks Tryz.func80 rfl trivial ?_ rfl
  simp only [Tryz.ntmps80, List.size_toArray, List.length_cons, List.length_nil, Nat.reduceAdd, Nat.reduceSub, Array.replicate_succ, Array.replicate_zero, List.push_toArray, List.append_toArray, List.nil_append, List.cons_append]
  gi_upto_region 1 with fail
  rw [← W0.out, ← WA.out, ← WB.out]
  rw [← EB.out]
  gi_upto_region 2 with fail
  rw [← WC.out]
  gi_upto_region 3 with fail
  rw [← WD.out]
  have k2 := (EC.out.below BD.out).k2
  have k4 := (EC.out.below BD.out).k4
  have kk := BK.out.cell
  gi_wp2_with fail
  gi_cut [9, 10] from 23 (fun s9 s10 wx => s9 = .int .i64 (st / 1440 + 1) ∧ s10 = .pointer (some ⟨wd.heap.size, 0, none⟩) ∧ Boxed wx wd.heap.size 3 (.int .i64 (st % 1440)) ∧ Below wd.heap.size wd wx)
  case first =>
    have hlt : eb < wd.heap.size := by have := Q2.out; have := BD.out.size; omega
    have k2b : wd.drew.cell? ⟨eb, 2, none⟩ = some (.int .i64 st) := by simpa using k2
    have k2c : (wd.alloc (.cells #[.int .i64 0] 3)).cell? ⟨eb, 2, none⟩ = some (.int .i64 st) := by rw [World.cell?_alloc_lt _ _ _ hlt]; exact k2
    have k2d : (wd.alloc (.cells #[.int .i64 0] 3)).drew.cell? ⟨eb, 2, none⟩ = some (.int .i64 st) := by simpa using k2c
    have E1 := Lib.hid (show Value.int .i64 (wrap64 (wrap64 (st.tdiv 1440) + 1)) = .int .i64 (st / 1440 + 1) by rw [quo_day S0'.out S1.out.2])
    have E2 := Lib.hid (Int.tmod_eq_emod_of_nonneg (b := 1440) S0'.out)
    gi_region
    gi_wp2
    gi_meet
    refine ⟨E1.out, rfl, ?_, ?_⟩
    · rw [← E2.out]; exact Boxed.new wd 3 _
    · exact ((Below.refl _ _).alloc (Nat.le_refl _) _).drew
  case rest =>
  obtain ⟨rfl, rfl, bM, hbe⟩ := hcut
  obtain ⟨w5, rfl⟩ : ∃ x, x = wc := ⟨_, rfl⟩
  have hb5 := BD.out.trans (hbe.mono BD.out.size)
  have BM := Lib.hid bM; have BE := Lib.hid hbe; have B5 := Lib.hid hb5
  clear k2 k4 kk bM hbe
  have ec5 := EC.out.below hb5
  have k5 := ec5.k5; have k6 := ec5.k6; have k7 := ec5.k7; have k8 := ec5.k8; have k9 := ec5.k9; have k10 := ec5.k10; have k11 := ec5.k11; have k12 := ec5.k12
  have HI := Lib.hid (BB.out.trans (hb5.mono BB.out.size))
  clear ec5 hb5
  gi_wp2_with fail
  refine ⟨trivial, ?_⟩
  refine (callsIn_wide.2 (seach_any fr ev ct ti (st / 1440 + 1) _ _ _ _ mo da we pk _ (I1.out.below HI.out) (I2.out.below HI.out) (I3.out.below HI.out) (I4.out.below HI.out))).mono ?_; rintro e w6 ⟨rfl, ⟨hr6, hs6⟩, hb6, hz6⟩
  clear k5 k6 k7 k8 k9 k10 k11 k12
  have R6 := Lib.hid hr6; have S6 := Lib.hid hs6; have D6 := Lib.hid hb6; have Z6 := Lib.hid hz6
  have B6 := Lib.hid (B5.out.trans (hb6.mono B5.out.size))
  clear hr6 hs6 hb6 hz6
  gi_wp2_with fail
  obtain ⟨mi, hmi⟩ : ∃ x, x = st % 1440 := ⟨_, rfl⟩
  rw [← hmi] at BM
  have ME := Lib.hid hmi
  have MI := Lib.hid (show 0 ≤ mi ∧ mi < 1440 by omega)
  clear hmi
  obtain ⟨kv, hkv⟩ : ∃ x : Value, x = .func (.func 152) #[] #[.pointer (some ⟨eb + 1, 0, none⟩), .pointer (some ⟨eb + 1 + 1, 0, none⟩), .pointer (some ⟨wb.heap.size, 0, none⟩)] := ⟨_, rfl⟩
  have KV := Lib.hid hkv
  have h0 : EvI a b mi wb wb.heap.size wd.heap.size wc.heap.size kv (fun k => k = w5.heap.size ∨ k = w5.heap.size + 1) [] w6 := by
    have q1 := BO.out.lt; have q2 := BK.out.lt; have q3 := BM.out.lt; have q4 := D6.out.size; have q5 := BE.out.size; have q6 := Q3.out; have q7 := Z6.out; have q8 := BD.out.size
    have u1 : Boxed w6 wb.heap.size 22 (.slice none 0 0) := (D6.out.block _ (by omega)).trans ((BE.out.block _ (by omega)).trans BO.out)
    have u2 : Boxed w6 wd.heap.size 3 (.int .i64 mi) := (D6.out.block _ (by omega)).trans BM.out
    have u3 : Boxed w6 wc.heap.size 149 kv := hkv ▸ ((D6.out.block _ (by omega)).trans ((BE.out.block _ (by omega)).trans BK.out))
    refine ⟨⟨⟨B6.out, Nat.le_refl _, ?_⟩, _, u1, World.ownsRow_nil _ _ _ _, ?_, fun g h => by cases h⟩, ⟨u2, ?_⟩, ⟨u3, ?_⟩⟩
    · rintro k ((rfl | rfl) | rfl | rfl) <;> omega
    · rintro ((h | h) | h | h) <;> omega
    · rintro (h | h) <;> omega
    · rintro (h | h) <;> omega
  have H0 := Lib.hid h0
  clear h0 hkv
  refine wpIn_rangeP rfl (Nat.succ_le_succ (Nat.zero_le m)) (gf := 144) (lb := #[.pointer (some ⟨w5.heap.size, 0, none⟩), .pointer (some ⟨w5.heap.size + 1, 0, none⟩)]) rfl trivial (enters_of Tryz.func144 (by kernel_rfl) rfl)
    (each_seq m fr ev ct ti y mm d (st / 1440 + 1) _ _ _ _ mo da we pk wb w6 (HW.out.below BB.out) (I1.out.below BB.out) (I2.out.below BB.out) (I3.out.below BB.out) (I4.out.below BB.out) HD.out HS.out HF.out w5.heap.size (w5.heap.size + 1) B6.out R6.out S6.out) B6.out.size (by rintro k (rfl | rfl) <;> (have := Z6.out; omega)) rfl
    (fun Pr pre W => EvI a b mi wb wb.heap.size wd.heap.size wc.heap.size kv Pr pre W)
    (fun c Pr pre W => c = .exit 0 ∧ ∃ p x, pre = p ++ [x] ∧ b < evT mi x ∧ EvI a b mi wb wb.heap.size wd.heap.size wc.heap.size kv Pr p W)
    (fun Pr Pr' pre wa wb h hs hp => h.step hs hp) (by rintro c Pr Pr' pre wa wb ⟨h1, p, x, h2, h3, h⟩ hs hp; exact ⟨h1, p, x, h2, h3, h.step hs hp⟩)
    H0.out ?a1 ?assign ?body ?done ?stop
  case assign =>
    intro l x W K hK
    gi_wp2
    exact hK
  case body =>
    rintro l Pr pre x W hI hlt
    have EI := Lib.hid hI
    have hcm := hI.2.1.1.cell
    have hck := hI.2.2.1.cell
    have hbW := hI.1.1.1
    have ct := cell_below hbW CB.out
    have BW := Lib.hid hbW
    have HL := Lib.hid hlt
    clear hI hbW hlt
    gi_upto_region 8 with fail
    gi_cut [12] from 35 (fun s12 wx => s12 = .int .i64 (evT mi x) ∧ W = wx)
    case first =>
      clear hck ct
      gi_wp2
      gi_meet
      exact ⟨rfl, rfl⟩
    case rest =>
    obtain ⟨rfl, rfl⟩ := hcut
    obtain ⟨t, ht⟩ : ∃ t, t = evT mi x := ⟨_, rfl⟩
    rw [← ht]
    have TE := Lib.hid ht
    clear ht hcm
    by_cases hq : b < t
    · have d1 : decide (b < t) = true := decide_eq_true hq
      have HQ := Lib.hid hq
      clear hq hck
      gi_wp2
      exact ⟨KeepP.refl _, rfl, pre, x, rfl, by rw [← TE.out]; exact HQ.out, EI.out⟩
    · have d1 : decide (b < t) = false := decide_eq_false hq
      clear hq
      rw [KV.out] at hck
      have hpl : (inR a b (tmsL mi pre)).length ≤ 4398046511104 := by have h1 := tms_len mi a b pre; have h2 := HL.out; have h3 := EL.out; omega
      gi_wp2_with fail
      refine ⟨trivial, (fun h => by cases h), ?_⟩
      have KC := keep_col t a b (eb + 1) (eb + 1 + 1) wb.heap.size wb (fun k => Pr k ∨ k = wd.heap.size ∨ k = wc.heap.size) (inR a b (tmsL mi pre)) W EI.out.1 (cell_below BW.out CA.out) (cell_below BW.out CB.out) hpl
      refine (CallsIn.inRound l (callsIn_wide.2 KC)).mono ?_
      rintro e w7 ⟨rfl, hk7, hc7⟩
      have l1 := EI.out.2.1.1.lt; have l2 := EI.out.2.2.1.lt
      have v1 := (hk7.kept _ l1 (.inr (.inl rfl))).trans EI.out.2.1.1
      have v2 := (hk7.kept _ l2 (.inr (.inr rfl))).trans EI.out.2.2.1
      have R7 := Lib.hid (show KeepP wb.heap.size Pr W w7 ∧ EvI a b mi wb wb.heap.size wd.heap.size wc.heap.size kv Pr (pre ++ [x]) w7 from ⟨⟨hk7.below, fun k hk hp => hk7.kept k hk (.inl hp)⟩, by rw [TE.out] at hc7; rw [← tms_next] at hc7; exact hc7, ⟨v1, EI.out.2.1.2⟩, ⟨v2, EI.out.2.2.2⟩⟩)
      clear hk7 hc7 v1 v2 l1 l2 KC hck
      gi_wp2
      exact R7.out
  case done =>
    rintro D Pr xs W hD rfl hI hK
    have EI := Lib.hid hI; have KD := Lib.hid hK
    have HDD := Lib.hid hD
    have BW := Lib.hid hI.1.1.1
    have k13 := (EC.out.below hI.1.1.1).k13
    clear hI hK hD
    gi_wp2_with fail
    clear k13
    obtain ⟨X0, hX0⟩ : ∃ z, z = inR a b (tmsL mi (eachL fr ev ct ti y mm d mo da we pk (st / 1440 + 1))) := ⟨_, rfl⟩
    have x0l : X0.length ≤ 109573 := by rw [hX0]; exact Nat.le_trans (tms_len _ _ _ _) EL.out
    have CS := Lib.hid (EI.out.1.swap EI.out.2.2.1 (by decide) (by have := Q3.out; omega) KD.out)
    have BK0 := Lib.hid EI.out.2.2.1
    have EI := EI.out.1
    rw [← hX0] at CS
    have X0E := Lib.hid (show X0 = inR a b (tmsL mi E) by rw [EE.out]; exact hX0)
    clear hX0 EI
    obtain ⟨a6, c6, e6, _, _, hds⟩ := intsR_open RM.out
    cases e6
    have HC := Lib.hid hds
    clear hds
    gi_loopg [49] M.length (fun g iv wr => ∃ (k : Nat) (XS : List Int), k ≤ M.length ∧ iv = .int .i64 k ∧ g = M.length - k ∧ Hid (XS = X0 ++ inR a b (M.take k)) ∧ Col wb wb.heap.size 22 3 (fun k => k = wc.heap.size ∨ k = D) XS wr ∧ Boxed wr wc.heap.size 149 kv ∧ wr.heap[D]? = some (.deferred (some [])))
    case atStart => exact ⟨0, X0, Nat.zero_le _, rfl, rfl, Lib.hid (by simp [inR]), CS.out, BK0.out, KD.out⟩
    case round =>
      obtain ⟨k, XS, hk, rfl, hg, XE, hcol, hbk, hKD⟩ := hrel
      have G := Lib.hid hg
      have xl : XS.length ≤ 109673 := by
        have h := congrArg List.length XE.out
        have h2 : (inR a b (M.take k)).length ≤ (M.take k).length := List.length_filter_le ..
        have h3 := List.length_take_le k M
        rw [List.length_append] at h; omega
      have hb := hcol.1.1
      have BW := Lib.hid hb
      have i1 : (0 : Int) ≤ (k : Int) := Int.natCast_nonneg _
      have KW := Lib.hid hKD
      clear hg hKD
      by_cases hlt : k < M.length
      · obtain ⟨mb, mo2, rfl, hcs⟩ := HC.out (by omega)
        have c0 := cell_below hb (hcs k hlt)
        obtain ⟨x, hx⟩ : ∃ x, x = M[k] := ⟨_, rfl⟩
        rw [← hx] at c0
        have X := Lib.hid (show inR a b (M.take (k + 1)) = inR a b (M.take k) ++ inR a b [x] by rw [List.take_succ_eq_append_getElem hlt, inR_append, hx])
        have CW := Lib.hid hcol; have BKW := Lib.hid hbk
        have kk := hbk.cell
        rw [KV.out] at kk
        clear hx hcs hcol hbk hb
        have i2 : (k : Int) < (M.length : Int) := by omega
        gi_wp2_with fail
        refine ⟨trivial, ?_⟩
        refine (callsIn_wide.2 (keep_col x a b _ _ wb.heap.size wb _ XS _ CW.out (cell_below BW.out CA.out) (cell_below BW.out CB.out) (by omega))).mono ?_; rintro e w7 ⟨rfl, hk7, hc7⟩
        have BK7 := Lib.hid (show Boxed w7 wc.heap.size 149 kv from (hk7.kept _ BKW.out.lt (.inl rfl)).trans BKW.out)
        have KD7 := Lib.hid ((hk7.kept D (Array.getElem?_eq_some_iff.1 KW.out).1 (.inr rfl)).trans KW.out)
        have CO7 := Lib.hid hc7
        clear hk7 hc7 c0 kk
        gi_wp2
        gi_roundg (M.length - (k + 1))
        case measure => rw [G.out]; omega
        case rel => exact ⟨k + 1, _, by omega, by go_num, rfl, Lib.hid (by rw [X.out, XE.out, List.append_assoc]), CO7.out, BK7.out, KD7.out⟩
      · obtain rfl : k = M.length := by omega
        have i2 : ¬ (M.length : Int) < (M.length : Int) := by omega
        have XF := Lib.hid (show XS = inR a b (tmsL mi E) ++ inR a b M by have := XE.out; rw [List.take_length] at this; rw [this, X0E.out])
        obtain ⟨⟨_, _, _⟩, v, hv, hrow, hno, hng⟩ := hcol
        have hc := hv.cell
        have HV := Lib.hid hv; have HR := Lib.hid hrow
        clear hv hrow hno hng hbk hb
        gi_wp2_with fail
        refine ⟨trivial, ?_⟩
        refine (callsIn_wide.2 (sort_own v XS _ HR.out (by omega))).mono ?_; rintro e w7 ⟨rfl, hrow7, hg7⟩
        have hv7 : Boxed w7 wb.heap.size 22 v := HV.out.kept hg7 (HV.out.not_row (by decide) HR.out)
        have B7 := Lib.hid (BW.out.grown hg7 BW.out.size (ownBlock_ge HR.out))
        have KD7 := Lib.hid (grown_rec HR.out hg7 KW.out)
        have hc7 := hv7.cell
        obtain ⟨ys, hys⟩ : ∃ ys, ys = srt XS := ⟨_, rfl⟩
        have yl : ys.length ≤ 109673 := by rw [hys, srt_len]; exact xl
        have HR7 := Lib.hid (show w7.ownsRow wb.heap.size 3 1 v ys.length (ys.map (Value.int .i64)) by rw [hys, srt_len]; exact hrow7)
        have YE := Lib.hid hys
        clear hrow7 hg7 hv7 hc hys
        gi_wp2_with fail
        refine ⟨trivial, ?_⟩
        refine (callsIn_wide.2 (compact_own v ys _ HR7.out (by omega))).mono ?_; rintro e w8 ⟨u, rfl, hrow8, hg8⟩
        have B8 := Lib.hid (B7.out.grown hg8 B7.out.size (ownBlock_ge HR7.out))
        have KD8 := Lib.hid (grown_rec HR7.out hg8 KD7.out)
        obtain ⟨zs, hzs⟩ : ∃ zs, zs = Lib.compact ys := ⟨_, rfl⟩
        rw [← hzs] at hrow8
        have zl : zs.length ≤ 109673 := by rw [hzs]; exact Nat.le_trans (compact_le ys) yl
        have HR8 := Lib.hid hrow8
        have ZE := Lib.hid hzs
        clear hrow8 hg8 hc7 hzs
        gi_wp2_with fail
        refine ⟨trivial, ?_⟩
        refine (callsIn_wide.2 (del_own u zs eb _ N _ HR8.out (by omega) B8.out.size (fun W hbW => ⟨(EC.out.below (B8.out.trans hbW)).k14, RN.out.below (B8.out.trans hbW)⟩))).mono ?_; rintro e w9 ⟨u2, rfl, hrow9, hg9⟩
        have B9 := Lib.hid (B8.out.grown hg9 B8.out.size (ownBlock_ge HR8.out))
        have KD9 := Lib.hid (grown_rec HR8.out hg9 KD8.out)
        have HR9 := Lib.hid hrow9
        have OE := Lib.hid (show notIn N zs = evL (tmsL (st % 1440) E) M N a b by rw [evL, ZE.out, YE.out, XF.out, ← ME.out])
        clear hrow9 hg9
        gi_wp2
        refine ⟨by simp, .inl ⟨_, _, rfl, run_takeDeferred KD9.out, ?_⟩⟩
        have DW := Lib.hid (show wb.heap.size ≤ D by have h1 := HDD.out; have h2 := B6.out.size; omega)
        exact ⟨_, results_tmp rfl _ _ _, _, rfl, by rw [← OE.out]; exact World.ownsRow.mono (ownsRow_putObj HR9.out (.deferred none) KD9.out rfl) BB.out.size, BB.out.trans ((B9.out.trans (below_put _ _ DW.out)).mono BB.out.size)⟩
  case stop =>
    rintro D c Pr pre W hD hpre ⟨rfl, p, x, rfl, hbx, hI⟩ hK
    have EI := Lib.hid hI; have KD := Lib.hid hK
    have HDD := Lib.hid hD
    have XB := Lib.hid (show inR a b (tmsL mi p) = inR a b (tmsL mi E) by rw [EE.out]; exact tms_stop EU.out.1 EU.out.2 MI.out.1 MI.out.2 hpre hbx)
    have BW := Lib.hid hI.1.1.1
    have k13 := (EC.out.below hI.1.1.1).k13
    clear hI hK hD hbx hpre
    gi_wp2_with fail
    clear k13
    obtain ⟨X0, hX0⟩ : ∃ z, z = inR a b (tmsL mi p) := ⟨_, rfl⟩
    have x0l : X0.length ≤ 109573 := by rw [hX0, XB.out, EE.out]; exact Nat.le_trans (tms_len _ _ _ _) EL.out
    have CS := Lib.hid (EI.out.1.swap EI.out.2.2.1 (by decide) (by have := Q3.out; omega) KD.out)
    have BK0 := Lib.hid EI.out.2.2.1
    have EI := EI.out.1
    rw [← hX0] at CS
    have X0E := Lib.hid (show X0 = inR a b (tmsL mi E) by rw [← XB.out]; exact hX0)
    clear hX0 EI
    obtain ⟨a6, c6, e6, _, _, hds⟩ := intsR_open RM.out
    cases e6
    have HC := Lib.hid hds
    clear hds
    gi_loopg [49] M.length (fun g iv wr => ∃ (k : Nat) (XS : List Int), k ≤ M.length ∧ iv = .int .i64 k ∧ g = M.length - k ∧ Hid (XS = X0 ++ inR a b (M.take k)) ∧ Col wb wb.heap.size 22 3 (fun k => k = wc.heap.size ∨ k = D) XS wr ∧ Boxed wr wc.heap.size 149 kv ∧ wr.heap[D]? = some (.deferred (some [])))
    case atStart => exact ⟨0, X0, Nat.zero_le _, rfl, rfl, Lib.hid (by simp [inR]), CS.out, BK0.out, KD.out⟩
    case round =>
      obtain ⟨k, XS, hk, rfl, hg, XE, hcol, hbk, hKD⟩ := hrel
      have G := Lib.hid hg
      have xl : XS.length ≤ 109673 := by
        have h := congrArg List.length XE.out
        have h2 : (inR a b (M.take k)).length ≤ (M.take k).length := List.length_filter_le ..
        have h3 := List.length_take_le k M
        rw [List.length_append] at h; omega
      have hb := hcol.1.1
      have BW := Lib.hid hb
      have i1 : (0 : Int) ≤ (k : Int) := Int.natCast_nonneg _
      have KW := Lib.hid hKD
      clear hg hKD
      by_cases hlt : k < M.length
      · obtain ⟨mb, mo2, rfl, hcs⟩ := HC.out (by omega)
        have c0 := cell_below hb (hcs k hlt)
        obtain ⟨x, hx⟩ : ∃ x, x = M[k] := ⟨_, rfl⟩
        rw [← hx] at c0
        have X := Lib.hid (show inR a b (M.take (k + 1)) = inR a b (M.take k) ++ inR a b [x] by rw [List.take_succ_eq_append_getElem hlt, inR_append, hx])
        have CW := Lib.hid hcol; have BKW := Lib.hid hbk
        have kk := hbk.cell
        rw [KV.out] at kk
        clear hx hcs hcol hbk hb
        have i2 : (k : Int) < (M.length : Int) := by omega
        gi_wp2_with fail
        refine ⟨trivial, ?_⟩
        refine (callsIn_wide.2 (keep_col x a b _ _ wb.heap.size wb _ XS _ CW.out (cell_below BW.out CA.out) (cell_below BW.out CB.out) (by omega))).mono ?_; rintro e w7 ⟨rfl, hk7, hc7⟩
        have BK7 := Lib.hid (show Boxed w7 wc.heap.size 149 kv from (hk7.kept _ BKW.out.lt (.inl rfl)).trans BKW.out)
        have KD7 := Lib.hid ((hk7.kept D (Array.getElem?_eq_some_iff.1 KW.out).1 (.inr rfl)).trans KW.out)
        have CO7 := Lib.hid hc7
        clear hk7 hc7 c0 kk
        gi_wp2
        gi_roundg (M.length - (k + 1))
        case measure => rw [G.out]; omega
        case rel => exact ⟨k + 1, _, by omega, by go_num, rfl, Lib.hid (by rw [X.out, XE.out, List.append_assoc]), CO7.out, BK7.out, KD7.out⟩
      · obtain rfl : k = M.length := by omega
        have i2 : ¬ (M.length : Int) < (M.length : Int) := by omega
        have XF := Lib.hid (show XS = inR a b (tmsL mi E) ++ inR a b M by have := XE.out; rw [List.take_length] at this; rw [this, X0E.out])
        obtain ⟨⟨_, _, _⟩, v, hv, hrow, hno, hng⟩ := hcol
        have hc := hv.cell
        have HV := Lib.hid hv; have HR := Lib.hid hrow
        clear hv hrow hno hng hbk hb
        gi_wp2_with fail
        refine ⟨trivial, ?_⟩
        refine (callsIn_wide.2 (sort_own v XS _ HR.out (by omega))).mono ?_; rintro e w7 ⟨rfl, hrow7, hg7⟩
        have hv7 : Boxed w7 wb.heap.size 22 v := HV.out.kept hg7 (HV.out.not_row (by decide) HR.out)
        have B7 := Lib.hid (BW.out.grown hg7 BW.out.size (ownBlock_ge HR.out))
        have KD7 := Lib.hid (grown_rec HR.out hg7 KW.out)
        have hc7 := hv7.cell
        obtain ⟨ys, hys⟩ : ∃ ys, ys = srt XS := ⟨_, rfl⟩
        have yl : ys.length ≤ 109673 := by rw [hys, srt_len]; exact xl
        have HR7 := Lib.hid (show w7.ownsRow wb.heap.size 3 1 v ys.length (ys.map (Value.int .i64)) by rw [hys, srt_len]; exact hrow7)
        have YE := Lib.hid hys
        clear hrow7 hg7 hv7 hc hys
        gi_wp2_with fail
        refine ⟨trivial, ?_⟩
        refine (callsIn_wide.2 (compact_own v ys _ HR7.out (by omega))).mono ?_; rintro e w8 ⟨u, rfl, hrow8, hg8⟩
        have B8 := Lib.hid (B7.out.grown hg8 B7.out.size (ownBlock_ge HR7.out))
        have KD8 := Lib.hid (grown_rec HR7.out hg8 KD7.out)
        obtain ⟨zs, hzs⟩ : ∃ zs, zs = Lib.compact ys := ⟨_, rfl⟩
        rw [← hzs] at hrow8
        have zl : zs.length ≤ 109673 := by rw [hzs]; exact Nat.le_trans (compact_le ys) yl
        have HR8 := Lib.hid hrow8
        have ZE := Lib.hid hzs
        clear hrow8 hg8 hc7 hzs
        gi_wp2_with fail
        refine ⟨trivial, ?_⟩
        refine (callsIn_wide.2 (del_own u zs eb _ N _ HR8.out (by omega) B8.out.size (fun W hbW => ⟨(EC.out.below (B8.out.trans hbW)).k14, RN.out.below (B8.out.trans hbW)⟩))).mono ?_; rintro e w9 ⟨u2, rfl, hrow9, hg9⟩
        have B9 := Lib.hid (B8.out.grown hg9 B8.out.size (ownBlock_ge HR8.out))
        have KD9 := Lib.hid (grown_rec HR8.out hg9 KD8.out)
        have HR9 := Lib.hid hrow9
        have OE := Lib.hid (show notIn N zs = evL (tmsL (st % 1440) E) M N a b by rw [evL, ZE.out, YE.out, XF.out, ← ME.out])
        clear hrow9 hg9
        gi_wp2
        refine ⟨by simp, .inl ⟨_, _, rfl, run_takeDeferred KD9.out, ?_⟩⟩
        have DW := Lib.hid (show wb.heap.size ≤ D by have h1 := HDD.out; have h2 := B6.out.size; omega)
        exact ⟨_, results_tmp rfl _ _ _, _, rfl, by rw [← OE.out]; exact World.ownsRow.mono (ownsRow_putObj HR9.out (.deferred none) KD9.out rfl) BB.out.size, BB.out.trans ((B9.out.trans (below_put _ _ DW.out)).mono BB.out.size)⟩

end Go.Proofs.YtgelojhpanbnaaaGreatDoor

namespace Go.Proofs.YtgelojhpanbnaaaGreatDoor
open Go.RowKit Go.Shelf
set_option linter.unusedSimpArgs false
set_option linter.unusedVariables false

theorem evof_any (snm stx : ByteArray) (st ln : Int) (rp : Bool) (fr ev ct ti : Int) (vm vd vw vp vM vN vC vA : Value) (mo da : List Int) (we : List (Int × Int)) (pk M N : List Int) (a b : Int) (w : World) (hw : Months w)
    (h1 : IntsR w vm mo) (h2 : IntsR w vd da) (h3 : PairsR w vw we) (h4 : IntsR w vp pk) (hvC : vC.oneCell' = true) (hvA : vA.oneCell' = true) (hM : IntsR w vM M) (hN : IntsR w vN N) (hok : EvOk rp st fr ev ct ti mo da we pk M) :
    Calls Tryz.prog 80 #[.agg #[.string snm, .string stx, .int .i64 st, .int .i64 ln, .bool rp, .int .i64 fr, .int .i64 ev, .int .i64 ct, .int .i64 ti, vm, vd, vw, vp, vM, vN, vC, vA], .int .i64 a, .int .i64 b] w
      fun e w' => ∃ v, e = .returned v ∧ OwnI w.heap.size w' v (evL (ruleT rp st fr ev ct ti mo da we pk) M N a b) ∧ Below w.heap.size w w' := by
  obtain ⟨k1, k2, k3⟩ := hok
  cases rp
  · exact evof_once snm stx st ln fr ev ct ti vm vd vw vp vM vN vC vA M N a b w (by obtain ⟨_, _, rfl, _⟩ := intsR_open h1; rfl) (by obtain ⟨_, _, rfl, _⟩ := intsR_open h2; rfl) (by obtain ⟨_, _, rfl, _⟩ := pairsR_open h3; rfl) (by obtain ⟨_, _, rfl, _⟩ := intsR_open h4; rfl) hvC hvA hM hN k3
  · obtain ⟨t1, t2⟩ := timeB_yes k1
    obtain ⟨y, m, d, hd, hn⟩ := Cal.ex_date (st / 1440 + 1) (by omega) (by omega)
    have h := (callsIn_wide (n := 10)).1 (evof_rep 9 snm stx st ln fr ev ct ti y m d vm vd vw vp vM vN vC vA mo da we pk M N a b w hw h1 h2 h3 h4 hvC hvA hM hN k3 (by omega) hd hn (k2 rfl))
    rw [ruleT, if_pos rfl, daysAt_eq hd hn]
    exact h

end Go.Proofs.YtgelojhpanbnaaaGreatDoor
