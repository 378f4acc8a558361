/- Texts joined into one (a claim has at most 60 files): The region of period.days that tests a day; The contract of period.days. -/
import Derived.Test.YtgelojhpanbnaaaGreatDoorQ10
import Derived.Test.YtgelojhpanbnaaaGreatDoorQ05
namespace Go.Proofs.YtgelojhpanbnaaaGreatDoor
open Go.RowKit
set_option linter.unusedSimpArgs false
set_option linter.unusedVariables false

def findReg (i : Nat) : Code → Option Code
  | .region j ops d => if i = j then some (.region j ops d) else none
  | .seq a b => match findReg i a with
    | some c => some c
    | none => findReg i b
  | .block _ c => findReg i c
  | .loop c => findReg i c
  | .scope c => findReg i c
  | .cond _ a b => match findReg i a with
    | some c => some c
    | none => findReg i b
  | _ => none

noncomputable def reg12 : Code := (Tryz.f195.body.bind (findReg 12)).getD .skip

def zB (da : List Int) (we : List (Int × Int)) : Bool := ((da.length : Int) + (we.length : Int) == 0)

def DayAt (wx : World) (rb fb db p : Nat) (vm vd vw : Value) (m0 d0 m d a1 a2 b1 b2 : Int) : Prop :=
  (wx.cell? ⟨rb, 4, none⟩ = some vm ∧ wx.cell? ⟨rb, 5, none⟩ = some vd ∧ wx.cell? ⟨rb, 6, none⟩ = some vw) ∧ (wx.cell? ⟨fb, 1, none⟩ = some (.int .i64 m0) ∧ wx.cell? ⟨fb, 2, none⟩ = some (.int .i64 d0)) ∧
    (wx.cell? ⟨db, 1, none⟩ = some (.int .i64 m) ∧ wx.cell? ⟨db, 2, none⟩ = some (.int .i64 d)) ∧ Nths wx p (p + 1) a1 a2 b1 b2

theorem DayAt.below {w w' : World} {rb fb db p : Nat} {vm vd vw : Value} {m0 d0 m d a1 a2 b1 b2 : Int} (h : DayAt w rb fb db p vm vd vw m0 d0 m d a1 a2 b1 b2) (hb : Below w.heap.size w w') : DayAt w' rb fb db p vm vd vw m0 d0 m d a1 a2 b1 b2 := by
  obtain ⟨⟨x1, x2, x3⟩, ⟨x4, x5⟩, ⟨x6, x7⟩, x8⟩ := h
  exact ⟨⟨cell_below hb x1, cell_below hb x2, cell_below hb x3⟩, ⟨cell_below hb x4, cell_below hb x5⟩, ⟨cell_below hb x6, cell_below hb x7⟩, x8.below hb⟩

set_option maxRecDepth 100000 in
set_option maxHeartbeats 16000000 in
theorem reg12_wp (K' : Act → World → Prop) (Q' : Exit → Act → World → Prop) (rb fb db pb km kd kw : Nat) (am ad aw : Option Addr) (mo da : List Int) (we : List (Int × Int)) (n0 m0 d0 n m d sz : Int) (sW sD sM : Bool) (wn : World)
    (s0 s2 s4 s5 s6 s8 s12 s15 s17 s20 s21 s22 s23 s24 s25 s26 s27 s28 s29 s30 s31 s32 s33 s34 s35 s36 s37 s38 s39 s40 s41 s42 s43 s44 s45 s46 s47 s48 s49 s50 s51 s52 s53 s54 s55 s56 s57 s58 s59 s60 s61 s62 s63 s64 s65 s66 s67 s68 s69 s70 s71 s72 s73 s74 s75 s76 s77 s78 s79 s80 s81 s82 s83 s84 s85 s86 s87 s88 s89 s90 s91 s92 s93 s94 s95 s96 s97 s98 s99 s100 s101 s102 s103 s104 s105 s106 s107 s108 s109 s110 s111 s112 s113 s114 s115 s116 s117 s118 s119 s120 s121 s122 s123 s124 s125 s126 s127 s128 s129 s130 s131 s132 s133 s134 s135 s136 s137 s138 s139 s140 s141 s142 s143 s144 s145 s146 s147 s148 s149 s150 s151 s152 s153 s154 s155 s156 s157 s158 s159 s160 s161 s162 s163 s164 s165 s166 s167 s168 s169 s170 s171 s172 s173 s174 s175 s176 s177 s178 s179 s180 s181 s182 : Value)
    (hK0 : DayAt wn rb fb db pb (.slice am mo.length km) (.slice ad da.length kd) (.slice aw we.length kw) m0 d0 m d ((d - 1) / 7 + 1) ((n - 1) % 7 + 1) (-((sz - d) / 7 + 1)) ((n - 1) % 7 + 1))
    (LM0 : IntsR wn (.slice am mo.length km) mo) (LD0 : IntsR wn (.slice ad da.length kd) da) (LW0 : PairsR wn (.slice aw we.length kw) we)
    (hn : 1 ≤ n ∧ n ≤ 109573) (hn0 : 1 ≤ n0 ∧ n0 ≤ 109573) (hd : 1 ≤ d ∧ d ≤ 31) (hsz : 28 ≤ sz ∧ sz ≤ 31) (hlen : mo.length ≤ 12 ∧ da.length ≤ 31 ∧ we.length ≤ 20)
    (hend : ∀ (v95 v96 v97 v98 v99 v100 v101 v102 v103 v104 v105 v106 v107 v108 v109 v110 v111 v112 v113 v114 v115 v116 v117 v118 v119 v120 v121 v122 v123 v124 v125 v126 v127 v128 v129 v130 v131 v132 v133 v134 v135 v136 v137 v138 v139 v140 v141 v142 v143 v144 v145 v146 v147 v148 v149 v150 v151 v152 v153 v154 v155 v156 v157 v158 v159 v160 v161 v162 v163 v164 v165 v166 v167 v168 v169 v170 v171 v172 v173 : Value) (w' : World), Below wn.heap.size wn w' → K' ⟨#[s0, .int .i64 n0, s2, .pointer (some ⟨rb, 0, none⟩), s4, s5, s6, .pointer (some ⟨fb, 0, none⟩), s8, .bool sW, .bool sD, .bool sM, s12, .int .i64 n, .pointer (some ⟨db, 0, none⟩), s15, .int .i64 sz, s17, .pointer (some ⟨pb, 0, none⟩), .pointer (some ⟨pb + 1, 0, none⟩), s20, .bool ((((((((mo.length : Int) == 0) || inB mo m) && (((da.length : Int) == 0) || inB da d || inB da (d - sz - 1))) && (((we.length : Int) == 0) || we.any (nthP ((d - 1) / 7 + 1) ((n - 1) % 7 + 1) (-((sz - d) / 7 + 1)) ((n - 1) % 7 + 1)))) && (!sW || (n - n0).tmod 7 == 0)) && (!sD || d == d0)) && (!sM || m == m0)), s22, s23, s24, s25, s26, s27, s28, s29, s30, s31, s32, s33, s34, s35, s36, s37, s38, s39, s40, s41, s42, s43, s44, s45, s46, s47, s48, s49, s50, s51, s52, s53, s54, s55, s56, s57, s58, s59, s60, s61, s62, s63, s64, s65, s66, s67, s68, s69, s70, s71, s72, s73, s74, s75, s76, s77, s78, s79, s80, s81, s82, s83, s84, s85, s86, s87, s88, s89, s90, s91, s92, s93, s94, v95, v96, v97, v98, v99, v100, v101, v102, v103, v104, v105, v106, v107, v108, v109, v110, v111, v112, v113, v114, v115, v116, v117, v118, v119, v120, v121, v122, v123, v124, v125, v126, v127, v128, v129, v130, v131, v132, v133, v134, v135, v136, v137, v138, v139, v140, v141, v142, v143, v144, v145, v146, v147, v148, v149, v150, v151, v152, v153, v154, v155, v156, v157, v158, v159, v160, v161, v162, v163, v164, v165, v166, v167, v168, v169, v170, v171, v172, v173, s174, s175, s176, s177, s178, s179, s180, s181, s182], []⟩ w') :
    Code.wp Tryz.prog reg12 (Exit.then K' Q') ⟨#[s0, .int .i64 n0, s2, .pointer (some ⟨rb, 0, none⟩), s4, s5, s6, .pointer (some ⟨fb, 0, none⟩), s8, .bool sW, .bool sD, .bool sM, s12, .int .i64 n, .pointer (some ⟨db, 0, none⟩), s15, .int .i64 sz, s17, .pointer (some ⟨pb, 0, none⟩), .pointer (some ⟨pb + 1, 0, none⟩), s20, s21, s22, s23, s24, s25, s26, s27, s28, s29, s30, s31, s32, s33, s34, s35, s36, s37, s38, s39, s40, s41, s42, s43, s44, s45, s46, s47, s48, s49, s50, s51, s52, s53, s54, s55, s56, s57, s58, s59, s60, s61, s62, s63, s64, s65, s66, s67, s68, s69, s70, s71, s72, s73, s74, s75, s76, s77, s78, s79, s80, s81, s82, s83, s84, s85, s86, s87, s88, s89, s90, s91, s92, s93, s94, s95, s96, s97, s98, s99, s100, s101, s102, s103, s104, s105, s106, s107, s108, s109, s110, s111, s112, s113, s114, s115, s116, s117, s118, s119, s120, s121, s122, s123, s124, s125, s126, s127, s128, s129, s130, s131, s132, s133, s134, s135, s136, s137, s138, s139, s140, s141, s142, s143, s144, s145, s146, s147, s148, s149, s150, s151, s152, s153, s154, s155, s156, s157, s158, s159, s160, s161, s162, s163, s164, s165, s166, s167, s168, s169, s170, s171, s172, s173, s174, s175, s176, s177, s178, s179, s180, s181, s182], []⟩ wn := by
  obtain ⟨l1, l2, l3⟩ := hlen
  obtain ⟨h1, h2⟩ := hn
  obtain ⟨h3, h4⟩ := hn0
  obtain ⟨h5, h6⟩ := hd
  obtain ⟨h7, h8⟩ := hsz
  have K := Lib.hid hK0; have KK := Lib.hid hK0
  have BW := Lib.hid (Below.refl wn.heap.size wn)
  have LM := Lib.hid LM0; have LD := Lib.hid LD0; have LW := Lib.hid LW0; have HE := Lib.hid hend
  clear hK0 LM0 LD0 LW0 hend
  obtain ⟨t1, ht1⟩ : ∃ x, x = ((mo.length : Int) == 0) := ⟨_, rfl⟩
  obtain ⟨t2, ht2⟩ : ∃ x, x = ((da.length : Int) == 0) := ⟨_, rfl⟩
  obtain ⟨t3, ht3⟩ : ∃ x, x = ((we.length : Int) == 0) := ⟨_, rfl⟩
  obtain ⟨r1, hr1⟩ : ∃ x, x = inB mo m := ⟨_, rfl⟩
  obtain ⟨r2, hr2⟩ : ∃ x, x = inB da d := ⟨_, rfl⟩
  obtain ⟨r3, hr3⟩ : ∃ x, x = inB da (d - sz - 1) := ⟨_, rfl⟩
  obtain ⟨r4, hr4⟩ : ∃ x, x = we.any (nthP ((d - 1) / 7 + 1) ((n - 1) % 7 + 1) (-((sz - d) / 7 + 1)) ((n - 1) % 7 + 1)) := ⟨_, rfl⟩
  obtain ⟨r5, hr5⟩ : ∃ x, x = ((n - n0).tmod 7 == 0) := ⟨_, rfl⟩
  obtain ⟨r6, hr6⟩ : ∃ x, x = (d == d0) := ⟨_, rfl⟩
  obtain ⟨r7, hr7⟩ : ∃ x, x = (m == m0) := ⟨_, rfl⟩
  obtain ⟨q1, hq1⟩ : ∃ x, x = (t1 || r1) := ⟨_, rfl⟩
  obtain ⟨q2, hq2⟩ : ∃ x, x = (q1 && (t2 || r2 || r3)) := ⟨_, rfl⟩
  obtain ⟨q3, hq3⟩ : ∃ x, x = (q2 && (t3 || r4)) := ⟨_, rfl⟩
  obtain ⟨q4, hq4⟩ : ∃ x, x = (q3 && (!sW || r5)) := ⟨_, rfl⟩
  obtain ⟨q5, hq5⟩ : ∃ x, x = (q4 && (!sD || r6)) := ⟨_, rfl⟩
  obtain ⟨ok, hok⟩ : ∃ x, x = (q5 && (!sM || r7)) := ⟨_, rfl⟩
  rw [← ht1, ← hr1, ← ht2, ← hr2, ← hr3, ← ht3, ← hr4, ← hr5, ← hr6, ← hr7, ← hq1, ← hq2, ← hq3, ← hq4, ← hq5, ← hok] at HE
  have T1 := Lib.hid ht1; have T2 := Lib.hid ht2; have T3 := Lib.hid ht3
  have R1 := Lib.hid hr1; have R2 := Lib.hid hr2; have R3 := Lib.hid hr3; have R4 := Lib.hid hr4; have R5 := Lib.hid hr5; have R6 := Lib.hid hr6; have R7 := Lib.hid hr7
  have Q1 := Lib.hid hq1; have Q2 := Lib.hid hq2; have Q3 := Lib.hid hq3; have Q4 := Lib.hid hq4; have Q5 := Lib.hid hq5; have OKQ := Lib.hid hok
  clear hok ht1 ht2 ht3 hr1 hr2 hr3 hr4 hr5 hr6 hr7 hq1 hq2 hq3 hq4 hq5
  conv => arg 2; whnf
  refine wp_region_lit ?_
  refine wpList_cutF 12 95 12 (fun f wx => f 11 = .bool q1 ∧ Below wn.heap.size wn wx) ?_ ?_ (Nat.le_of_ble_eq_true rfl)
  · intro J hJ
    simp only [List.append_eq, List.take_succ_cons, List.take_zero, List.drop_succ_cons, List.drop_zero, List.cons_append, List.nil_append]
    obtain ⟨⟨c4, c5, c6⟩, ⟨g1, g2⟩, ⟨f1, f2⟩, hN⟩ := id K.out
    cases t1
    · have x1 := T1.out.symm
      go_wp2_with fail
      refine (scont_any _ mo _ _ (LM.out.below BW.out)).mono ?_; rintro e w4 ⟨rfl, hb4⟩
      rw [← R1.out]
      have K := Lib.hid (K.out.below hb4); have BW := Lib.hid (BW.out.trans (hb4.mono BW.out.size))
      clear hb4 c4 c5 c6 g1 g2 f1 f2 hN
      obtain ⟨⟨c4, c5, c6⟩, ⟨g1, g2⟩, ⟨f1, f2⟩, hN⟩ := id K.out
      go_wp2
      refine AtEnd.intro (hJ _ _ rfl rfl rfl ⟨?_, BW.out⟩)
      exact congrArg Value.bool (by rw [Q1.out]; first | rfl | simp)
    · have x1 := T1.out.symm
      go_wp2
      refine AtEnd.intro (hJ _ _ rfl rfl rfl ⟨?_, BW.out⟩)
      exact congrArg Value.bool (by rw [Q1.out]; first | rfl | simp)
  · rintro f wx ⟨hq, hb⟩
    simp only [List.append_eq, List.take_succ_cons, List.take_zero, List.drop_succ_cons, List.drop_zero, List.cons_append, List.nil_append, map_12, hq]
    have K := Lib.hid (KK.out.below hb); have BW := Lib.hid hb
    clear hq hb
    refine wpList_cutF 23 107 23 (fun f wx => f 22 = .bool q2 ∧ Below wn.heap.size wn wx) ?_ ?_ (Nat.le_of_ble_eq_true rfl)
    · intro J hJ
      simp only [List.append_eq, List.take_succ_cons, List.take_zero, List.drop_succ_cons, List.drop_zero, List.cons_append, List.nil_append]
      obtain ⟨⟨c4, c5, c6⟩, ⟨g1, g2⟩, ⟨f1, f2⟩, hN⟩ := id K.out
      cases q1
      · go_wp2
        refine AtEnd.intro (hJ _ _ rfl rfl rfl ⟨?_, BW.out⟩)
        exact congrArg Value.bool (by rw [Q2.out]; first | rfl | simp)
      · cases t2
        · have x2 := T2.out.symm
          go_wp2_with fail
          refine (scont_any _ da _ _ (LD.out.below BW.out)).mono ?_; rintro e w4 ⟨rfl, hb4⟩
          rw [← R2.out]
          have K := Lib.hid (K.out.below hb4); have BW := Lib.hid (BW.out.trans (hb4.mono BW.out.size))
          clear hb4 c4 c5 c6 g1 g2 f1 f2 hN
          obtain ⟨⟨c4, c5, c6⟩, ⟨g1, g2⟩, ⟨f1, f2⟩, hN⟩ := id K.out
          cases r2
          · go_wp2_with fail
            refine (scont_any _ da _ _ (LD.out.below BW.out)).mono ?_; rintro e w4 ⟨rfl, hb4⟩
            rw [← R3.out]
            have K := Lib.hid (K.out.below hb4); have BW := Lib.hid (BW.out.trans (hb4.mono BW.out.size))
            clear hb4 c4 c5 c6 g1 g2 f1 f2 hN
            obtain ⟨⟨c4, c5, c6⟩, ⟨g1, g2⟩, ⟨f1, f2⟩, hN⟩ := id K.out
            go_wp2
            refine AtEnd.intro (hJ _ _ rfl rfl rfl ⟨?_, BW.out⟩)
            exact congrArg Value.bool (by rw [Q2.out]; first | rfl | simp)
          · go_wp2
            refine AtEnd.intro (hJ _ _ rfl rfl rfl ⟨?_, BW.out⟩)
            exact congrArg Value.bool (by rw [Q2.out]; first | rfl | simp)
        · have x2 := T2.out.symm
          go_wp2
          refine AtEnd.intro (hJ _ _ rfl rfl rfl ⟨?_, BW.out⟩)
          exact congrArg Value.bool (by rw [Q2.out]; first | rfl | simp)
    · rintro f wx ⟨hq, hb⟩
      simp only [List.append_eq, List.take_succ_cons, List.take_zero, List.drop_succ_cons, List.drop_zero, List.cons_append, List.nil_append, map_23, hq]
      have K := Lib.hid (KK.out.below hb); have BW := Lib.hid hb
      clear hq hb
      refine wpList_cutF 12 130 12 (fun f wx => f 11 = .bool q3 ∧ Below wn.heap.size wn wx) ?_ ?_ (Nat.le_of_ble_eq_true rfl)
      · intro J hJ
        simp only [List.append_eq, List.take_succ_cons, List.take_zero, List.drop_succ_cons, List.drop_zero, List.cons_append, List.nil_append]
        obtain ⟨⟨c4, c5, c6⟩, ⟨g1, g2⟩, ⟨f1, f2⟩, hN⟩ := id K.out
        cases q2
        · go_wp2
          refine AtEnd.intro (hJ _ _ rfl rfl rfl ⟨?_, BW.out⟩)
          exact congrArg Value.bool (by rw [Q3.out]; first | rfl | simp)
        · cases t3
          · have x3 := T3.out.symm
            go_wp2_with fail
            refine (contP_any _ we _ _ _ _ pb (pb + 1) _ (LW.out.below BW.out) hN).mono ?_; rintro e w4 ⟨rfl, hb4⟩
            rw [← R4.out]
            have K := Lib.hid (K.out.below hb4); have BW := Lib.hid (BW.out.trans (hb4.mono BW.out.size))
            clear hb4 c4 c5 c6 g1 g2 f1 f2 hN
            obtain ⟨⟨c4, c5, c6⟩, ⟨g1, g2⟩, ⟨f1, f2⟩, hN⟩ := id K.out
            go_wp2
            refine AtEnd.intro (hJ _ _ rfl rfl rfl ⟨?_, BW.out⟩)
            exact congrArg Value.bool (by rw [Q3.out]; first | rfl | simp)
          · have x3 := T3.out.symm
            go_wp2
            refine AtEnd.intro (hJ _ _ rfl rfl rfl ⟨?_, BW.out⟩)
            exact congrArg Value.bool (by rw [Q3.out]; first | rfl | simp)
      · rintro f wx ⟨hq, hb⟩
        simp only [List.append_eq, List.take_succ_cons, List.take_zero, List.drop_succ_cons, List.drop_zero, List.cons_append, List.nil_append, map_12, hq]
        have K := Lib.hid (KK.out.below hb); have BW := Lib.hid hb
        clear hq hb
        refine wpList_cutF 11 142 11 (fun f wx => f 10 = .bool q4 ∧ Below wn.heap.size wn wx) ?_ ?_ (Nat.le_of_ble_eq_true rfl)
        · intro J hJ
          simp only [List.append_eq, List.take_succ_cons, List.take_zero, List.drop_succ_cons, List.drop_zero, List.cons_append, List.nil_append]
          obtain ⟨⟨c4, c5, c6⟩, ⟨g1, g2⟩, ⟨f1, f2⟩, hN⟩ := id K.out
          cases q3
          · go_wp2
            refine AtEnd.intro (hJ _ _ rfl rfl rfl ⟨?_, BW.out⟩)
            exact congrArg Value.bool (by rw [Q4.out]; first | rfl | simp)
          · cases sW
            · go_wp2
              refine AtEnd.intro (hJ _ _ rfl rfl rfl ⟨?_, BW.out⟩)
              exact congrArg Value.bool (by rw [Q4.out]; first | rfl | simp)
            · go_wp2
              refine AtEnd.intro (hJ _ _ rfl rfl rfl ⟨?_, BW.out⟩)
              exact congrArg Value.bool (by rw [Q4.out, R5.out]; first | rfl | simp)
        · rintro f wx ⟨hq, hb⟩
          simp only [List.append_eq, List.take_succ_cons, List.take_zero, List.drop_succ_cons, List.drop_zero, List.cons_append, List.nil_append, map_11, hq]
          have K := Lib.hid (KK.out.below hb); have BW := Lib.hid hb
          clear hq hb
          refine wpList_cutF 11 153 11 (fun f wx => f 10 = .bool q5 ∧ Below wn.heap.size wn wx) ?_ ?_ (Nat.le_of_ble_eq_true rfl)
          · intro J hJ
            simp only [List.append_eq, List.take_succ_cons, List.take_zero, List.drop_succ_cons, List.drop_zero, List.cons_append, List.nil_append]
            obtain ⟨⟨c4, c5, c6⟩, ⟨g1, g2⟩, ⟨f1, f2⟩, hN⟩ := id K.out
            cases q4
            · go_wp2
              refine AtEnd.intro (hJ _ _ rfl rfl rfl ⟨?_, BW.out⟩)
              exact congrArg Value.bool (by rw [Q5.out]; first | rfl | simp)
            · cases sD
              · go_wp2
                refine AtEnd.intro (hJ _ _ rfl rfl rfl ⟨?_, BW.out⟩)
                exact congrArg Value.bool (by rw [Q5.out]; first | rfl | simp)
              · go_wp2
                refine AtEnd.intro (hJ _ _ rfl rfl rfl ⟨?_, BW.out⟩)
                exact congrArg Value.bool (by rw [Q5.out, R6.out]; first | rfl | simp)
          · rintro f wx ⟨hq, hb⟩
            simp only [List.append_eq, List.take_succ_cons, List.take_zero, List.drop_succ_cons, List.drop_zero, List.cons_append, List.nil_append, map_11, hq]
            have K := Lib.hid (KK.out.below hb); have BW := Lib.hid hb
            clear hq hb
            obtain ⟨⟨c4, c5, c6⟩, ⟨g1, g2⟩, ⟨f1, f2⟩, hN⟩ := id K.out
            cases q5
            · go_wp2
              obtain rfl : ok = false := by rw [OKQ.out]; rfl
              exact HE.out _ _ _ _ _ _ _ _ _ _ _ _ _ _ _ _ _ _ _ _ _ _ _ _ _ _ _ _ _ _ _ _ _ _ _ _ _ _ _ _ _ _ _ _ _ _ _ _ _ _ _ _ _ _ _ _ _ _ _ _ _ _ _ _ _ _ _ _ _ _ _ _ _ _ _ _ _ _ _ _ BW.out
            · cases sM
              · go_wp2
                obtain rfl : ok = true := by rw [OKQ.out]; rfl
                exact HE.out _ _ _ _ _ _ _ _ _ _ _ _ _ _ _ _ _ _ _ _ _ _ _ _ _ _ _ _ _ _ _ _ _ _ _ _ _ _ _ _ _ _ _ _ _ _ _ _ _ _ _ _ _ _ _ _ _ _ _ _ _ _ _ _ _ _ _ _ _ _ _ _ _ _ _ _ _ _ _ _ BW.out
              · go_wp2
                obtain rfl : ok = (m == m0) := by rw [OKQ.out, R7.out]; rfl
                exact HE.out _ _ _ _ _ _ _ _ _ _ _ _ _ _ _ _ _ _ _ _ _ _ _ _ _ _ _ _ _ _ _ _ _ _ _ _ _ _ _ _ _ _ _ _ _ _ _ _ _ _ _ _ _ _ _ _ _ _ _ _ _ _ _ _ _ _ _ _ _ _ _ _ _ _ _ _ _ _ _ _ BW.out

end Go.Proofs.YtgelojhpanbnaaaGreatDoor

namespace Go.Proofs.YtgelojhpanbnaaaGreatDoor
open Go.RowKit
set_option linter.unusedSimpArgs false
set_option linter.unusedVariables false

def okB (fr : Int) (mo da : List Int) (we : List (Int × Int)) (n0 m0 d0 n m d sz : Int) : Bool :=
  (((mo.length : Int) == 0) || inB mo m) && (((da.length : Int) == 0) || inB da d || inB da (d - sz - 1)) &&
  (((we.length : Int) == 0) || we.any (nthP ((d - 1) / 7 + 1) ((n - 1) % 7 + 1) (-((sz - d) / 7 + 1)) ((n - 1) % 7 + 1))) &&
  (!(zB da we && fr == 2) || (n - n0).tmod 7 == 0) && (!(zB da we && decide (3 ≤ fr)) || d == d0) &&
  (!((zB da we && decide (3 ≤ fr)) && ((mo.length : Int) == 0) && fr == 4) || m == m0)

noncomputable def dateOf (n : Int) : Int × Int × Int :=
  if h : 1 ≤ n ∧ n ≤ 109573 then (Classical.choose (Cal.ex_date n h.1 h.2), Classical.choose (Classical.choose_spec (Cal.ex_date n h.1 h.2)), Classical.choose (Classical.choose_spec (Classical.choose_spec (Cal.ex_date n h.1 h.2)))) else (1900, 1, 1)

theorem dateOf_num {y m d : Int} (h : Cal.dateB y m d = true) : dateOf (Cal.num y m d) = (y, m, d) := by
  obtain ⟨_, _, b1, b2⟩ := Cal.num_bd h
  have hh : 1 ≤ Cal.num y m d ∧ Cal.num y m d ≤ 109573 := ⟨b1, b2⟩
  rw [dateOf, dif_pos hh]
  have hs := Classical.choose_spec (Classical.choose_spec (Classical.choose_spec (Cal.ex_date (Cal.num y m d) hh.1 hh.2)))
  obtain ⟨e1, e2, e3⟩ := Cal.num_inj hs.1 h hs.2
  exact Prod.ext e1 (Prod.ext e2 e3)

noncomputable def askB (fr : Int) (mo da : List Int) (we : List (Int × Int)) (n0 n : Int) : Bool :=
  okB fr mo da we n0 (dateOf n0).2.1 (dateOf n0).2.2 n (dateOf n).2.1 (dateOf n).2.2 (Cal.dim (dateOf n).1 (dateOf n).2.1)

theorem askB_num (fr : Int) (mo da : List Int) (we : List (Int × Int)) {y0 m0 d0 y m d : Int} (h0 : Cal.dateB y0 m0 d0 = true) (h : Cal.dateB y m d = true) :
    askB fr mo da we (Cal.num y0 m0 d0) (Cal.num y m d) = okB fr mo da we (Cal.num y0 m0 d0) m0 d0 (Cal.num y m d) m d (Cal.dim y m) := by
  rw [askB, dateOf_num h0, dateOf_num h]

def daysG (p : Int → Bool) (a : Int) : Nat → List Int
  | 0 => []
  | c + 1 => daysG p a c ++ (if p (a + c) = true then [a + (c : Int)] else [])

theorem daysG_len (p : Int → Bool) (a : Int) : ∀ c, (daysG p a c).length ≤ c
  | 0 => by simp [daysG]
  | c + 1 => by
    rw [daysG, List.length_append]
    have := daysG_len p a c
    split <;> simp <;> omega

theorem daysG_yes {p : Int → Bool} {a : Int} {c : Nat} (h : p (a + c) = true) : daysG p a (c + 1) = daysG p a c ++ [a + (c : Int)] := by rw [daysG, if_pos h]
theorem daysG_no {p : Int → Bool} {a : Int} {c : Nat} (h : p (a + c) = false) : daysG p a (c + 1) = daysG p a c := by rw [daysG, if_neg (by rw [h]; simp), List.append_nil]

theorem date_at (n y m d : Int) (w : World) (hw : Months w) (h : Cal.dateB y m d = true) (hn : Cal.num y m d = n) :
    Calls Tryz.prog 234 #[.int .i64 n] w fun e w' => e = .returned (.tuple #[.agg #[.int .i64 y, .int .i64 m, .int .i64 d], .nilIface]) ∧ Below w.heap.size w w' := by
  subst hn; exact date_num y m d w hw h

theorem days_at (y m sz : Int) (w : World) (hw : Months w) (h : Cal.monthB y m = true) (hs : Cal.dim y m = sz) :
    Calls Tryz.prog 14 #[.int .i64 y, .int .i64 m] w fun e w' => e = .returned (.tuple #[.int .i64 sz, .nilIface]) ∧ w = w' := by
  subst hs; exact days_yes y m w hw h

theorem which_at (n y m d sz : Int) (w : World) (hw : Months w) (hd : Cal.dateB y m d = true) (hn : Cal.num y m d = n) (hs : Cal.dim y m = sz) :
    Calls Tryz.prog 237 #[.int .i64 n] w fun e w' => e = .returned (.tuple #[.agg #[.int .i64 ((d - 1) / 7 + 1), .int .i64 ((n - 1) % 7 + 1)], .agg #[.int .i64 (-((sz - d) / 7 + 1)), .int .i64 ((n - 1) % 7 + 1)], .nilIface]) ∧ Below w.heap.size w w' := by
  subst hn; subst hs; exact which_yes y m d w hw hd

set_option maxRecDepth 100000 in
set_option maxHeartbeats 32000000 in
theorem days_own (fr ev ct ti a b : Int) (vm vd vw vp : Value) (mo da : List Int) (we : List (Int × Int)) (pk : List Int) (y0 m0 d0 : Int) (w : World) (hw : Months w)
    (h1 : IntsR w vm mo) (h2 : IntsR w vd da) (h3 : PairsR w vw we) (h4 : IntsR w vp pk) (hd0 : Cal.dateB y0 m0 d0 = true) (hl : mo.length ≤ 12 ∧ da.length ≤ 31 ∧ we.length ≤ 20)
    (ha : 1 ≤ a ∧ a ≤ 109573) (hab : a ≤ b ∧ b ≤ a + 400) :
    Calls Tryz.prog 195 #[.agg #[.int .i64 fr, .int .i64 ev, .int .i64 ct, .int .i64 ti, vm, vd, vw, vp], .int .i64 (Cal.num y0 m0 d0), .agg #[.int .i64 a, .int .i64 b]] w
      fun e w' => ∃ r, e = .returned r ∧ (IntsR w' r (pickL (daysG (askB fr mo da we (Cal.num y0 m0 d0)) a (min b 109573 + 1 - a).toNat) pk) ∧ FreshV w.heap.size r) ∧ Below w.heap.size w w' := by
  obtain ⟨i0, hi, hz0, hz1, hz2⟩ := info_parts intInfoP
  obtain ⟨am, km, rfl, -, -, -⟩ := intsR_open h1
  obtain ⟨ad, kd, rfl, -, -, -⟩ := intsR_open h2
  obtain ⟨aw, kw, rfl, -, -, -⟩ := pairsR_open h3
  obtain ⟨ap, kp, rfl, -, -, -⟩ := intsR_open h4
  obtain ⟨l1, l2, l3⟩ := hl
  obtain ⟨a1, a2⟩ := ha
  obtain ⟨b1, b2⟩ := hab
  obtain ⟨-, -, s1, s2⟩ := Cal.num_bd hd0
  have D0 := Lib.hid hd0
  have hR := (rlAt_new w 25 fr ev ct ti _ _ _ _ mo da we pk h1 h2 h3 h4).below ((Below.refl _ _).alloc (Nat.le_refl _) (.cells #[.int .i64 a, .int .i64 b] 244))
  have hb0 : Below w.heap.size w ((w.alloc (.cells #[.int .i64 fr, .int .i64 ev, .int .i64 ct, .int .i64 ti, .slice am mo.length km, .slice ad da.length kd, .slice aw we.length kw, .slice ap pk.length kp] 25)).alloc (.cells #[.int .i64 a, .int .i64 b] 244)) := ((Below.refl _ _).alloc (Nat.le_refl _) _).alloc (by simp) _
  have hw0 := hw.below hb0
  obtain ⟨n0, hn0⟩ : ∃ n0, n0 = Cal.num y0 m0 d0 := ⟨_, rfl⟩
  obtain ⟨z, hz⟩ : ∃ z, z = zB da we := ⟨_, rfl⟩
  obtain ⟨sW, hsW⟩ : ∃ b, b = (z && fr == 2) := ⟨_, rfl⟩
  obtain ⟨sD, hsD⟩ : ∃ b, b = (z && decide (3 ≤ fr)) := ⟨_, rfl⟩
  obtain ⟨sM, hsM⟩ : ∃ b, b = (sD && ((mo.length : Int) == 0) && fr == 4) := ⟨_, rfl⟩
  have Z := Lib.hid hz; have SW := Lib.hid hsW; have SD := Lib.hid hsD; have SM := Lib.hid hsM
  rw [← hn0] at s1 s2
  rw [← hn0]
  have N0 := Lib.hid hn0
  clear hz hsW hsD hsM h1 h2 h3 h4 hw hn0 hd0
  go_enter Tryz.func195, Tryz.ntmps195
  go_wp2_with fail
  rw [N0.out]
  refine (date_num y0 m0 d0 _ hw0 D0.out).mono ?_; rintro e w1 ⟨rfl, hb1⟩
  rw [← N0.out]
  have hs1 := hb1.size; simp at hs1
  have e0 := hb1.cell (p := ⟨w.heap.size + 1, 0, none⟩) (by simp)
  have e1 := hb1.cell (p := ⟨w.heap.size + 1, 1, none⟩) (by simp)
  simp at e0 e1
  have hR1 := (hR.below hb1).below ((Below.refl _ _).alloc (Nat.le_refl _) (.cells #[.int .i64 y0, .int .i64 m0, .int .i64 d0] 41))
  have hw1 := (hw0.below hb1).alloc (.cells #[.int .i64 y0, .int .i64 m0, .int .i64 d0] 41)
  have e0 := cell_below ((Below.refl _ _).alloc (Nat.le_refl _) (.cells #[.int .i64 y0, .int .i64 m0, .int .i64 d0] 41)) e0
  have e1 := cell_below ((Below.refl _ _).alloc (Nat.le_refl _) (.cells #[.int .i64 y0, .int .i64 m0, .int .i64 d0] 41)) e1
  have g1 : (w1.alloc (.cells #[.int .i64 y0, .int .i64 m0, .int .i64 d0] 41)).cell? ⟨w1.heap.size, 1, none⟩ = some (.int .i64 m0) := by simp
  have g2 : (w1.alloc (.cells #[.int .i64 y0, .int .i64 m0, .int .i64 d0] 41)).cell? ⟨w1.heap.size, 2, none⟩ = some (.int .i64 d0) := by simp
  have hbb : Below w.heap.size w (w1.alloc (.cells #[.int .i64 y0, .int .i64 m0, .int .i64 d0] 41)) := (hb0.trans (hb1.mono hb0.size)).alloc (by have := hb0.size; simp at this; omega) _
  clear hb1 hR hb0 hw0
  go_upto_region 2 with fail
  obtain ⟨wl, hwl⟩ : ∃ wl, wl = w1.alloc (.cells #[.int .i64 y0, .int .i64 m0, .int .i64 d0] 41) := ⟨_, rfl⟩
  rw [← hwl] at hR1 hw1 e0 e1 g1 g2 hbb
  rw [← hwl]
  obtain ⟨fb, hfb⟩ : ∃ fb, fb = w1.heap.size := ⟨_, rfl⟩
  rw [← hfb] at g1 g2
  rw [← hfb]
  clear hwl hfb hs1
  have HR := Lib.hid hR1; have HW := Lib.hid hw1; have B := Lib.hid hbb
  obtain ⟨⟨c0, c1, c2, c3, c4, c5, c6, c7⟩, _, hl0⟩ := id hR1
  clear hR1 hw1 hbb
  go_cut [9] (fun s9 wx => s9 = .bool sW ∧ wl = wx)
  case first => as_aux_lemma =>
    cases z
    · have hz : ((da.length : Int) + (we.length : Int) == 0) = false := Z.out.symm
      go_wp2
      go_meet
      exact ⟨by rw [SW.out]; rfl, rfl⟩
    · have hz : ((da.length : Int) + (we.length : Int) == 0) = true := Z.out.symm
      go_wp2
      go_meet
      exact ⟨by rw [SW.out]; simp, rfl⟩
  case rest =>
  obtain ⟨rfl, rfl⟩ := hcut
  go_upto_region 3 with fail
  go_cut [10] (fun s10 wx => s10 = .bool sD ∧ wl = wx)
  case first => as_aux_lemma =>
    cases z
    · have hz : ((da.length : Int) + (we.length : Int) == 0) = false := Z.out.symm
      go_wp2
      go_meet
      exact ⟨by rw [SD.out]; rfl, rfl⟩
    · have hz : ((da.length : Int) + (we.length : Int) == 0) = true := Z.out.symm
      go_wp2
      go_meet
      exact ⟨by rw [SD.out]; simp, rfl⟩
  case rest =>
  obtain ⟨rfl, rfl⟩ := hcut
  go_upto_region 4 with fail
  go_cut [11] (fun s11 wx => s11 = .bool sM ∧ wl = wx)
  case first => as_aux_lemma =>
    cases sD
    · go_wp2
      go_meet
      exact ⟨by rw [SM.out]; rfl, rfl⟩
    · cases hp : ((mo.length : Int) == 0)
      · have SM2 := Lib.hid (show sM = false by rw [SM.out, hp]; rfl)
        go_wp2
        go_meet
        exact ⟨by rw [SM2.out], rfl⟩
      · have SM2 := Lib.hid (show sM = (fr == 4) by rw [SM.out, hp]; rfl)
        go_wp2
        go_meet
        exact ⟨by rw [SM2.out], rfl⟩
  case rest =>
  obtain ⟨rfl, rfl⟩ := hcut
  clear c0 c1 c2 c3 c4 c5 c6 c7
  go_upto_region 6 with fail
  go_cut [13] (fun s13 wx => s13 = .int .i64 a ∧ wl = wx)
  case first => as_aux_lemma =>
    go_wp2
    all_goals
      go_meet
      exact ⟨by first | rfl | exact congrArg (Value.int .i64) (by omega), rfl⟩
  case rest =>
  obtain ⟨rfl, rfl⟩ := hcut
  obtain ⟨cnt, hcnt⟩ : ∃ cnt, cnt = (min b 109573 + 1 - a).toNat := ⟨_, rfl⟩
  have hcb : (cnt : Int) = min b 109573 + 1 - a := by omega
  have hc4 : cnt ≤ 401 := by omega
  obtain ⟨hi2, hhi⟩ : ∃ x, x = min b 109573 := ⟨_, rfl⟩
  rw [← hhi] at hcb
  have CN := Lib.hid hcnt
  have HI := Lib.hid hhi
  have hh1 : hi2 ≤ 109573 := by omega
  have hh2 : a ≤ hi2 := by omega
  have CB := Lib.hid hcb
  clear hcnt hhi hcb
  obtain ⟨ask, hask⟩ : ∃ ask, ask = askB fr mo da we n0 := ⟨_, rfl⟩
  have ASK := Lib.hid hask; clear hask
  have E01 := Lib.hid (And.intro e0 e1); have G12 := Lib.hid (And.intro g1 g2)
  clear e0 e1 g1 g2
  go_wp2_with fail
  go_loopg [12, 13] cnt (fun g ov nv wr => ∃ c : Nat, nv = .int .i64 (a + c) ∧ c ≤ cnt ∧ g = cnt - c ∧ wr.ownsRow wl.heap.size 3 1 ov (daysG ask a c).length ((daysG ask a c).map (Value.int .i64)) ∧ Below wl.heap.size wl wr)
  case atStart => exact ⟨0, by simp, Nat.zero_le _, rfl, World.ownsRow_nil _ _ _ _, Below.refl _ _⟩
  case round =>
    obtain ⟨c, hnv, hc, hg, hown, hb⟩ := hrel
    obtain ⟨n, hn⟩ : ∃ n, n = a + (c : Int) := ⟨_, rfl⟩
    rw [← hn] at hnv
    subst hnv
    have hna : 1 ≤ n := by omega
    have hnb : n ≤ 110000 := by omega
    have hnc : decide (n ≤ hi2) = decide (c < cnt) := by have := CB.out; rw [decide_eq_decide]; omega
    have N := Lib.hid hn; have NC := Lib.hid hnc
    have G := Lib.hid hg; have OW := Lib.hid hown; have BL := Lib.hid hb
    have e1 := cell_below hb E01.out.2
    have CL := Lib.hid hc
    clear hg hown hb hn hnc hc
    go_upto_region 7 with fail
    go_cut [73] (fun s73 wx => s73 = .bool (decide (n ≤ hi2)) ∧ Below wr.heap.size wr wx)
    case first => as_aux_lemma =>
      have hm : hi2 = min b 109573 := HI.out
      go_quiet ((go_at_call 23; exact quiet_l (last_any _)))
      go_wp2
      all_goals
        go_meet
        exact ⟨congrArg Value.bool (by first | rfl | (rw [decide_eq_decide]; omega) | (simp; omega)), below_drewN (Below.refl _ _) _⟩
    case rest =>
    obtain ⟨rfl, hb7⟩ := hcut
    obtain ⟨wa, rfl⟩ : ∃ wa, wa = wc := ⟨_, rfl⟩
    have OW := Lib.hid (own_kept OW.out hb7)
    have BL := Lib.hid (BL.out.trans (hb7.mono BL.out.size))
    clear hb7 e1
    by_cases hlt : c < cnt
    · have hle : n ≤ hi2 := by have := NC.out; rw [decide_eq_true hlt] at this; exact of_decide_eq_true this
      obtain ⟨y, m, d, hd, hnum⟩ := Cal.ex_date n hna (by omega)
      obtain ⟨hm, q1, q2⟩ := Cal.date_yes hd
      have hdb := Cal.dim_bd y m
      obtain ⟨sz, hsz⟩ : ∃ sz, Cal.dim y m = sz := ⟨_, rfl⟩
      rw [hsz] at hdb q2
      have D := Lib.hid hd; have NU := Lib.hid hnum; have M := Lib.hid hm; have SZ := Lib.hid hsz
      have hw2 := HW.out.below BL.out
      clear hd hnum hm hsz
      go_wp2_with fail
      refine (date_at n y m d _ hw2 D.out NU.out).mono ?_; rintro e w2 ⟨rfl, hb2⟩
      have hw3 := (hw2.below hb2).alloc (.cells #[.int .i64 y, .int .i64 m, .int .i64 d] 41)
      clear hw2
      go_wp2_with fail
      refine (days_at y m sz _ hw3 M.out SZ.out).mono ?_; rintro e w' ⟨rfl, rfl⟩
      go_wp2_with fail
      refine (which_at n y m d sz _ hw3 D.out NU.out SZ.out).mono ?_; rintro e w3 ⟨rfl, hb3⟩
      have hs2 := hb2.size
      have hs3 := hb3.size; simp at hs3
      have f1 := hb3.cell (p := ⟨w2.heap.size, 1, none⟩) (by simp)
      have f2 := hb3.cell (p := ⟨w2.heap.size, 2, none⟩) (by simp)
      simp at f1 f2
      have hb23 : Below wa.heap.size wa w3 := (hb2.alloc hb2.size _).trans (hb3.mono (by simp; omega))
      clear hb3 hb2 hw3
      go_upto_region 12 with fail
      obtain ⟨wn, hwn⟩ : ∃ wn, wn = (w3.alloc (.cells #[.int .i64 ((d - 1) / 7 + 1), .int .i64 ((n - 1) % 7 + 1)] 198)).alloc (.cells #[.int .i64 (-((sz - d) / 7 + 1)), .int .i64 ((n - 1) % 7 + 1)] 198) := ⟨_, rfl⟩
      have hbn : Below wa.heap.size wa wn := by rw [hwn]; exact (hb23.alloc hb23.size _).alloc (by have := hb23.size; simp; omega) _
      have h3n : Below w3.heap.size w3 wn := by rw [hwn]; exact ((Below.refl _ _).alloc (Nat.le_refl _) _).alloc (by simp) _
      have hnt : Nths wn w3.heap.size (w3.heap.size + 1) ((d - 1) / 7 + 1) ((n - 1) % 7 + 1) (-((sz - d) / 7 + 1)) ((n - 1) % 7 + 1) := by rw [hwn]; exact ⟨⟨by simp, by simp⟩, by simp, by simp⟩
      rw [← hwn]
      have hbl : Below wl.heap.size wl wn := BL.out.trans (hbn.mono BL.out.size)
      obtain ⟨⟨_, _, _, _, c4, c5, c6, _⟩, ⟨Lm, Ld, Lw, _⟩, _⟩ := HR.out
      have K := Lib.hid (show DayAt wn w.heap.size fb w2.heap.size w3.heap.size _ _ _ m0 d0 m d _ _ _ _ from ⟨⟨cell_below hbl c4, cell_below hbl c5, cell_below hbl c6⟩, ⟨cell_below hbl G12.out.1, cell_below hbl G12.out.2⟩, ⟨cell_below h3n f1, cell_below h3n f2⟩, hnt⟩)
      have LM := Lib.hid (Lm.below hbl); have LD := Lib.hid (Ld.below hbl); have LW := Lib.hid (Lw.below hbl)
      have BN := Lib.hid hbn
      have BW := Lib.hid (Below.refl wn.heap.size wn)
      obtain ⟨db, hdb2⟩ : ∃ x, x = w2.heap.size := ⟨_, rfl⟩
      obtain ⟨pb, hpb⟩ : ∃ x, x = w3.heap.size := ⟨_, rfl⟩
      rw [← hdb2, ← hpb]
      rw [← hdb2, ← hpb] at K
      clear hdb2 hpb hbn h3n hnt hwn hbl c4 c5 c6 Lm Ld Lw f1 f2 hb23 hs2 hs3
      obtain ⟨ok, hok⟩ : ∃ ok, ok = okB fr mo da we n0 m0 d0 n m d sz := ⟨_, rfl⟩
      have AK := Lib.hid (show ask n = ok by rw [hok, ASK.out, N0.out, ← NU.out, ← SZ.out, askB_num _ _ _ _ D0.out D.out])
      have OKH := Lib.hid (show ok = ((((((((mo.length : Int) == 0) || inB mo m) && (((da.length : Int) == 0) || inB da d || inB da (d - sz - 1))) && (((we.length : Int) == 0) || we.any (nthP ((d - 1) / 7 + 1) ((n - 1) % 7 + 1) (-((sz - d) / 7 + 1)) ((n - 1) % 7 + 1)))) && (!sW || (n - n0).tmod 7 == 0)) && (!sD || d == d0)) && (!sM || m == m0)) by
        rw [hok, okB, SM.out, SD.out, SW.out, Z.out])
      clear hok
      go_cut [21] (fun s21 wx => s21 = .bool ok ∧ Below wn.heap.size wn wx)
      case first => as_aux_lemma =>
        rename_i J0 K0 hJ0 hK0
        refine reg12_wp K0 _ w.heap.size fb db pb km kd kw am ad aw mo da we n0 m0 d0 n m d sz sW sD sM wn _ _ _ _ _ _ _ _ _ _ _ _ _ _ _ _ _ _ _ _ _ _ _ _ _ _ _ _ _ _ _ _ _ _ _ _ _ _ _ _ _ _ _ _ _ _ _ _ _ _ _ _ _ _ _ _ _ _ _ _ _ _ _ _ _ _ _ _ _ _ _ _ _ _ _ _ _ _ _ _ _ _ _ _ _ _ _ _ _ _ _ _ _ _ _ _ _ _ _ _ _ _ _ _ _ _ _ _ _ _ _ _ _ _ _ _ _ _ _ _ _ _ _ _ _ _ _ _ _ _ _ _ _ _ _ _ _ _ _ _ _ _ _ _ _ _ _ _ _ _ _ _ _ _ _ _ _ _ _ _ _ _ _ _ _ _ _ _ _ _ _ _ K.out LM.out LD.out LW.out ⟨hna, by omega⟩ ⟨s1, s2⟩ ⟨q1, by omega⟩ hdb ⟨l1, l2, l3⟩ ?_
        intro v95 v96 v97 v98 v99 v100 v101 v102 v103 v104 v105 v106 v107 v108 v109 v110 v111 v112 v113 v114 v115 v116 v117 v118 v119 v120 v121 v122 v123 v124 v125 v126 v127 v128 v129 v130 v131 v132 v133 v134 v135 v136 v137 v138 v139 v140 v141 v142 v143 v144 v145 v146 v147 v148 v149 v150 v151 v152 v153 v154 v155 v156 v157 v158 v159 v160 v161 v162 v163 v164 v165 v166 v167 v168 v169 v170 v171 v172 v173 w' hb12
        refine hK0 _ _ ?_
        go_meet
        exact ⟨congrArg Value.bool OKH.out.symm, hb12⟩
      case rest =>
      obtain ⟨rfl, hb12⟩ := hcut
      have hbn2 := BN.out.trans (hb12.mono BN.out.size)
      have OW3 := Lib.hid (own_kept OW.out hbn2)
      have BL3 := Lib.hid (BL.out.trans (hbn2.mono BL.out.size))
      have hwc := BL3.out.size
      clear hb12 hbn2
      cases ok
      · have E := Lib.hid (daysG_no (p := ask) (a := a) (c := c) (by rw [← N.out]; exact AK.out))
        go_wp2
        go_roundg (cnt - (c + 1))
        case measure => rw [G.out]; omega
        case rel => exact ⟨c + 1, congrArg (Value.int .i64) (by have := N.out; omega), by omega, rfl, by rw [E.out]; exact OW3.out, BL3.out⟩
      · have E := Lib.hid (daysG_yes (p := ask) (a := a) (c := c) (by rw [← N.out]; exact AK.out))
        obtain ⟨done, hdone⟩ : ∃ done, done = daysG ask a c := ⟨_, rfl⟩
        have hdl : done.length ≤ 401 := by rw [hdone]; exact Nat.le_trans (daysG_len _ _ _) (by have := CL.out; omega)
        have hown := OW3.out
        rw [← hdone] at hown
        have DN := Lib.hid hdone; clear hdone
        go_wp2_with (at_builtin; refine wpList_append_lies _ rfl _ _ 22 rfl wl.heap.size 3 i0 _ 1 8 Tryz.underlying22 hi hz0 hz1 hz2 rfl (by decide) _ _ _ rfl (hown.alloc _) ⟨wc.heap.size, 0, none⟩ 1 1 [.int .i64 n] rfl rfl ?d1 ?d2 (by decide) (by unfold maxLen; omega) (by omega) (by simp; omega) _ rfl ?_)
        case d1 => exact cell_one_new _ _ _
        case d2 => intro u hu; simp at hu; subst hu; rfl
        intro g3 cap3 w5 hown3 hgrow3 hat3 hlt3
        have hB3 := Lib.hid ((BL3.out.alloc hwc (.cells #[.int .i64 n] 3)).grown hgrow3 (by simp; omega) (fun c hc => (hown.lt c hc).1))
        have O3 := Lib.hid hown3
        clear hown3 hgrow3 hat3 hlt3 hown
        go_wp2
        go_roundg (cnt - (c + 1))
        case measure => rw [G.out]; omega
        case rel => exact ⟨c + 1, congrArg (Value.int .i64) (by have := N.out; omega), by omega, rfl, by rw [E.out, ← DN.out, ← N.out, List.length_append, List.map_append]; exact O3.out, hB3.out⟩
    · have hle : hi2 < n := by have := of_decide_eq_false (NC.out.trans (decide_eq_false hlt)); omega
      have hce : c = cnt := by have := CL.out; omega
      obtain ⟨⟨_, _, _, _, _, _, _, c7⟩, ⟨_, _, _, Lp⟩, _⟩ := HR.out
      have c7 := cell_below BL.out c7
      have LP := Lib.hid (Lp.below BL.out)
      have HO := Lib.hid (intsR_of_owns OW.out)
      have CE := Lib.hid hce
      have C4 := Lib.hid hc4
      clear Lp hce
      go_wp2_with fail
      refine (pick_own _ _ (daysG ask a c) pk _ HO.out LP.out (Nat.le_trans (daysG_len _ _ _) (by have := C4.out; have := CE.out; omega))).mono ?_; rintro e w5 ⟨r, rfl, ⟨hr, hfr⟩, hb5⟩
      have FV := Lib.hid (show FreshV w.heap.size r from by
        rcases hfr with rfl | hfr
        · exact fun g hg => Nat.le_trans B.out.size (ownBlock_ge OW.out g hg)
        · exact fun g hg => Nat.le_trans (Nat.le_trans B.out.size BL.out.size) (hfr g hg))
      have HRR := Lib.hid hr; clear hfr
      have B5 := Lib.hid (B.out.trans ((BL.out.trans (hb5.mono BL.out.size)).mono B.out.size))
      clear hr hb5 c7
      go_wp2
      go_ret
      exact ⟨r, rfl, ⟨by rw [← CN.out, ← ASK.out, ← CE.out]; exact HRR.out, FV.out⟩, B5.out⟩

end Go.Proofs.YtgelojhpanbnaaaGreatDoor
