/- The region of period.days that tests a day. (printed by gen_perr.py) -/
import Derived.Test.YtkpmddlinlcobaaGreatDoorQ10
import Derived.Test.YtkpmddlinlcobaaGreatDoorQ05
namespace Go.Proofs.YtkpmddlinlcobaaGreatDoor
open Go.RowKit
set_option linter.unusedSimpArgs false
set_option linter.unusedVariables false

def findReg (i : Nat) : Code → Option Code
  | .region j ops d => if i = j then some (.region j ops d) else none
  | .seq a b => match findReg i a with
    | some c => some c
    | none => findReg i b
  | .block _ c => findReg i c
  | .loop c => findReg i c
  | .scope c => findReg i c
  | .cond _ a b => match findReg i a with
    | some c => some c
    | none => findReg i b
  | _ => none

noncomputable def reg12 : Code := (Tryz.f183.body.bind (findReg 12)).getD .skip

/-- does a rule without a day or a weekday ask for the first day's own? -/
def zB (da : List Int) (we : List (Int × Int)) : Bool := ((da.length : Int) + (we.length : Int) == 0)

/-- what the test of a day reads. -/
def DayAt (wx : World) (rb fb db p : Nat) (vm vd vw : Value) (m0 d0 m d a1 a2 b1 b2 : Int) : Prop :=
  (wx.cell? ⟨rb, 4, none⟩ = some vm ∧ wx.cell? ⟨rb, 5, none⟩ = some vd ∧ wx.cell? ⟨rb, 6, none⟩ = some vw) ∧ (wx.cell? ⟨fb, 1, none⟩ = some (.int .i64 m0) ∧ wx.cell? ⟨fb, 2, none⟩ = some (.int .i64 d0)) ∧
    (wx.cell? ⟨db, 1, none⟩ = some (.int .i64 m) ∧ wx.cell? ⟨db, 2, none⟩ = some (.int .i64 d)) ∧ Nths wx p (p + 1) a1 a2 b1 b2

theorem DayAt.below {w w' : World} {rb fb db p : Nat} {vm vd vw : Value} {m0 d0 m d a1 a2 b1 b2 : Int} (h : DayAt w rb fb db p vm vd vw m0 d0 m d a1 a2 b1 b2) (hb : Below w.heap.size w w') : DayAt w' rb fb db p vm vd vw m0 d0 m d a1 a2 b1 b2 := by
  obtain ⟨⟨x1, x2, x3⟩, ⟨x4, x5⟩, ⟨x6, x7⟩, x8⟩ := h
  exact ⟨⟨cell_below hb x1, cell_below hb x2, cell_below hb x3⟩, ⟨cell_below hb x4, cell_below hb x5⟩, ⟨cell_below hb x6, cell_below hb x7⟩, x8.below hb⟩

set_option maxRecDepth 100000 in
set_option maxHeartbeats 16000000 in
theorem reg12_wp (K' : Act → World → Prop) (Q' : Exit → Act → World → Prop) (rb fb db pb km kd kw : Nat) (am ad aw : Option Addr) (mo da : List Int) (we : List (Int × Int)) (n0 m0 d0 n m d sz : Int) (sW sD sM : Bool) (wn : World)
    (s0 s2 s4 s5 s6 s8 s12 s15 s17 s20 s21 s22 s23 s24 s25 s26 s27 s28 s29 s30 s31 s32 s33 s34 s35 s36 s37 s38 s39 s40 s41 s42 s43 s44 s45 s46 s47 s48 s49 s50 s51 s52 s53 s54 s55 s56 s57 s58 s59 s60 s61 s62 s63 s64 s65 s66 s67 s68 s69 s70 s71 s72 s73 s74 s75 s76 s77 s78 s79 s80 s81 s82 s83 s84 s85 s86 s87 s88 s89 s90 s91 s92 s93 s94 s95 s96 s97 s98 s99 s100 s101 s102 s103 s104 s105 s106 s107 s108 s109 s110 s111 s112 s113 s114 s115 s116 s117 s118 s119 s120 s121 s122 s123 s124 s125 s126 s127 s128 s129 s130 s131 s132 s133 s134 s135 s136 s137 s138 s139 s140 s141 s142 s143 s144 s145 s146 s147 s148 s149 s150 s151 s152 s153 s154 s155 s156 s157 s158 s159 s160 s161 s162 s163 s164 s165 s166 s167 s168 s169 s170 s171 s172 s173 s174 s175 s176 s177 s178 s179 s180 s181 s182 : Value)
    (hK0 : DayAt wn rb fb db pb (.slice am mo.length km) (.slice ad da.length kd) (.slice aw we.length kw) m0 d0 m d ((d - 1) / 7 + 1) ((n - 1) % 7 + 1) (-((sz - d) / 7 + 1)) ((n - 1) % 7 + 1))
    (LM0 : IntsR wn (.slice am mo.length km) mo) (LD0 : IntsR wn (.slice ad da.length kd) da) (LW0 : PairsR wn (.slice aw we.length kw) we)
    (hn : 1 ≤ n ∧ n ≤ 109573) (hn0 : 1 ≤ n0 ∧ n0 ≤ 109573) (hd : 1 ≤ d ∧ d ≤ 31) (hsz : 28 ≤ sz ∧ sz ≤ 31) (hlen : mo.length ≤ 12 ∧ da.length ≤ 31 ∧ we.length ≤ 20)
    (hend : ∀ (v95 v96 v97 v98 v99 v100 v101 v102 v103 v104 v105 v106 v107 v108 v109 v110 v111 v112 v113 v114 v115 v116 v117 v118 v119 v120 v121 v122 v123 v124 v125 v126 v127 v128 v129 v130 v131 v132 v133 v134 v135 v136 v137 v138 v139 v140 v141 v142 v143 v144 v145 v146 v147 v148 v149 v150 v151 v152 v153 v154 v155 v156 v157 v158 v159 v160 v161 v162 v163 v164 v165 v166 v167 v168 v169 v170 v171 v172 v173 : Value) (w' : World), Below wn.heap.size wn w' → K' ⟨#[s0, .int .i64 n0, s2, .pointer (some ⟨rb, 0, none⟩), s4, s5, s6, .pointer (some ⟨fb, 0, none⟩), s8, .bool sW, .bool sD, .bool sM, s12, .int .i64 n, .pointer (some ⟨db, 0, none⟩), s15, .int .i64 sz, s17, .pointer (some ⟨pb, 0, none⟩), .pointer (some ⟨pb + 1, 0, none⟩), s20, .bool ((((((((mo.length : Int) == 0) || inB mo m) && (((da.length : Int) == 0) || inB da d || inB da (d - sz - 1))) && (((we.length : Int) == 0) || we.any (nthP ((d - 1) / 7 + 1) ((n - 1) % 7 + 1) (-((sz - d) / 7 + 1)) ((n - 1) % 7 + 1)))) && (!sW || (n - n0).tmod 7 == 0)) && (!sD || d == d0)) && (!sM || m == m0)), s22, s23, s24, s25, s26, s27, s28, s29, s30, s31, s32, s33, s34, s35, s36, s37, s38, s39, s40, s41, s42, s43, s44, s45, s46, s47, s48, s49, s50, s51, s52, s53, s54, s55, s56, s57, s58, s59, s60, s61, s62, s63, s64, s65, s66, s67, s68, s69, s70, s71, s72, s73, s74, s75, s76, s77, s78, s79, s80, s81, s82, s83, s84, s85, s86, s87, s88, s89, s90, s91, s92, s93, s94, v95, v96, v97, v98, v99, v100, v101, v102, v103, v104, v105, v106, v107, v108, v109, v110, v111, v112, v113, v114, v115, v116, v117, v118, v119, v120, v121, v122, v123, v124, v125, v126, v127, v128, v129, v130, v131, v132, v133, v134, v135, v136, v137, v138, v139, v140, v141, v142, v143, v144, v145, v146, v147, v148, v149, v150, v151, v152, v153, v154, v155, v156, v157, v158, v159, v160, v161, v162, v163, v164, v165, v166, v167, v168, v169, v170, v171, v172, v173, s174, s175, s176, s177, s178, s179, s180, s181, s182], []⟩ w') :
    Code.wp Tryz.prog reg12 (Exit.then K' Q') ⟨#[s0, .int .i64 n0, s2, .pointer (some ⟨rb, 0, none⟩), s4, s5, s6, .pointer (some ⟨fb, 0, none⟩), s8, .bool sW, .bool sD, .bool sM, s12, .int .i64 n, .pointer (some ⟨db, 0, none⟩), s15, .int .i64 sz, s17, .pointer (some ⟨pb, 0, none⟩), .pointer (some ⟨pb + 1, 0, none⟩), s20, s21, s22, s23, s24, s25, s26, s27, s28, s29, s30, s31, s32, s33, s34, s35, s36, s37, s38, s39, s40, s41, s42, s43, s44, s45, s46, s47, s48, s49, s50, s51, s52, s53, s54, s55, s56, s57, s58, s59, s60, s61, s62, s63, s64, s65, s66, s67, s68, s69, s70, s71, s72, s73, s74, s75, s76, s77, s78, s79, s80, s81, s82, s83, s84, s85, s86, s87, s88, s89, s90, s91, s92, s93, s94, s95, s96, s97, s98, s99, s100, s101, s102, s103, s104, s105, s106, s107, s108, s109, s110, s111, s112, s113, s114, s115, s116, s117, s118, s119, s120, s121, s122, s123, s124, s125, s126, s127, s128, s129, s130, s131, s132, s133, s134, s135, s136, s137, s138, s139, s140, s141, s142, s143, s144, s145, s146, s147, s148, s149, s150, s151, s152, s153, s154, s155, s156, s157, s158, s159, s160, s161, s162, s163, s164, s165, s166, s167, s168, s169, s170, s171, s172, s173, s174, s175, s176, s177, s178, s179, s180, s181, s182], []⟩ wn := by
  obtain ⟨l1, l2, l3⟩ := hlen
  obtain ⟨h1, h2⟩ := hn
  obtain ⟨h3, h4⟩ := hn0
  obtain ⟨h5, h6⟩ := hd
  obtain ⟨h7, h8⟩ := hsz
  have K := Lib.hid hK0; have KK := Lib.hid hK0
  have BW := Lib.hid (Below.refl wn.heap.size wn)
  have LM := Lib.hid LM0; have LD := Lib.hid LD0; have LW := Lib.hid LW0; have HE := Lib.hid hend
  clear hK0 LM0 LD0 LW0 hend
  obtain ⟨t1, ht1⟩ : ∃ x, x = ((mo.length : Int) == 0) := ⟨_, rfl⟩
  obtain ⟨t2, ht2⟩ : ∃ x, x = ((da.length : Int) == 0) := ⟨_, rfl⟩
  obtain ⟨t3, ht3⟩ : ∃ x, x = ((we.length : Int) == 0) := ⟨_, rfl⟩
  obtain ⟨r1, hr1⟩ : ∃ x, x = inB mo m := ⟨_, rfl⟩
  obtain ⟨r2, hr2⟩ : ∃ x, x = inB da d := ⟨_, rfl⟩
  obtain ⟨r3, hr3⟩ : ∃ x, x = inB da (d - sz - 1) := ⟨_, rfl⟩
  obtain ⟨r4, hr4⟩ : ∃ x, x = we.any (nthP ((d - 1) / 7 + 1) ((n - 1) % 7 + 1) (-((sz - d) / 7 + 1)) ((n - 1) % 7 + 1)) := ⟨_, rfl⟩
  obtain ⟨r5, hr5⟩ : ∃ x, x = ((n - n0).tmod 7 == 0) := ⟨_, rfl⟩
  obtain ⟨r6, hr6⟩ : ∃ x, x = (d == d0) := ⟨_, rfl⟩
  obtain ⟨r7, hr7⟩ : ∃ x, x = (m == m0) := ⟨_, rfl⟩
  obtain ⟨q1, hq1⟩ : ∃ x, x = (t1 || r1) := ⟨_, rfl⟩
  obtain ⟨q2, hq2⟩ : ∃ x, x = (q1 && (t2 || r2 || r3)) := ⟨_, rfl⟩
  obtain ⟨q3, hq3⟩ : ∃ x, x = (q2 && (t3 || r4)) := ⟨_, rfl⟩
  obtain ⟨q4, hq4⟩ : ∃ x, x = (q3 && (!sW || r5)) := ⟨_, rfl⟩
  obtain ⟨q5, hq5⟩ : ∃ x, x = (q4 && (!sD || r6)) := ⟨_, rfl⟩
  obtain ⟨ok, hok⟩ : ∃ x, x = (q5 && (!sM || r7)) := ⟨_, rfl⟩
  rw [← ht1, ← hr1, ← ht2, ← hr2, ← hr3, ← ht3, ← hr4, ← hr5, ← hr6, ← hr7, ← hq1, ← hq2, ← hq3, ← hq4, ← hq5, ← hok] at HE
  have T1 := Lib.hid ht1; have T2 := Lib.hid ht2; have T3 := Lib.hid ht3
  have R1 := Lib.hid hr1; have R2 := Lib.hid hr2; have R3 := Lib.hid hr3; have R4 := Lib.hid hr4; have R5 := Lib.hid hr5; have R6 := Lib.hid hr6; have R7 := Lib.hid hr7
  have Q1 := Lib.hid hq1; have Q2 := Lib.hid hq2; have Q3 := Lib.hid hq3; have Q4 := Lib.hid hq4; have Q5 := Lib.hid hq5; have OKQ := Lib.hid hok
  clear hok ht1 ht2 ht3 hr1 hr2 hr3 hr4 hr5 hr6 hr7 hq1 hq2 hq3 hq4 hq5
  conv => arg 2; whnf
  refine wp_region_lit ?_
  refine wpList_cutF 12 95 12 (fun f wx => f 11 = .bool q1 ∧ Below wn.heap.size wn wx) ?_ ?_ (Nat.le_of_ble_eq_true rfl)
  · intro J hJ
    simp only [List.append_eq, List.take_succ_cons, List.take_zero, List.drop_succ_cons, List.drop_zero, List.cons_append, List.nil_append]
    obtain ⟨⟨c4, c5, c6⟩, ⟨g1, g2⟩, ⟨f1, f2⟩, hN⟩ := id K.out
    cases t1
    · have x1 := T1.out.symm
      go_wp2_with fail
      refine (scont_any _ mo _ _ (LM.out.below BW.out)).mono ?_; rintro e w4 ⟨rfl, hb4⟩
      rw [← R1.out]
      have K := Lib.hid (K.out.below hb4); have BW := Lib.hid (BW.out.trans (hb4.mono BW.out.size))
      clear hb4 c4 c5 c6 g1 g2 f1 f2 hN
      obtain ⟨⟨c4, c5, c6⟩, ⟨g1, g2⟩, ⟨f1, f2⟩, hN⟩ := id K.out
      go_wp2
      refine AtEnd.intro (hJ _ _ rfl rfl rfl ⟨?_, BW.out⟩)
      exact congrArg Value.bool (by rw [Q1.out]; first | rfl | simp)
    · have x1 := T1.out.symm
      go_wp2
      refine AtEnd.intro (hJ _ _ rfl rfl rfl ⟨?_, BW.out⟩)
      exact congrArg Value.bool (by rw [Q1.out]; first | rfl | simp)
  · rintro f wx ⟨hq, hb⟩
    simp only [List.append_eq, List.take_succ_cons, List.take_zero, List.drop_succ_cons, List.drop_zero, List.cons_append, List.nil_append, map_12, hq]
    have K := Lib.hid (KK.out.below hb); have BW := Lib.hid hb
    clear hq hb
    refine wpList_cutF 23 107 23 (fun f wx => f 22 = .bool q2 ∧ Below wn.heap.size wn wx) ?_ ?_ (Nat.le_of_ble_eq_true rfl)
    · intro J hJ
      simp only [List.append_eq, List.take_succ_cons, List.take_zero, List.drop_succ_cons, List.drop_zero, List.cons_append, List.nil_append]
      obtain ⟨⟨c4, c5, c6⟩, ⟨g1, g2⟩, ⟨f1, f2⟩, hN⟩ := id K.out
      cases q1
      · go_wp2
        refine AtEnd.intro (hJ _ _ rfl rfl rfl ⟨?_, BW.out⟩)
        exact congrArg Value.bool (by rw [Q2.out]; first | rfl | simp)
      · cases t2
        · have x2 := T2.out.symm
          go_wp2_with fail
          refine (scont_any _ da _ _ (LD.out.below BW.out)).mono ?_; rintro e w4 ⟨rfl, hb4⟩
          rw [← R2.out]
          have K := Lib.hid (K.out.below hb4); have BW := Lib.hid (BW.out.trans (hb4.mono BW.out.size))
          clear hb4 c4 c5 c6 g1 g2 f1 f2 hN
          obtain ⟨⟨c4, c5, c6⟩, ⟨g1, g2⟩, ⟨f1, f2⟩, hN⟩ := id K.out
          cases r2
          · go_wp2_with fail
            refine (scont_any _ da _ _ (LD.out.below BW.out)).mono ?_; rintro e w4 ⟨rfl, hb4⟩
            rw [← R3.out]
            have K := Lib.hid (K.out.below hb4); have BW := Lib.hid (BW.out.trans (hb4.mono BW.out.size))
            clear hb4 c4 c5 c6 g1 g2 f1 f2 hN
            obtain ⟨⟨c4, c5, c6⟩, ⟨g1, g2⟩, ⟨f1, f2⟩, hN⟩ := id K.out
            go_wp2
            refine AtEnd.intro (hJ _ _ rfl rfl rfl ⟨?_, BW.out⟩)
            exact congrArg Value.bool (by rw [Q2.out]; first | rfl | simp)
          · go_wp2
            refine AtEnd.intro (hJ _ _ rfl rfl rfl ⟨?_, BW.out⟩)
            exact congrArg Value.bool (by rw [Q2.out]; first | rfl | simp)
        · have x2 := T2.out.symm
          go_wp2
          refine AtEnd.intro (hJ _ _ rfl rfl rfl ⟨?_, BW.out⟩)
          exact congrArg Value.bool (by rw [Q2.out]; first | rfl | simp)
    · rintro f wx ⟨hq, hb⟩
      simp only [List.append_eq, List.take_succ_cons, List.take_zero, List.drop_succ_cons, List.drop_zero, List.cons_append, List.nil_append, map_23, hq]
      have K := Lib.hid (KK.out.below hb); have BW := Lib.hid hb
      clear hq hb
      refine wpList_cutF 12 130 12 (fun f wx => f 11 = .bool q3 ∧ Below wn.heap.size wn wx) ?_ ?_ (Nat.le_of_ble_eq_true rfl)
      · intro J hJ
        simp only [List.append_eq, List.take_succ_cons, List.take_zero, List.drop_succ_cons, List.drop_zero, List.cons_append, List.nil_append]
        obtain ⟨⟨c4, c5, c6⟩, ⟨g1, g2⟩, ⟨f1, f2⟩, hN⟩ := id K.out
        cases q2
        · go_wp2
          refine AtEnd.intro (hJ _ _ rfl rfl rfl ⟨?_, BW.out⟩)
          exact congrArg Value.bool (by rw [Q3.out]; first | rfl | simp)
        · cases t3
          · have x3 := T3.out.symm
            go_wp2_with fail
            refine (contP_any _ we _ _ _ _ pb (pb + 1) _ (LW.out.below BW.out) hN).mono ?_; rintro e w4 ⟨rfl, hb4⟩
            rw [← R4.out]
            have K := Lib.hid (K.out.below hb4); have BW := Lib.hid (BW.out.trans (hb4.mono BW.out.size))
            clear hb4 c4 c5 c6 g1 g2 f1 f2 hN
            obtain ⟨⟨c4, c5, c6⟩, ⟨g1, g2⟩, ⟨f1, f2⟩, hN⟩ := id K.out
            go_wp2
            refine AtEnd.intro (hJ _ _ rfl rfl rfl ⟨?_, BW.out⟩)
            exact congrArg Value.bool (by rw [Q3.out]; first | rfl | simp)
          · have x3 := T3.out.symm
            go_wp2
            refine AtEnd.intro (hJ _ _ rfl rfl rfl ⟨?_, BW.out⟩)
            exact congrArg Value.bool (by rw [Q3.out]; first | rfl | simp)
      · rintro f wx ⟨hq, hb⟩
        simp only [List.append_eq, List.take_succ_cons, List.take_zero, List.drop_succ_cons, List.drop_zero, List.cons_append, List.nil_append, map_12, hq]
        have K := Lib.hid (KK.out.below hb); have BW := Lib.hid hb
        clear hq hb
        refine wpList_cutF 11 142 11 (fun f wx => f 10 = .bool q4 ∧ Below wn.heap.size wn wx) ?_ ?_ (Nat.le_of_ble_eq_true rfl)
        · intro J hJ
          simp only [List.append_eq, List.take_succ_cons, List.take_zero, List.drop_succ_cons, List.drop_zero, List.cons_append, List.nil_append]
          obtain ⟨⟨c4, c5, c6⟩, ⟨g1, g2⟩, ⟨f1, f2⟩, hN⟩ := id K.out
          cases q3
          · go_wp2
            refine AtEnd.intro (hJ _ _ rfl rfl rfl ⟨?_, BW.out⟩)
            exact congrArg Value.bool (by rw [Q4.out]; first | rfl | simp)
          · cases sW
            · go_wp2
              refine AtEnd.intro (hJ _ _ rfl rfl rfl ⟨?_, BW.out⟩)
              exact congrArg Value.bool (by rw [Q4.out]; first | rfl | simp)
            · go_wp2
              refine AtEnd.intro (hJ _ _ rfl rfl rfl ⟨?_, BW.out⟩)
              exact congrArg Value.bool (by rw [Q4.out, R5.out]; first | rfl | simp)
        · rintro f wx ⟨hq, hb⟩
          simp only [List.append_eq, List.take_succ_cons, List.take_zero, List.drop_succ_cons, List.drop_zero, List.cons_append, List.nil_append, map_11, hq]
          have K := Lib.hid (KK.out.below hb); have BW := Lib.hid hb
          clear hq hb
          refine wpList_cutF 11 153 11 (fun f wx => f 10 = .bool q5 ∧ Below wn.heap.size wn wx) ?_ ?_ (Nat.le_of_ble_eq_true rfl)
          · intro J hJ
            simp only [List.append_eq, List.take_succ_cons, List.take_zero, List.drop_succ_cons, List.drop_zero, List.cons_append, List.nil_append]
            obtain ⟨⟨c4, c5, c6⟩, ⟨g1, g2⟩, ⟨f1, f2⟩, hN⟩ := id K.out
            cases q4
            · go_wp2
              refine AtEnd.intro (hJ _ _ rfl rfl rfl ⟨?_, BW.out⟩)
              exact congrArg Value.bool (by rw [Q5.out]; first | rfl | simp)
            · cases sD
              · go_wp2
                refine AtEnd.intro (hJ _ _ rfl rfl rfl ⟨?_, BW.out⟩)
                exact congrArg Value.bool (by rw [Q5.out]; first | rfl | simp)
              · go_wp2
                refine AtEnd.intro (hJ _ _ rfl rfl rfl ⟨?_, BW.out⟩)
                exact congrArg Value.bool (by rw [Q5.out, R6.out]; first | rfl | simp)
          · rintro f wx ⟨hq, hb⟩
            simp only [List.append_eq, List.take_succ_cons, List.take_zero, List.drop_succ_cons, List.drop_zero, List.cons_append, List.nil_append, map_11, hq]
            have K := Lib.hid (KK.out.below hb); have BW := Lib.hid hb
            clear hq hb
            obtain ⟨⟨c4, c5, c6⟩, ⟨g1, g2⟩, ⟨f1, f2⟩, hN⟩ := id K.out
            cases q5
            · go_wp2
              obtain rfl : ok = false := by rw [OKQ.out]; rfl
              exact HE.out _ _ _ _ _ _ _ _ _ _ _ _ _ _ _ _ _ _ _ _ _ _ _ _ _ _ _ _ _ _ _ _ _ _ _ _ _ _ _ _ _ _ _ _ _ _ _ _ _ _ _ _ _ _ _ _ _ _ _ _ _ _ _ _ _ _ _ _ _ _ _ _ _ _ _ _ _ _ _ _ BW.out
            · cases sM
              · go_wp2
                obtain rfl : ok = true := by rw [OKQ.out]; rfl
                exact HE.out _ _ _ _ _ _ _ _ _ _ _ _ _ _ _ _ _ _ _ _ _ _ _ _ _ _ _ _ _ _ _ _ _ _ _ _ _ _ _ _ _ _ _ _ _ _ _ _ _ _ _ _ _ _ _ _ _ _ _ _ _ _ _ _ _ _ _ _ _ _ _ _ _ _ _ _ _ _ _ _ BW.out
              · go_wp2
                obtain rfl : ok = (m == m0) := by rw [OKQ.out, R7.out]; rfl
                exact HE.out _ _ _ _ _ _ _ _ _ _ _ _ _ _ _ _ _ _ _ _ _ _ _ _ _ _ _ _ _ _ _ _ _ _ _ _ _ _ _ _ _ _ _ _ _ _ _ _ _ _ _ _ _ _ _ _ _ _ _ _ _ _ _ _ _ _ _ _ _ _ _ _ _ _ _ _ _ _ _ _ BW.out

end Go.Proofs.YtkpmddlinlcobaaGreatDoor
