/- event.Of of an event that does not repeat: its contract. Condition: at most 100 times more. -/
import Derived.Test.YtkpmddlinlcobaaDoorEvD
import Derived.Test.YtkpmddlinlcobaaDoorEvC
import Derived.Deep.Onto
namespace Go.Proofs.YtkpmddlinlcobaaDoor
open Go.RowKit Go.Shelf
set_option linter.unusedSimpArgs false
set_option linter.unusedVariables false

/-- the times of an event from one to another one: B: those of its rule, M: those more, N: those that are not. -/
def evL (B M N : List Int) (a b : Int) : List Int := notIn N (Lib.compact (srt (inR a b B ++ inR a b M)))

/-- a list of one's own. -/
def OwnI (B : Nat) (w : World) (v : Value) (L : List Int) : Prop := w.ownsRow B 3 1 v L.length (L.map (Value.int .i64))

theorem OwnI.ints {B : Nat} {w : World} {v : Value} {L : List Int} (h : OwnI B w v L) : IntsR w v L := intsR_of_owns h

theorem OwnI.fresh {B : Nat} {w : World} {v : Value} {L : List Int} (h : OwnI B w v L) : FreshV B v := ownBlock_ge h

theorem OwnI.none (B : Nat) (w : World) : OwnI B w (.slice none 0 0) [] := World.ownsRow_nil _ _ _ _

theorem OwnI.below {B : Nat} {w w' : World} {v : Value} {L : List Int} (h : OwnI B w v L) (hb : Below w.heap.size w w') : OwnI B w' v L := own_kept h hb

theorem compact_le (L : List Int) : (Lib.compact L).length ≤ L.length := Lib.compact_length_le L

theorem evL_len (B M N : List Int) (a b : Int) : (evL B M N a b).length ≤ B.length + M.length := by
  have h1 := notIn_le N (Lib.compact (srt (inR a b B ++ inR a b M)))
  have h2 := compact_le (srt (inR a b B ++ inR a b M))
  rw [srt_len, List.length_append] at h2
  have h3 : (inR a b B).length ≤ B.length := List.length_filter_le ..
  have h4 : (inR a b M).length ≤ M.length := List.length_filter_le ..
  unfold evL; omega

set_option maxRecDepth 100000 in
set_option maxHeartbeats 8000000 in
theorem evof_once (snm stx : ByteArray) (st ln : Int) (fr ev ct ti : Int) (vm vd vw vp vM vN vC vA : Value) (M N : List Int) (a b : Int) (w : World)
    (hvm : vm.oneCell' = true) (hvd : vd.oneCell' = true) (hvw : vw.oneCell' = true) (hvp : vp.oneCell' = true) (hvC : vC.oneCell' = true) (hvA : vA.oneCell' = true) (hM : IntsR w vM M) (hN : IntsR w vN N) (hMl : M.length ≤ 100) :
    Calls Tryd.prog 9 #[.agg #[.string snm, .string stx, .int .i64 st, .int .i64 ln, .bool false, .int .i64 fr, .int .i64 ev, .int .i64 ct, .int .i64 ti, vm, vd, vw, vp, vM, vN, vC, vA], .int .i64 a, .int .i64 b] w
      fun e w' => ∃ v, e = .returned v ∧ OwnI w.heap.size w' v (evL [st] M N a b) ∧ Below w.heap.size w w' := by
  obtain ⟨aM, kM, rfl, -, kM2, -⟩ := intsR_open hM
  obtain ⟨aN, kN, rfl, -, kN2, -⟩ := intsR_open hN
  obtain ⟨eb, heb⟩ : ∃ x, x = w.heap.size := ⟨_, rfl⟩
  obtain ⟨w0, hw0⟩ : ∃ x, x = w.alloc (.cells #[.string snm, .string stx, .int .i64 st, .int .i64 ln, .bool false, .int .i64 fr, .int .i64 ev, .int .i64 ct, .int .i64 ti, vm, vd, vw, vp, .slice aM M.length kM, .slice aN N.length kN, vC, vA] 29) := ⟨_, rfl⟩
  have hb0 : Below w.heap.size w w0 := by rw [hw0]; exact (Below.refl _ _).alloc (Nat.le_refl _) _
  have hs0 : w0.heap.size = w.heap.size + 1 := by rw [hw0]; simp
  have ec := hw0 ▸ evC_new w 29 snm stx st ln false fr ev ct ti vm vd vw vp (.slice aM M.length kM) (.slice aN N.length kN) vC vA
  obtain ⟨wa, hwa⟩ : ∃ x, x = w0.alloc (.cells #[.int .i64 a] 3) := ⟨_, rfl⟩
  have hba : Below w0.heap.size w0 wa := by rw [hwa]; exact (Below.refl _ _).alloc (Nat.le_refl _) _
  have hsa : wa.heap.size = w0.heap.size + 1 := by rw [hwa]; simp
  have ca : wa.cell? ⟨w0.heap.size, 0, none⟩ = some (.int .i64 a) := by rw [hwa]; simp
  obtain ⟨wb, hwb⟩ : ∃ x, x = wa.alloc (.cells #[.int .i64 b] 3) := ⟨_, rfl⟩
  have hbb : Below wa.heap.size wa wb := by rw [hwb]; exact (Below.refl _ _).alloc (Nat.le_refl _) _
  have hsb : wb.heap.size = wa.heap.size + 1 := by rw [hwb]; simp
  have cb : wb.cell? ⟨wa.heap.size, 0, none⟩ = some (.int .i64 b) := by rw [hwb]; simp
  have ca := cell_below hbb ca
  have ec := (ec.below hba).below hbb
  have hbwb : Below w.heap.size w wb := (hb0.trans (hba.mono hb0.size)).trans (hbb.mono (by omega))
  obtain ⟨wc, hwc⟩ : ∃ x, x = wb.alloc (.cells #[.slice none 0 0] 22) := ⟨_, rfl⟩
  have hsc : wc.heap.size = wb.heap.size + 1 := by rw [hwc]; simp
  have bO : Boxed wc wb.heap.size 22 (.slice none 0 0) := by rw [hwc]; exact Boxed.new wb 22 (.slice none 0 0)
  have hbc : Below wb.heap.size wb wc := by rw [hwc]; exact (Below.refl _ _).alloc (Nat.le_refl _) _
  obtain ⟨wd, hwd⟩ : ∃ x, x = wc.alloc (.cells #[.func (.func 23) #[] #[.pointer (some ⟨eb + 1, 0, none⟩), .pointer (some ⟨eb + 1 + 1, 0, none⟩), .pointer (some ⟨wb.heap.size, 0, none⟩)]] 58) := ⟨_, rfl⟩
  have bK : Boxed wd wc.heap.size 58 (.func (.func 23) #[] #[.pointer (some ⟨eb + 1, 0, none⟩), .pointer (some ⟨eb + 1 + 1, 0, none⟩), .pointer (some ⟨wb.heap.size, 0, none⟩)]) := by rw [hwd]; exact Boxed.new wc 58 _
  have hbd : Below wb.heap.size wb wd := by rw [hwd]; exact hbc.alloc (by omega) _
  have bO : Boxed wd wb.heap.size 22 (.slice none 0 0) := by rw [hwd]; exact (Below.heap_alloc _ _ _ (by omega)).trans bO
  have col : Col wb wb.heap.size 22 3 (fun k => k = wc.heap.size) [] wd := ⟨⟨hbd, Nat.le_refl _, by rintro k rfl; exact bK.lt⟩, _, bO, World.ownsRow_nil _ _ _ _, by omega, fun g h => by cases h⟩
  have CO := Lib.hid col; have BK := Lib.hid bK; have EC := Lib.hid ec; have CA := Lib.hid ca; have CB := Lib.hid cb; have BB := Lib.hid hbwb; have BD := Lib.hid hbd
  have RM := Lib.hid (hM.below hbwb); have RN := Lib.hid (hN.below hbwb)
  have W0 := Lib.hid hw0; have WA := Lib.hid hwa; have WB := Lib.hid hwb; have WC := Lib.hid hwc; have WD := Lib.hid hwd
  have EB := Lib.hid heb
  have q0 : w0.heap.size = eb + 1 := by omega
  have q1 : wa.heap.size = eb + 1 + 1 := by omega
  have q2 : wb.heap.size = eb + 1 + 1 + 1 := by omega
  have q3 : wc.heap.size = wb.heap.size + 1 := hsc
  rw [← heb] at EC
  rw [q0] at CA; rw [q1] at CB
  have Q2 := Lib.hid q2; have Q3 := Lib.hid q3
  clear hM hN hw0 hb0 hs0 ec hwa hba hsa ca hwb hbb hsb cb hbwb hwc hsc bO hbc hwd bK hbd col heb q0 q1 q2 q3
  go_enter Tryd.func9, Tryd.ntmps9
  go_upto_region 1 with fail
  rw [← W0.out, ← WA.out, ← WB.out]
  rw [← EB.out]
  go_upto_region 2 with fail
  rw [← WC.out]
  go_upto_region 3 with fail
  rw [← WD.out]
  have k2 := (EC.out.below BD.out).k2
  have k4 := (EC.out.below BD.out).k4
  have kk := BK.out.cell
  go_wp2_with fail
  refine (keep_col st a b _ _ wb.heap.size wb _ [] _ CO.out (cell_below BD.out CA.out) (cell_below BD.out CB.out) (by simp)).mono ?_; rintro e w5 ⟨rfl, hk5, hc5⟩
  have BK5 := Lib.hid (show Boxed w5 wc.heap.size 58 _ from (hk5.kept _ BK.out.lt rfl).trans BK.out)
  have CO5 := Lib.hid hc5
  have B5 := Lib.hid hc5.1.1
  clear hk5 hc5 k2 k4 kk
  rw [List.nil_append] at CO5
  obtain ⟨X0, hX0⟩ : ∃ x, x = inR a b [st] := ⟨_, rfl⟩
  rw [← hX0] at CO5
  have X0E := Lib.hid hX0
  have x0l : X0.length ≤ 1 := by rw [hX0]; exact List.length_filter_le ..
  clear hX0
  have k13 := (EC.out.below B5.out).k13
  go_wp2_with fail
  clear k13
  obtain ⟨a6, c6, e6, _, _, hds⟩ := intsR_open RM.out
  cases e6
  have HC := Lib.hid hds
  clear hds
  go_loopg [49] M.length (fun g iv wr => ∃ (k : Nat) (XS : List Int), k ≤ M.length ∧ iv = .int .i64 k ∧ g = M.length - k ∧ Hid (XS = X0 ++ inR a b (M.take k)) ∧ Col wb wb.heap.size 22 3 (fun k => k = wc.heap.size) XS wr ∧ Boxed wr wc.heap.size 58 (.func (.func 23) #[] #[.pointer (some ⟨eb + 1, 0, none⟩), .pointer (some ⟨eb + 1 + 1, 0, none⟩), .pointer (some ⟨wb.heap.size, 0, none⟩)]))
  case atStart => exact ⟨0, X0, Nat.zero_le _, rfl, rfl, Lib.hid (by simp [inR]), CO5.out, BK5.out⟩
  case round =>
    obtain ⟨k, XS, hk, rfl, hg, XE, hcol, hbk⟩ := hrel
    have G := Lib.hid hg
    have xl : XS.length ≤ 101 := by
      have h := congrArg List.length XE.out
      have h2 : (inR a b (M.take k)).length ≤ (M.take k).length := List.length_filter_le ..
      have h3 := List.length_take_le k M
      rw [List.length_append] at h; omega
    have hb := hcol.1.1
    have BW := Lib.hid hb
    have i1 : (0 : Int) ≤ (k : Int) := Int.natCast_nonneg _
    clear hg
    by_cases hlt : k < M.length
    · obtain ⟨mb, mo2, rfl, hcs⟩ := HC.out (by omega)
      have c0 := cell_below hb (hcs k hlt)
      obtain ⟨x, hx⟩ : ∃ x, x = M[k] := ⟨_, rfl⟩
      rw [← hx] at c0
      have X := Lib.hid (show inR a b (M.take (k + 1)) = inR a b (M.take k) ++ inR a b [x] by rw [List.take_succ_eq_append_getElem hlt, inR_append, hx])
      have kk := hbk.cell
      have CW := Lib.hid hcol; have BKW := Lib.hid hbk
      clear hx hcs hcol hbk hb
      have i2 : (k : Int) < (M.length : Int) := by omega
      go_wp2_with fail
      refine (keep_col x a b _ _ wb.heap.size wb _ XS _ CW.out (cell_below BW.out CA.out) (cell_below BW.out CB.out) (by omega)).mono ?_; rintro e w6 ⟨rfl, hk6, hc6⟩
      have BK6 := Lib.hid (show Boxed w6 wc.heap.size 58 _ from (hk6.kept _ BKW.out.lt rfl).trans BKW.out)
      have CO6 := Lib.hid hc6
      clear hk6 hc6 c0 kk
      go_wp2
      go_roundg (M.length - (k + 1))
      case measure => rw [G.out]; omega
      case rel => exact ⟨k + 1, _, by omega, by go_num, rfl, Lib.hid (by rw [X.out, XE.out, List.append_assoc]), CO6.out, BK6.out⟩
    · obtain rfl : k = M.length := by omega
      have i2 : ¬ (M.length : Int) < (M.length : Int) := by omega
      have XF := Lib.hid (show XS = inR a b [st] ++ inR a b M by have := XE.out; rw [List.take_length] at this; rw [this, X0E.out])
      obtain ⟨⟨_, _, _⟩, v, hv, hrow, hno, hng⟩ := hcol
      have hc := hv.cell
      have HV := Lib.hid hv; have HR := Lib.hid hrow
      clear hv hrow hno hng hbk hb
      go_wp2_with fail
      refine (sort_own v XS _ HR.out (by omega)).mono ?_; rintro e w7 ⟨rfl, hrow7, hg7⟩
      have hv7 : Boxed w7 wb.heap.size 22 v := HV.out.kept hg7 (HV.out.not_row (by decide) HR.out)
      have B7 := Lib.hid (BW.out.grown hg7 BW.out.size (ownBlock_ge HR.out))
      have hc7 := hv7.cell
      obtain ⟨ys, hys⟩ : ∃ ys, ys = srt XS := ⟨_, rfl⟩
      have yl : ys.length ≤ 101 := by rw [hys, srt_len]; exact xl
      have HR7 := Lib.hid (show w7.ownsRow wb.heap.size 3 1 v ys.length (ys.map (Value.int .i64)) by rw [hys, srt_len]; exact hrow7)
      have YE := Lib.hid hys
      clear hrow7 hg7 hv7 hc hys
      go_wp2_with fail
      refine (compact_own v ys _ HR7.out (by omega)).mono ?_; rintro e w8 ⟨u, rfl, hrow8, hg8⟩
      have B8 := Lib.hid (B7.out.grown hg8 B7.out.size (ownBlock_ge HR7.out))
      obtain ⟨zs, hzs⟩ : ∃ zs, zs = Lib.compact ys := ⟨_, rfl⟩
      rw [← hzs] at hrow8
      have zl : zs.length ≤ 101 := by rw [hzs]; exact Nat.le_trans (compact_le ys) yl
      have HR8 := Lib.hid hrow8
      have ZE := Lib.hid hzs
      clear hrow8 hg8 hc7 hzs
      go_wp2_with fail
      refine (del_own u zs eb _ N _ HR8.out (by omega) B8.out.size (fun W hbW => ⟨(EC.out.below (B8.out.trans hbW)).k14, RN.out.below (B8.out.trans hbW)⟩)).mono ?_; rintro e w9 ⟨u2, rfl, hrow9, hg9⟩
      have B9 := Lib.hid (B8.out.grown hg9 B8.out.size (ownBlock_ge HR8.out))
      have HR9 := Lib.hid hrow9
      have OE := Lib.hid (show notIn N zs = evL [st] M N a b by rw [evL, ZE.out, YE.out, XF.out])
      clear hrow9 hg9
      go_wp2
      go_ret
      exact ⟨_, rfl, by rw [← OE.out]; exact World.ownsRow.mono HR9.out BB.out.size, BB.out.trans (B9.out.mono BB.out.size)⟩

end Go.Proofs.YtkpmddlinlcobaaDoor
