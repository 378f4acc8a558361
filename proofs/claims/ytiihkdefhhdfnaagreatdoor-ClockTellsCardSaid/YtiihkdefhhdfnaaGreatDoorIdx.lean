/- The contract of strings.IndexAny(s, "dhm") at any bytes. Condition: s is no longer than a text may be. -/
import Derived.Test.YtiihkdefhhdfnaaGreatDoorSl
import Derived.Test.YtiihkdefhhdfnaaGreatDoorDayA
import Derived.Test.YtiihkdefhhdfnaaGreatDoorShClk
import Derived.Laws.RangeAny
import Derived.Laws.RangeString
import Derived.Laws.Strings3
import Derived.Laws.Runes
import Derived.Lib.IndexAny
import Derived.Lib.IndexBytes
import Derived.Lib.DecodeN
import Derived.Lib.Builder
import Derived.Lib.AsciiSet
import Derived.Deep.WholeRow
import Derived.Deep.LoopGhost
import Derived.Deep.QuietTactic
import Derived.BigQuiet
import Derived.WalkMore
import Derived.IntWalk
import Derived.Deep.DeepCutAuto
import Derived.Deep.CutBlock
import Derived.Outline
namespace Go.Proofs.YtiihkdefhhdfnaaGreatDoor
open Go.RowKit Go.Shelf Go.Lib
set_option linter.unusedSimpArgs false
set_option linter.unusedVariables false

/-- the three letters. -/
def dhmL : List UInt8 := [100, 104, 109]
def dhm : ByteArray := { data := #[100, 104, 109] }

theorem dhm_no {x : UInt8} (h : 128 ≤ x.toNat) : dhmL.contains x = false := by
  rw [dhmL, List.contains_eq_mem, decide_eq_false_iff_not]
  intro hm
  simp only [List.mem_cons, List.not_mem_nil, or_false] at hm
  rcases hm with rfl | rfl | rfl <;> exact absurd h (by decide)

theorem decN_bytes (n b0 b1 b2 b3 : Nat) (hn : 0 < n) (h0 : 128 ≤ b0) (k : Nat) (hk : k < (decodeN n b0 b1 b2 b3).2) :
    k < n ∧ (k = 0 ∨ (k = 1 ∧ 128 ≤ b1) ∨ (k = 2 ∧ 128 ≤ b2) ∨ (k = 3 ∧ 128 ≤ b3)) := by
  unfold decodeN at hk
  rw [if_neg (by omega)] at hk
  split at hk
  · split at hk <;> (simp only at hk; omega)
  · split at hk
    · split at hk <;> (simp only at hk; omega)
    · split at hk
      · split at hk <;> (simp only at hk; omega)
      · simp only at hk; omega

theorem decN_valid (n b0 b1 b2 b3 : Nat) (h0 : 128 ≤ b0) (h0' : b0 < 256) : 128 ≤ (decodeN n b0 b1 b2 b3).1 ∧ ((decodeN n b0 b1 b2 b3).1 < 55296 ∨ (57344 ≤ (decodeN n b0 b1 b2 b3).1 ∧ (decodeN n b0 b1 b2 b3).1 ≤ 1114111)) := by
  unfold decodeN
  rw [if_neg (by omega)]
  split
  · split <;> (simp only; omega)
  · split
    · split <;> (simp only; omega)
    · split
      · split <;> (simp only; omega)
      · simp only; omega

theorem get_le (s : ByteArray) (i : Nat) (h : i < s.size) : s.get! i = s[i] := by
  have := get_at s i h
  rwa [Nat.add_zero] at this

/-- a wide rune: none of its bytes is a letter. -/
theorem dec_no (s : ByteArray) (i : Nat) (h : i < s.size) (h0 : 128 ≤ (s[i]).toNat) (hno : NoAny s.data.toList dhmL i) : NoAny s.data.toList dhmL (i + (Utf8.decode s i).2) := by
  intro j b hj hb
  by_cases hji : j < i
  · exact hno j b hji hb
  · rw [decode_at] at hj
    have hk := decN_bytes (s.size - i) (s.get! i).toNat (s.get! (i + 1)).toNat (s.get! (i + 2)).toNat (s.get! (i + 3)).toNat (by omega) (by rw [get_le s i h]; exact h0) (j - i) (by omega)
    obtain ⟨k1, k2⟩ := hk
    have hjs : j < s.size := by omega
    have hb2 : s.get! j = b := by
      have := Lib.data_getElem? s j hjs
      rw [hb] at this
      rw [get_le s j hjs]; exact (Option.some.inj this).symm
    apply dhm_no
    rcases k2 with k2 | ⟨k2, k3⟩ | ⟨k2, k3⟩ | ⟨k2, k3⟩
    · obtain rfl : j = i := by omega
      rw [← hb2, get_le s j h]; exact h0
    · rw [show i + 1 = j by omega, hb2] at k3; exact k3
    · rw [show i + 2 = j by omega, hb2] at k3; exact k3
    · rw [show i + 3 = j by omega, hb2] at k3; exact k3

theorem dec_valid (s : ByteArray) (i : Nat) (h : i < s.size) (h0 : 128 ≤ (s[i]).toNat) : Utf8.valid ((Utf8.decode s i).1 : Int) = true := by
  have hb := UInt8.toNat_lt (s.get! i)
  have := decN_valid (s.size - i) (s.get! i).toNat (s.get! (i + 1)).toNat (s.get! (i + 2)).toNat (s.get! (i + 3)).toNat (by rw [get_le s i h]; exact h0) hb
  rw [← decode_at] at this
  rw [validRune_eq, validRune, decide_eq_true_eq]
  omega

theorem nG_ret {Q : Exit → Act → World → Prop} {a : Act} {w : World} (h : Q .ret a w) : Exit.noGoto Q .ret a w := h
theorem iB_ret {Q : Exit → Act → World → Prop} {k : Nat} {a : Act} {w : World} (h : Q .ret a w) : Exit.inBlock k Q .ret a w := h
theorem th_ret {K : Act → World → Prop} {Q : Exit → Act → World → Prop} {a : Act} {w : World} (h : Q .ret a w) : Exit.then K Q .ret a w := h

theorem indexByte_no {l : List UInt8} {c : UInt8} (h : ∀ b ∈ l, b ≠ c) : Lib.indexByte l c = -1 := by
  have := Lib.contains_iff_indexByte l c
  have h2 : l.contains c = false := by
    rw [List.contains_eq_mem, decide_eq_false_iff_not]
    exact fun hm => h c hm rfl
  rw [h2] at this
  have h3 : ¬ ((0 : Int) ≤ Lib.indexByte l c) := of_decide_eq_false this.symm
  have := Lib.indexByte_ge l c
  omega

/-- the world of a walk over a text: the iterator's block at its place, and what came behind it. -/
structure ItG (w : World) (s : ByteArray) (i : Nat) (wx : World) : Prop where
  it : wx.heap[w.heap.size]? = some (.stringIter s i)
  lo : Below w.heap.size w wx

theorem ItG.start (w : World) (s : ByteArray) : ItG w s 0 (w.iter s 0) := ⟨World.iter_heap w s 0, (Below.refl _ _).alloc (Nat.le_refl _) _⟩

theorem ItG.more {w : World} {s : ByteArray} {i : Nat} {wx wy : World} (h : ItG w s i wx) (hb : Below wx.heap.size wx wy) : ItG w s i wy :=
  ⟨by rw [hb.block _ (Array.getElem?_eq_some_iff.1 h.it).1]; exact h.it, h.lo.trans (hb.mono h.lo.size)⟩

/-- the iterator's place moved on. -/
def World.itTo (wx : World) (k : Nat) (s : ByteArray) (j : Nat) : World := { wx with heap := wx.heap.setIfInBounds k (.stringIter s j) }

theorem ItG.to {w : World} {s : ByteArray} {i : Nat} {wx : World} (h : ItG w s i wx) (j : Nat) : ItG w s j (World.itTo wx w.heap.size s j) := by
  have hk : w.heap.size < wx.heap.size := (Array.getElem?_eq_some_iff.1 h.it).1
  refine ⟨by simp [World.itTo, hk], ⟨h.lo.os, h.lo.tape, h.lo.output, by simpa [World.itTo] using h.lo.size, fun k hk2 => ?_⟩⟩
  rw [← h.lo.block k hk2]
  simp only [World.itTo]
  rw [Array.getElem?_setIfInBounds_ne (by omega)]

theorem ItG.next {P : Program} {w : World} {s : ByteArray} {i : Nat} {wx : World} (h : ItG w s i wx) (hi : i < s.size) (ty : TypeId) :
    (Instr.next (.pointer (some ⟨w.heap.size, 0, none⟩)) true ty).run P wx = .ok (.tuple #[.bool true, .int .i64 i, .int .i32 (Utf8.decode s i).1]) (World.itTo wx w.heap.size s (i + (Utf8.decode s i).2)) := by
  simp only [Instr.next, getObj, setObj, Sem.run_bind, Sem.run, h.it, Result.andThen, hi, if_true]
  simp [goInt, World.itTo]

theorem ItG.stop {P : Program} {w : World} {s : ByteArray} {i : Nat} {wx : World} (h : ItG w s i wx) (hi : ¬ i < s.size) (ty : TypeId) :
    (Instr.next (.pointer (some ⟨w.heap.size, 0, none⟩)) true ty).run P wx = .ok (.tuple #[.bool false]) wx := by
  simp [Instr.next, getObj, Sem.run, h.it, hi]

theorem iter_below (w : World) (s : ByteArray) (i : Nat) : Below w.heap.size w (w.iter s i) := (Below.refl _ _).alloc (Nat.le_refl _) _

set_option maxRecDepth 1000000 in
set_option maxHeartbeats 8000000 in
theorem irune_err (w : World) :
    Calls Tryz.prog 49 #[.string { data := #[100, 104, 109] }, .int .i32 65533] w fun e w' => e = .returned (.int .i64 (-1)) ∧ Below w.heap.size w w' := by
  obtain ⟨s, hs⟩ : ∃ s : ByteArray, s = { data := #[100, 104, 109] } := ⟨_, rfl⟩
  have sz : s.size = 3 := by rw [hs]; rfl
  have hb : ∀ i (h : i < s.size), (s[i]).toNat < 128 ∧ (((s[i]).toNat : Int) == 65533) = false := by
    intro i h
    have hi : i = 0 ∨ i = 1 ∨ i = 2 := by omega
    have e : s[i] = 100 ∨ s[i] = 104 ∨ s[i] = 109 := by
      subst hs
      rcases hi with rfl | rfl | rfl
      · exact .inl rfl
      · exact .inr (.inl rfl)
      · exact .inr (.inr rfl)
    rcases e with e | e | e <;> (rw [e]; exact ⟨by decide, by decide⟩)
  have HB := Lib.hid hb
  rw [← hs]
  clear hs hb
  go_enter Tryz.func49, Tryz.ntmps49
  go_wp2
  go_loopg [5, 6] 3 (fun g _ _ wx => ∃ i : Nat, i + g = 3 ∧ wx = w.iter s i)
  case atStart => exact ⟨0, by omega, rfl⟩
  case round =>
    obtain ⟨i, hig, rfl⟩ := hrel
    have IG := Lib.hid hig; clear hig
    by_cases hi : i < s.size
    · obtain ⟨b1, b2⟩ := HB.out i hi
      have hnx := fun ty => run_next_ascii (P := Tryz.prog) w s i ty hi b1
      go_wp2
      go_roundg (3 - (i + 1))
      case measure => have := IG.out; omega
      case rel => exact ⟨i + 1, by have := IG.out; omega, rfl⟩
    · have hnx := fun ty => run_next_end (P := Tryz.prog) w s i ty hi
      go_wp2
      go_ret
      exact ⟨rfl, iter_below _ _ _⟩

set_option maxRecDepth 1000000 in
set_option maxHeartbeats 8000000 in
theorem irune_wide (r : Int) (w : World) (h0 : 128 ≤ r) (hv : Utf8.valid r = true) (hne : r ≠ 65533) :
    Calls Tryz.prog 49 #[.string { data := #[100, 104, 109] }, .int .i32 r] w fun e w' => e = .returned (.int .i64 (-1)) ∧ Below w.heap.size w w' := by
  obtain ⟨f1, f2, f3⟩ := encode_facts r hv h0
  obtain ⟨rs, hrs⟩ : ∃ rs, rs = Utf8.encode r := ⟨_, rfl⟩
  have RS := Lib.hid hrs
  rw [← hrs] at f1 f2 f3
  have VR := Lib.hid (show Calls Tryz.prog 65 #[.int .i32 r] w fun e w' => e = .returned (.bool true) ∧ w = w' from (Tryz.utf8_ValidRune r w).mono fun e w' h => ⟨by rw [h.1, show Lib.validRune r = true by rw [← hv, validRune_eq]; rfl], h.2.symm⟩)
  have e1 : (r == 65533) = false := by rw [beq_eq_false_iff_ne]; exact hne
  have e2 : decide (r < 128) = false := decide_eq_false (by omega)
  have F3 := Lib.hid f3
  clear hrs hne hv f3
  go_enter Tryz.func49, Tryz.ntmps49
  go_wp2_with (go_at_call 65; refine VR.out.mono ?_; rintro e w' ⟨rfl, rfl⟩)
  have hk : rs.size = 2 ∨ rs.size = 3 ∨ rs.size = 4 := by omega
  have IB := Lib.hid (fun (x : ByteArray) (c : UInt8) (n : Int) (w : World) (hx : ∀ b ∈ x.data.toList, b.toNat < 128) (hn : n = (c.toNat : Int)) (hc : 128 ≤ c.toNat) => show Calls Tryz.prog 41 #[.string x, .int .u8 n] w (fun e w' => e = .returned (.int .i64 (-1)) ∧ w' = w) from by
    refine (Tryz.strings_IndexByte x n w).mono fun e w' h => ⟨?_, h.2⟩
    rw [h.1, show n.toNat.toUInt8 = c by rw [hn]; simp, indexByte_no fun b hb e => by have := hx b hb; rw [e] at this; omega])
  rcases hk with hk | hk | hk
  · have hw : wrap64 ((rs.size : Int) - 1) = 1 := (IntWalk.wrap64_in _ (by omega)).trans (by omega)
    have hc : 128 ≤ (rs[1]'(by omega)).toNat := by have := F3.out (by omega); simp only [hk] at this; exact this
    obtain ⟨n, hn⟩ : ∃ n : Int, n = ((rs[1]'(by omega)).toNat : Int) := ⟨_, rfl⟩
    have hcn : ((rs[1]'(by omega)).toNat : Int) = n := hn.symm
    have s1 : IntKind.i64.wrap (2 : Int) = 2 := IntWalk.i64_in _ (by omega)
    have t1 : (((({ data := #[100, 104, 109] } : ByteArray)[1]'(by decide)).toNat : Int) != n) = true := by
      rw [bne_iff_ne, show (({ data := #[100, 104, 109] } : ByteArray)[1]'(by decide)) = 104 from rfl, show ((104 : UInt8).toNat : Int) = 104 from rfl]; omega
    have I1 := Lib.hid (fun (a m : Nat) => quiet_la (w := w) (a := a) (n := m) (v := .int .i64 (-1)) ((IB.out (({ data := #[100, 104, 109] } : ByteArray).extract 2 3) (rs[1]'(by omega)) n _ (by intro b hb; rw [show (({ data := #[100, 104, 109] } : ByteArray).extract 2 3).data.toList = [109] from by decide] at hb; simp at hb; try (subst hb; decide)) hn hc).mono fun e w' h => ⟨h.1, h.2.symm⟩))
    clear hn hc
    go_step3
    go_wp2
    rw [← RS.out, hw]
    refine wp_loop_rounds 1 ?_
    rw [rounds_succ]
    go_wp2
    go_step3
    go_upto_region 6 with fail
    go_quiet (fail)
    go_upto_region 7 with fail
    go_quiet ((go_at_call 41; exact I1.out _ _))
    go_wp2
    refine nG_ret (iB_ret (th_ret (iB_ret (th_ret (nG_ret ?_)))))
    go_ret
    exact ⟨rfl, below_drewN (Below.refl _ _) _⟩
  · have hw : wrap64 ((rs.size : Int) - 1) = 2 := (IntWalk.wrap64_in _ (by omega)).trans (by omega)
    have hc : 128 ≤ (rs[2]'(by omega)).toNat := by have := F3.out (by omega); simp only [hk] at this; exact this
    obtain ⟨n, hn⟩ : ∃ n : Int, n = ((rs[2]'(by omega)).toNat : Int) := ⟨_, rfl⟩
    have hcn : ((rs[2]'(by omega)).toNat : Int) = n := hn.symm
    have s1 : IntKind.i64.wrap (3 : Int) = 3 := IntWalk.i64_in _ (by omega)
    have t1 : (((({ data := #[100, 104, 109] } : ByteArray)[2]'(by decide)).toNat : Int) != n) = true := by
      rw [bne_iff_ne, show (({ data := #[100, 104, 109] } : ByteArray)[2]'(by decide)) = 109 from rfl, show ((109 : UInt8).toNat : Int) = 109 from rfl]; omega
    have I1 := Lib.hid (fun (a m : Nat) => quiet_la (w := w) (a := a) (n := m) (v := .int .i64 (-1)) ((IB.out (({ data := #[100, 104, 109] } : ByteArray).extract 3 3) (rs[2]'(by omega)) n _ (by intro b hb; rw [show (({ data := #[100, 104, 109] } : ByteArray).extract 3 3).data.toList = [] from by decide] at hb; simp at hb; try (subst hb; decide)) hn hc).mono fun e w' h => ⟨h.1, h.2.symm⟩))
    clear hn hc
    go_step3
    go_wp2
    rw [← RS.out, hw]
    refine wp_loop_rounds 1 ?_
    rw [rounds_succ]
    go_wp2
    go_step3
    go_upto_region 6 with fail
    go_quiet (fail)
    go_upto_region 7 with fail
    go_quiet ((go_at_call 41; exact I1.out _ _))
    go_wp2
    refine nG_ret (iB_ret (th_ret (iB_ret (th_ret (nG_ret ?_)))))
    go_ret
    exact ⟨rfl, below_drewN (Below.refl _ _) _⟩
  · have hw : wrap64 ((rs.size : Int) - 1) = 3 := (IntWalk.wrap64_in _ (by omega)).trans (by omega)
    go_step3
    go_wp2
    rw [← RS.out, hw]
    refine wp_loop_rounds 1 ?_
    rw [rounds_succ]
    go_wp2
    rw [Exit.noGoto_ret]
    go_ret
    exact ⟨rfl, Below.refl _ _⟩

/-- IndexRune of a wide rune. -/
theorem irune_high (r : Int) (w : World) (h0 : 128 ≤ r) (hv : Utf8.valid r = true) :
    Calls Tryz.prog 49 #[.string { data := #[100, 104, 109] }, .int .i32 r] w fun e w' => e = .returned (.int .i64 (-1)) ∧ Below w.heap.size w w' := by
  by_cases h : r = 65533
  · subst h; exact irune_err w
  · exact irune_wide r w h0 hv h

set_option maxRecDepth 1000000 in
set_option maxHeartbeats 8000000 in
/-- a short text. -/
theorem iany_short (s : ByteArray) (w : World) (h8 : s.size ≤ 8) :
    Calls Tryz.prog 39 #[.string s, .string { data := #[100, 104, 109] }] w fun e w' => e = .returned (.int .i64 (Lib.indexAny s.data.toList dhmL)) ∧ Below w.heap.size w w' := by
  have h8z : decide ((8 : Int) < (s.size : Int)) = false := decide_eq_false (by omega)
  go_enter Tryz.func39, Tryz.ntmps39
  go_wp2_with (go_at_call 50; refine (Tryz.strings_shouldUseASCIISet _ _).mono ?_; rintro e w' ⟨rfl, hw⟩; rw [hw, h8z])
  go_loopg [9, 10] s.size (fun g _ _ wx => ∃ i : Nat, i ≤ s.size ∧ g = s.size - i ∧ Hid (Lib.NoAny s.data.toList dhmL i) ∧ ItG w s i wx)
  case atStart => exact ⟨0, Nat.zero_le _, rfl, Lib.hid (Lib.NoAny.zero _ _), ItG.start _ _⟩
  case round =>
    obtain ⟨i, hi, hg, HN, hI⟩ := hrel
    have G := Lib.hid hg
    have IG := Lib.hid hI
    clear hg hI
    by_cases hlt : i < s.size
    · have hnx := fun ty => IG.out.next (P := Tryz.prog) hlt ty
      obtain ⟨j, hj⟩ : ∃ j, j = i + (Utf8.decode s i).2 := ⟨_, rfl⟩
      obtain ⟨c, hc⟩ : ∃ c : Nat, c = (Utf8.decode s i).1 := ⟨_, rfl⟩
      obtain ⟨w1, hw1⟩ : ∃ w1, w1 = World.itTo wr w.heap.size s j := ⟨_, rfl⟩
      have I1 := Lib.hid (show ItG w s j w1 by rw [hw1]; exact IG.out.to j)
      have hjs : i < j ∧ j ≤ s.size := by
        rw [hj]
        by_cases ha : (s[i]).toNat < 128
        · rw [decode_ascii s i hlt ha]; simp only; omega
        · have := decN_bytes (s.size - i) (s.get! i).toNat (s.get! (i + 1)).toNat (s.get! (i + 2)).toNat (s.get! (i + 3)).toNat (by omega) (by rw [get_le s i hlt]; omega) ((Utf8.decode s i).2 - 1) (by rw [← decode_at]; have := (decode_high s i hlt (by omega)).2; omega)
          have := (decode_high s i hlt (by omega)).2
          omega
      rw [← hj, ← hc, ← hw1] at hnx
      by_cases ha : (s[i]).toNat < 128
      · obtain ⟨x, hx⟩ : ∃ x : UInt8, x = s[i] := ⟨_, rfl⟩
        have hxl : s.data.toList[i]? = some x := by rw [hx]; exact Lib.data_getElem? s i hlt
        have hd := decode_ascii s i hlt ha
        have hcx : c = x.toNat := by rw [hc, hd, hx]
        have hji : j = i + 1 := by rw [hj, hd]
        have hcon := Lib.contains_iff_indexByte dhmL x
        have IR := Lib.hid (show Calls Tryz.prog 49 #[.string { data := #[100, 104, 109] }, .int .i32 c] w1 (fun e w' => e = .returned (.int .i64 (Lib.indexByte dhmL x)) ∧ w1 = w') from (Tryz.strings_IndexRune_ascii { data := #[100, 104, 109] } c w1 (by omega) (by rw [← hx] at ha; omega)).mono fun e w' h => ⟨by rw [h.1, hcx]; simp [dhmL], h.2.symm⟩)
        have HX := Lib.hid hxl
        have HJ := Lib.hid hji
        obtain ⟨q, hq⟩ : ∃ q, q = Lib.indexByte dhmL x := ⟨_, rfl⟩
        rw [← hq] at IR hcon
        clear hc hj hw1 hx hxl hd hcx hji hq ha
        cases hin : dhmL.contains x
        · have t1 : decide ((0 : Int) ≤ q) = false := by rw [← hcon, hin]
          have N1 := Lib.hid (HN.out.succ HX.out hin)
          clear hcon hin
          go_wp2_with fail
          refine IR.out.mono ?_; rintro e w2 ⟨rfl, rfl⟩
          go_wp2
          go_roundg (s.size - j)
          case measure => rw [G.out]; omega
          case rel => exact ⟨j, hjs.2, rfl, by rw [HJ.out]; exact N1, I1.out⟩
        · have t1 : decide ((0 : Int) ≤ q) = true := by rw [← hcon, hin]
          have E := Lib.hid (Lib.indexAny_hit HN.out HX.out hin)
          clear hcon hin
          go_wp2_with fail
          refine IR.out.mono ?_; rintro e w2 ⟨rfl, rfl⟩
          go_wp2
          go_ret
          exact ⟨by rw [E.out]; rfl, I1.out.lo⟩
      · have h128 := (decode_high s i hlt (by omega)).1
        have N1 := Lib.hid (dec_no s i hlt (by omega) HN.out)
        have IR := Lib.hid (show Calls Tryz.prog 49 #[.string { data := #[100, 104, 109] }, .int .i32 c] w1 (fun e w' => e = .returned (.int .i64 (-1)) ∧ Below w1.heap.size w1 w') from irune_high c w1 (by omega) (by rw [hc]; exact dec_valid s i hlt (by omega)))
        rw [← hj] at N1
        clear hc hj hw1 ha h128
        go_wp2_with fail
        refine IR.out.mono ?_; rintro e w2 ⟨rfl, hb2⟩
        have I2 := Lib.hid (I1.out.more hb2)
        clear hb2
        go_wp2
        go_roundg (s.size - j)
        case measure => rw [G.out]; omega
        case rel => exact ⟨j, hjs.2, rfl, N1, I2.out⟩
    · obtain rfl : i = s.size := by omega
      have hnx := fun ty => IG.out.stop (P := Tryz.prog) (Nat.lt_irrefl _) ty
      have E := Lib.hid (Lib.indexAny_none (s := s.data.toList) (chars := dhmL) (by rw [← Lib.size_eq]; exact HN.out))
      go_wp2
      go_ret
      exact ⟨by rw [E.out]; rfl, IG.out.lo⟩

/-- the set of the letters. -/
def dhmS : Array Value := Lib.setCells dhmL

theorem zeroSet (w : World) : (zeroValue 69).run Tryz.prog w = .ok (.agg (Array.replicate 256 (.bool false))) w := by kernel_rfl

theorem dhm_ascii : ∀ (j : Nat) b, ({ data := #[100, 104, 109] } : ByteArray).data.toList[j]? = some b → b.toNat < 128 := by
  intro j b h
  have := List.mem_of_getElem? h
  simp at this
  rcases this with rfl | rfl | rfl <;> decide

theorem mkset (w : World) : Calls Tryz.prog 51 #[.string { data := #[100, 104, 109] }] w fun e w' => e = .returned (.tuple #[.agg dhmS, .bool true]) ∧ w' = w.alloc (.cells dhmS 69) :=
  Tryz.strings_makeASCIISet zeroSet { data := #[100, 104, 109] } w (by decide) dhm_ascii

theorem infoSet : (Tryz.prog.info? 69).map (·.size) = some 256 := by kernel_rfl

set_option maxRecDepth 1000000 in
set_option maxHeartbeats 8000000 in
/-- a long text. -/
theorem iany_long (s : ByteArray) (w : World) (h8 : 8 < s.size) (hs : s.size ≤ 9223372036854775807) :
    Calls Tryz.prog 39 #[.string s, .string { data := #[100, 104, 109] }] w fun e w' => e = .returned (.int .i64 (Lib.indexAny s.data.toList dhmL)) ∧ Below w.heap.size w w' := by
  have h8z : decide ((8 : Int) < (s.size : Int)) = true := decide_eq_true (by omega)
  have hsz : dhmS.size = 256 := Lib.setCells_size _
  have hst : (storeCells ⟨w.heap.size + 1, 0, none⟩ dhmS.toList 0).run Tryz.prog ((w.alloc (.cells dhmS 69)).alloc (.cells (Array.replicate 256 (.bool false)) 69)) = .ok () ((w.alloc (.cells dhmS 69)).alloc (.cells dhmS 69)) := by
    have := run_storeCells_new (P := Tryz.prog) (w.alloc (.cells dhmS 69)) 69 (Array.replicate 256 (.bool false)) dhmS (by rw [hsz]; exact infoSet) (by rw [hsz, Array.size_replicate]) (Lib.setCells_one _)
    simpa using this
  obtain ⟨w2, hw2⟩ : ∃ w2, w2 = (w.alloc (.cells dhmS 69)).alloc (.cells dhmS 69) := ⟨_, rfl⟩
  have HC := Lib.hid (show ∀ x : UInt8, w2.cell? ⟨w.heap.size + 1, x.toNat, none⟩ = some (.bool (dhmL.contains x)) from fun x => by
    rw [hw2, World.cell?_alloc_at _ _ _ _ (by simp), dhmS, Lib.setCells_at])
  have B2 := Lib.hid (show Below w.heap.size w w2 by rw [hw2]; exact ((Below.refl _ _).alloc (Nat.le_refl _) _).alloc (by simp) _)
  have z := zeroSet
  have HW := Lib.hid hw2
  clear hw2
  go_enter Tryz.func39, Tryz.ntmps39
  go_wp2_with (first
    | (go_at_call 50; refine (Tryz.strings_shouldUseASCIISet _ _).mono ?_; rintro e w' ⟨rfl, hw⟩; rw [hw, h8z])
    | (go_at_call 51; refine (mkset _).mono ?_; rintro e w' ⟨rfl, hw⟩; rw [hw]))
  rw [← HW.out]
  clear z hst hsz
  go_loopg [8] s.size (fun g s8 wx => ∃ i : Nat, i ≤ s.size ∧ g = s.size - i ∧ s8 = .int .i64 i ∧ Hid (Lib.NoAny s.data.toList dhmL i) ∧ wx = w2)
  case atStart => exact ⟨0, Nat.zero_le _, rfl, rfl, Lib.hid (Lib.NoAny.zero _ _), rfl⟩
  case round =>
    obtain ⟨i, hi, hg, rfl, HN, rfl⟩ := hrel
    have G := Lib.hid hg
    clear hg
    have i0 : (0 : Int) ≤ (i : Int) := Int.natCast_nonneg _
    by_cases hlt : i < s.size
    · have i1 : (i : Int) < (s.size : Int) := by omega
      obtain ⟨x, hx⟩ : ∃ x : UInt8, x = s[i] := ⟨_, rfl⟩
      have HX := Lib.hid (show s.data.toList[i]? = some x by rw [hx]; exact Lib.data_getElem? s i hlt)
      obtain ⟨q, hq⟩ : ∃ q, q = dhmL.contains x := ⟨_, rfl⟩
      have CT := Lib.hid (show Calls Tryz.prog 52 #[.pointer (some ⟨w.heap.size + 1, 0, none⟩), .int .u8 (s[i]).toNat] wr (fun e w' => e = .returned (.bool q) ∧ wr = w') from by
        rw [← hx, hq]
        exact (Tryz.asciiSet_contains _ x _ _ (HC.out x)).mono fun e w' h => ⟨h.1, h.2.symm⟩)
      have HQ := Lib.hid hq.symm
      clear hx hq
      cases q
      · have N1 := Lib.hid (HN.out.succ HX.out HQ.out)
        go_wp2_with fail
        refine CT.out.mono ?_; rintro e w3 ⟨rfl, rfl⟩
        go_wp2
        go_roundg (s.size - (i + 1))
        case measure => rw [G.out]; omega
        case rel => exact ⟨i + 1, by omega, rfl, by go_num, N1, rfl⟩
      · have E := Lib.hid (Lib.indexAny_hit HN.out HX.out HQ.out)
        go_wp2_with fail
        refine CT.out.mono ?_; rintro e w3 ⟨rfl, rfl⟩
        go_wp2
        go_ret
        exact ⟨by rw [E.out]; rfl, B2.out⟩
    · obtain rfl : i = s.size := by omega
      have E := Lib.hid (Lib.indexAny_none (s := s.data.toList) (chars := dhmL) (by rw [← Lib.size_eq]; exact HN.out))
      have t0 : decide ((s.size : Int) < (s.size : Int)) = false := decide_eq_false (by omega)
      go_wp2
      go_ret
      exact ⟨by rw [E.out]; rfl, B2.out⟩

/-- any text. -/
theorem iany_any (s : ByteArray) (w : World) (hs : s.size ≤ 9223372036854775807) :
    Calls Tryz.prog 39 #[.string s, .string { data := #[100, 104, 109] }] w fun e w' => e = .returned (.int .i64 (Lib.indexAny s.data.toList dhmL)) ∧ Below w.heap.size w w' := by
  by_cases h : s.size ≤ 8
  · exact iany_short s w h
  · exact iany_long s w (by omega) hs

end Go.Proofs.YtiihkdefhhdfnaaGreatDoor
