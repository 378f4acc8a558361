/- The contract of line.Pair. Conditions: a text below 4294967281 bytes; the library's MaxLen holds a number. -/
import Derived.Test.YtdpngbjlljgoaaaDoorLineB
import Derived.Test.YtdpngbjlljgoaaaDoorShPair
import Derived.Laws.RangeAny
import Derived.Lib.IndexMore
import Derived.Lib.IndexBytes
namespace Go.Proofs.YtdpngbjlljgoaaaDoor
open Go.RowKit Go.Shelf
set_option linter.unusedSimpArgs false
set_option linter.unusedVariables false

/-- the library's MaxLen holds a number. -/
def MaxL (w : World) : Prop := ∃ m : Int, w.cell? ⟨2, 0, none⟩ = some (.int .i64 m)

theorem MaxL.below {w w' : World} (h : MaxL w) (hb : Below w.heap.size w w') : MaxL w' := by
  obtain ⟨m, hm⟩ := h
  exact ⟨m, cell_below hb hm⟩

/-- a predicate of runes that holds of all beyond ASCII is asked byte by byte. -/
theorem idx_bytes_from (p : Nat → Bool) (hp : ∀ x, 128 ≤ x → p x = true) (s : ByteArray) : ∀ (f pos : Nat), s.size ≤ pos + f →
    decide (0 ≤ Lib.idxFuncFrom p true s f pos) = (s.data.toList.drop pos).any (fun c => p c.toNat) := by
  intro f
  induction f with
  | zero =>
    intro pos h
    rw [List.drop_of_length_le (by have : s.data.toList.length = s.size := rfl; omega)]
    rfl
  | succ f ih =>
    intro pos h
    rw [Lib.idxFuncFrom]
    by_cases hlt : pos < s.size
    · rw [if_pos hlt]
      have hlt2 : pos < s.data.toList.length := hlt
      rw [List.drop_eq_getElem_cons hlt2, List.any_cons]
      have hg : s.data.toList[pos] = s[pos] := rfl
      rw [hg]
      by_cases ha : (s[pos]'hlt).toNat < 128
      · rw [decode_ascii s pos hlt ha]
        by_cases hq : p (s[pos]'hlt).toNat = true
        · rw [if_pos hq, hq, Bool.true_or]; simp
        · rw [if_neg hq, ih (pos + 1) (by omega)]
          have : p (s[pos]'hlt).toNat = false := by simpa using hq
          rw [this, Bool.false_or]
      · have h1 := (decode_high s pos hlt (by omega)).1
        rw [if_pos (hp _ h1), hp _ (by omega : 128 ≤ (s[pos]'hlt).toNat), Bool.true_or]; simp
    · rw [if_neg hlt, List.drop_of_length_le (by have : s.data.toList.length = s.size := rfl; omega)]
      rfl

theorem idx_bytes (p : Nat → Bool) (hp : ∀ x, 128 ≤ x → p x = true) (l : List UInt8) : decide (0 ≤ Lib.idxFunc p true (bs l)) = l.any (fun c => p c.toNat) := by
  have h := idx_bytes_from p hp (bs l) (bs l).size 0 (by omega)
  rw [show (bs l).data.toList = l by simp [bs], List.drop_zero] at h
  exact h

/-- is a number none of a capital? -/
def capOff (x : Nat) : Bool := decide (x < 65) || decide (90 < x)

theorem pair_pred (w : World) : PredAt Tryd.prog 79 #[] encR capOff w := fun W x hb => by
  show Calls Tryd.prog 79 #[.int .i32 (x : Int)] W _
  by_cases h1 : x < 65
  · have h2 : (x : Int) < 65 := by omega
    have h3 : capOff x = true := by simp [capOff, h1]
    rw [h3]
    clear h3
    go_enter Tryd.func79, Tryd.ntmps79
    go_wp2
    go_ret
    exact ⟨rfl, 0, rfl⟩
  · have h2 : ¬ (x : Int) < 65 := by omega
    by_cases h4 : 90 < x
    · have h5 : (90 : Int) < (x : Int) := by omega
      have h3 : capOff x = true := by simp [capOff, h4]
      rw [h3]
      clear h3
      go_enter Tryd.func79, Tryd.ntmps79
      go_wp2
      go_ret
      exact ⟨rfl, 0, rfl⟩
    · have h5 : ¬ (90 : Int) < (x : Int) := by omega
      have h3 : capOff x = false := by simp [capOff, h1, h4]
      rw [h3]
      clear h3
      go_enter Tryd.func79, Tryd.ntmps79
      go_wp2
      go_ret
      exact ⟨rfl, 0, rfl⟩

/-- is a text a key? -/
def keyB (k : List UInt8) : Bool := !(k.any fun c => capOff c.toNat) && !k.isEmpty && decide (k.length ≤ 12)

/-- a pair of a key and a value; the fault. -/
def pairF (l : List UInt8) : List UInt8 × List UInt8 × Int :=
  if (Lib.cut l [58]).2.2 = true ∧ keyB (Lib.cut l [58]).1 = true then ((Lib.cut l [58]).1, (Lib.cut l [58]).2.1, 0) else ([], [], 2)

/-- what Pair answers. -/
def PairP (l : List UInt8) (w : World) (e : Ending) (w' : World) : Prop :=
  e = .returned (.tuple #[.string (bs (pairF l).1), .string (bs (pairF l).2.1), errV (pairF l).2.2]) ∧ Below w.heap.size w w'

theorem pairF_no {l : List UInt8} (h : (Lib.cut l [58]).2.2 = false ∨ keyB (Lib.cut l [58]).1 = false) : pairF l = ([], [], 2) := by
  unfold pairF
  rw [if_neg]
  rintro ⟨h1, h2⟩
  rcases h with h | h
  · rw [h] at h1; cases h1
  · rw [h] at h2; cases h2

set_option maxRecDepth 100000 in
set_option maxHeartbeats 2000000 in
theorem pair_any (l : List UInt8) (w : World) (hs : l.length < 4294967281) (hm : MaxL w) :
    Calls Tryd.prog 31 #[.string (bs l)] w (PairP l w) := by
  obtain ⟨m, hm⟩ := hm
  have hcut := Tryd.strings_Cut (bs l) (bs [58]) m w (by rw [bs_size]; exact hs) hm
  rw [show (bs l).data.toList = l by simp [bs], show (bs [58]).data.toList = [58] by simp [bs]] at hcut
  obtain ⟨k, hk⟩ : ∃ k, k = (Lib.cut l [58]).1 := ⟨_, rfl⟩
  obtain ⟨v, hv⟩ : ∃ v, v = (Lib.cut l [58]).2.1 := ⟨_, rfl⟩
  obtain ⟨f, hf⟩ : ∃ f, f = (Lib.cut l [58]).2.2 := ⟨_, rfl⟩
  rw [← hk, ← hv, ← hf] at hcut
  change Calls Tryd.prog 77 #[.string (bs l), .string { data := #[58] }] w (fun e w' => e = .returned (.tuple #[.string (bs k), .string (bs v), .bool f]) ∧ ∃ n, w' = w.drewN n) at hcut
  have C := Lib.hid hcut
  have eg : ∀ args w, (callFunc 79 args).run Tryd.prog w = .ok (.enter 79 args) w := enters_of Tryd.func79 (by kernel_rfl) rfl
  have hfun := fun w => Tryd.strings_ContainsFunc 79 #[] eg capOff (bs k) w (pair_pred w)
  rw [idx_bytes capOff (fun x hx => by simp [capOff]; omega) k] at hfun
  obtain ⟨o, ho⟩ : ∃ o, o = k.any fun c => capOff c.toNat := ⟨_, rfl⟩
  rw [← ho] at hfun
  have FN := Lib.hid hfun
  have K := Lib.hid hk; have V := Lib.hid hv; have F := Lib.hid hf; have O := Lib.hid ho
  clear hcut hfun hk hv hf ho hm eg
  obtain ⟨ks, hks⟩ : ∃ ks, ks = bs k := ⟨_, rfl⟩
  have KS := Lib.hid hks
  have KL := Lib.hid (show ks.toList = k by rw [hks, bs_toList])
  have KZ := Lib.hid (show ks.size = k.length by rw [hks, bs_size])
  clear hks
  by_cases hyes : f = true ∧ keyB k = true
  · obtain ⟨rfl, hkey⟩ := hyes
    have hkk := hkey
    simp only [keyB, Bool.and_eq_true, Bool.not_eq_true', decide_eq_true_eq] at hkk
    obtain ⟨⟨h1, h2⟩, h3⟩ := hkk
    obtain rfl : o = false := by rw [O.out]; exact h1
    have P := Lib.hid (show pairF l = (k, v, 0) by unfold pairF; rw [← K.out, ← V.out, ← F.out, if_pos ⟨rfl, hkey⟩])
    have q1 : ks.toList.isEmpty = false := by rw [KL.out]; exact h2
    have q2 : ¬ ks.toList = [] := by rw [KL.out]; intro h; rw [h] at h2; cases h2
    have q3 : decide ((12 : Int) < (ks.size : Int)) = false := by rw [KZ.out]; simp; omega
    have q4 : decide (12 < ks.size) = false := by rw [KZ.out]; simp; omega
    clear hkey h1 h2 h3
    go_enter Tryd.func31, Tryd.ntmps31
    go_wp2_with fail
    refine C.out.mono ?_; rintro e w1 ⟨rfl, n, rfl⟩
    rw [← KS.out]
    go_wp2_with fail
    rw [KS.out]
    refine (FN.out _).mono ?_; rintro e w2 ⟨rfl, hb⟩
    rw [← KS.out]
    have B := Lib.hid ((below_drewN (Below.refl w.heap.size w) n).trans hb)
    clear hb
    go_wp2
    refine bodyPost_ret (v := .tuple #[.string ks, .string (bs v), .nilIface]) (by simp [results, Tryd.results31, go_sem]) rfl ?_
    exact ⟨by rw [P.out, KS.out]; rfl, B.out⟩
  · have P := Lib.hid (show pairF l = ([], [], 2) by
      apply pairF_no
      rw [← K.out, ← F.out]
      cases f
      · exact .inl rfl
      · refine .inr ?_
        cases h : keyB k
        · rfl
        · exact absurd ⟨rfl, h⟩ hyes)
    have hno : f = false ∨ o = true ∨ k = [] ∨ 12 < k.length := by
      cases f
      · exact .inl rfl
      · refine .inr ?_
        cases o
        · refine .inr ?_
          by_cases hk0 : k = []
          · exact .inl hk0
          · refine .inr ?_
            by_cases hl : 12 < k.length
            · exact hl
            · exact absurd ⟨rfl, by simp [keyB, ← O.out, hk0]; omega⟩ hyes
        · exact .inl rfl
    clear hyes
    by_cases hf0 : f = false
    · subst hf0
      clear hno
      go_enter Tryd.func31, Tryd.ntmps31
      go_wp2_with fail
      refine C.out.mono ?_; rintro e w1 ⟨rfl, n, rfl⟩
      rw [← KS.out]
      go_wp2_with fail
      rw [KS.out]
      refine (FN.out _).mono ?_; rintro e w2 ⟨rfl, hb⟩
      rw [← KS.out]
      have B := Lib.hid ((below_drewN (Below.refl w.heap.size w) n).trans hb)
      clear hb
      go_wp2
      refine bodyPost_ret (v := .tuple #[.string (bs []), .string (bs []), .iface 113 (.int .i64 2)]) (by simp [results, Tryd.results31, go_sem, bs]) rfl ?_
      exact ⟨by rw [P.out]; rfl, B.out⟩
    · obtain rfl : f = true := by simpa using hf0
      by_cases ho0 : o = true
      · subst ho0
        clear hno
        go_enter Tryd.func31, Tryd.ntmps31
        go_wp2_with fail
        refine C.out.mono ?_; rintro e w1 ⟨rfl, n, rfl⟩
        rw [← KS.out]
        go_wp2_with fail
        rw [KS.out]
        refine (FN.out _).mono ?_; rintro e w2 ⟨rfl, hb⟩
        rw [← KS.out]
        have B := Lib.hid ((below_drewN (Below.refl w.heap.size w) n).trans hb)
        clear hb
        go_wp2
        refine bodyPost_ret (v := .tuple #[.string (bs []), .string (bs []), .iface 113 (.int .i64 2)]) (by simp [results, Tryd.results31, go_sem, bs]) rfl ?_
        exact ⟨by rw [P.out]; rfl, B.out⟩
      · obtain rfl : o = false := by simpa using ho0
        have hc : (ks.toList = [] ∧ ks.toList.isEmpty = true) ∨ ((¬ ks.toList = [] ∧ ks.toList.isEmpty = false) ∧ 12 < ks.size) := by
          rw [KL.out, KZ.out]
          by_cases hk0 : k = []
          · exact .inl ⟨hk0, by rw [hk0]; rfl⟩
          · refine .inr ⟨⟨hk0, by simpa using hk0⟩, ?_⟩
            rcases hno with h | h | h | h
            · cases h
            · cases h
            · exact absurd h hk0
            · exact h
        clear hno hf0 ho0
        rcases hc with ⟨q2, q1⟩ | ⟨⟨q2, q1⟩, q3⟩
        · go_enter Tryd.func31, Tryd.ntmps31
          go_wp2_with fail
          refine C.out.mono ?_; rintro e w1 ⟨rfl, n, rfl⟩
          rw [← KS.out]
          go_wp2_with fail
          rw [KS.out]
          refine (FN.out _).mono ?_; rintro e w2 ⟨rfl, hb⟩
          rw [← KS.out]
          have B := Lib.hid ((below_drewN (Below.refl w.heap.size w) n).trans hb)
          clear hb
          go_wp2
          refine bodyPost_ret (v := .tuple #[.string (bs []), .string (bs []), .iface 113 (.int .i64 2)]) (by simp [results, Tryd.results31, go_sem, bs]) rfl ?_
          exact ⟨by rw [P.out]; rfl, B.out⟩
        · have q4 : decide ((12 : Int) < (ks.size : Int)) = true := decide_eq_true (by omega)
          have q5 : decide (12 < ks.size) = true := decide_eq_true q3
          go_enter Tryd.func31, Tryd.ntmps31
          go_wp2_with fail
          refine C.out.mono ?_; rintro e w1 ⟨rfl, n, rfl⟩
          rw [← KS.out]
          go_wp2_with fail
          rw [KS.out]
          refine (FN.out _).mono ?_; rintro e w2 ⟨rfl, hb⟩
          rw [← KS.out]
          have B := Lib.hid ((below_drewN (Below.refl w.heap.size w) n).trans hb)
          clear hb
          go_wp2
          refine bodyPost_ret (v := .tuple #[.string (bs []), .string (bs []), .iface 113 (.int .i64 2)]) (by simp [results, Tryd.results31, go_sem, bs]) rfl ?_
          exact ⟨by rw [P.out]; rfl, B.out⟩

theorem cut_back {l : List UInt8} (h : (Lib.cut l [58]).2.2 = true) : (Lib.cut l [58]).1 ++ 58 :: (Lib.cut l [58]).2.1 = l := by
  unfold Lib.cut at h ⊢
  rcases Lib.index_spec l [58] with ⟨h1, _⟩ | ⟨i, h1, h2, h3, _⟩
  · rw [h1] at h; simp at h
  · rw [h1, if_pos (by omega)]
    simp only [Int.toNat_natCast]
    have : (l.drop i) = 58 :: l.drop (i + 1) := by
      unfold Lib.occAt at h3
      have hd := h3
      cases hl : l.drop i with
      | nil => rw [hl] at hd; simp [List.isPrefixOf] at hd
      | cons c r =>
        rw [hl] at hd
        simp [List.isPrefixOf] at hd
        have : r = l.drop (i + 1) := by rw [← List.drop_drop, hl]; rfl
        rw [← hd, this]
    show l.take i ++ 58 :: l.drop (i + 1) = l
    rw [← this, List.take_append_drop]

theorem pairF_back {l : List UInt8} (h : (pairF l).2.2 = 0) : (pairF l).1 ++ 58 :: (pairF l).2.1 = l := by
  unfold pairF at h ⊢
  by_cases hc : (Lib.cut l [58]).2.2 = true ∧ keyB (Lib.cut l [58]).1 = true
  · rw [if_pos hc]; exact cut_back hc.1
  · rw [if_neg hc] at h; simp at h

end Go.Proofs.YtdpngbjlljgoaaaDoor
