/- The law LineLong: as many pieces as it takes, for every number. The walk. -/
import Derived.Test.YtonoiaimknkpfaaFold
import Derived.Test.YtonoiaimknkpfaaDayA
import Derived.Laws.OwnMore
import Derived.Laws.IdiomStrings
namespace Go.Proofs.Ytonoiaimknkpfaa
open Go.RowKit

/-- bytes as cells. -/
def bytesV (l : List UInt8) : List Value := l.map fun b => .int .u8 (b.toNat : Int)

/-- so many bytes 120, the others 0. -/
def filled (n k : Nat) : List UInt8 := List.replicate k 120 ++ List.replicate (n - k) 0

theorem filled_len (n k : Nat) (h : k ≤ n) : (filled n k).length = n := by simp [filled]; omega

theorem filled_zero (n : Nat) : bytesV (filled n 0) = (madeCells (#[Value.int .u8 0]) n).toList := by
  apply List.ext_getElem
  · simp [bytesV, filled, madeCells]
  · intro i h1 h2
    simp [bytesV, filled, madeCells, Nat.mod_one]

theorem filled_step (n k : Nat) (h : k < n) : (bytesV (filled n k)).set k (.int .u8 120) = bytesV (filled n (k + 1)) := by
  obtain ⟨m, hm⟩ : ∃ m, n - k = m + 1 := ⟨n - k - 1, by omega⟩
  have hm2 : n - (k + 1) = m := by omega
  rw [filled, filled, hm, hm2, List.replicate_succ, List.replicate_succ', bytesV, bytesV, List.append_assoc, List.map_append, List.map_append]
  rw [List.set_append_right _ _ (by simp)]
  simp

theorem byteInfo : (Try.prog.info? 5).map (fun i => (i.zero, i.size, i.bytes)) = some (some (.int .u8 0), 1, 1) := by kernel_rfl

set_option maxRecDepth 100000 in
set_option maxHeartbeats 4000000 in
theorem lineLong_in (n : Nat) (w : World) (hn : n ≤ 2000) :
    Calls Try.prog 3 #[.int .i64 n] w fun e w' => e = .returned (.bool true) ∧ Below w.heap.size w w' := by
  obtain ⟨i0, hi, hz0, hz1, hz2⟩ := info_parts byteInfo
  have hfab : foldL [97, 98] = [[97, 98]] := by rw [foldL]; simp [foldRest_nil]
  have habs : bs [97, 98] = ({ data := #[97, 98] } : ByteArray) := rfl
  go_enter Try.func3, Try.ntmps3
  go_wp2_with fail
  rw [← habs]
  refine (fold_any [97, 98] _ (by simp)).mono ?_
  rintro e w1 ⟨v, rfl, hown, hb1⟩
  rw [hfab] at hown
  obtain ⟨g1, cap1, rfl, hg1, hg2⟩ := hown.form (by simp)
  have hc1 := hown.cellAt 0 (by simp)
  have hc2 : w1.cell? ⟨g1, 0, none⟩ = some (.string { data := #[97, 98] }) := hc1
  have hb1s := hb1.size
  clear hc1 hown hfab habs
  go_wp2_with (refine wpList_make_full _ rfl _ _ 24 rfl w.heap.size 5 i0 (.int .u8 0) 1 Try.underlying24 hi hz0 hz1 .i64 .i64 _ _ n rfl rfl rfl rfl (by rw [hz2]; omega) (by unfold maxLen; omega) hb1s ?_)
  intro w2 hown2 hgrow2
  have hb2 : Below w.heap.size w w2 := hb1.grown hgrow2 hb1s (fun k h => by cases h)
  rw [← filled_zero] at hown2
  have O2 := Lib.hid hown2
  clear hown2 hgrow2 hc2 hb1 hg1 hg2
  have hb1l : w.heap.size ≤ w1.heap.size := hb1s
  go_wp2
  go_loopg [5] n (fun g i wr => ∃ k : Nat, k ≤ n ∧ i = .int .i64 k ∧ g = n - k ∧ wr.ownsRow w.heap.size 5 1 (.slice (some ⟨w1.heap.size, 0, none⟩) n n) n (bytesV (filled n k)) ∧ Below w.heap.size w wr)
  case atStart => exact ⟨0, Nat.zero_le _, rfl, rfl, O2.out, hb2⟩
  case round =>
    obtain ⟨k, hk, rfl, hg, hown, hb⟩ := hrel
    have G := Lib.hid hg; clear hg
    by_cases hlt : k < n
    · have hl := filled_len n k hk
      have hc0 := hown.cellAt k (by omega)
      have hf0 := hown.frozenAt k
      have hk2 : k < (bytesV (filled n k)).length := by simp [bytesV, hl]; exact hlt
      obtain ⟨v0, hv0⟩ : ∃ v0 : Int, (bytesV (filled n k))[k]? = some (.int .u8 v0) := ⟨((filled n k)[k]'(by omega)).toNat, by rw [List.getElem?_eq_getElem hk2]; simp [bytesV]⟩
      rw [hv0] at hc0
      have hst := hown.stored k (.int .u8 120)
      rw [filled_step n k hlt] at hst
      have S := Lib.hid hst
      clear hst hv0 hk2 hl
      go_wp2
      go_roundg (n - (k + 1))
      case measure => rw [G.out]; omega
      case rel => exact ⟨k + 1, by omega, by go_num, rfl, S.out.1, hb.setCell hb1l _⟩
    · obtain rfl : k = n := by omega
      have hlen := filled_len k k (Nat.le_refl _)
      have HL := Lib.hid hlen
      have hcv := fun (hc : _) => run_convert_bytes_back (P := Try.prog) wr 24 9 5 ⟨w1.heap.size, 0, none⟩ k (filled k k) Try.underlying24 Try.underlying5 Try.underlying9 hc
      have hcells : ∀ j (hj : j < (filled k k).length), wr.cell? ((⟨w1.heap.size, 0, none⟩ : Addr).add j) = some (.int .u8 ((filled k k)[j].toNat : Int)) := by
        intro j hj
        have := hown.cellAt j (by omega)
        rw [show ((⟨w1.heap.size, 0, none⟩ : Addr).add j) = ⟨w1.heap.size, j, none⟩ by (by_cases h0 : j = 0 <;> simp [Addr.add, h0]), this]
        simp [bytesV, hj]
      have hcv2 := hcv hcells
      rw [hlen] at hcv2
      obtain ⟨sb, hsb⟩ : ∃ sb, sb = bs (filled k k) := ⟨_, rfl⟩
      have hcv3 : (convert 24 9 (.slice (some ⟨w1.heap.size, 0, none⟩) k k)).run Try.prog wr = .ok (.string sb) wr := by rw [hsb]; exact hcv2
      have SB := Lib.hid hsb
      clear hcv hcells hcv2 hlen hsb O2
      have hown' := Lib.hid hown; clear hown
      go_wp2_with fail
      rw [SB.out]
      refine (fold_any (filled k k) _ (by have := HL.out; omega)).mono ?_
      rintro e w3 ⟨v3, rfl, hown3, hb3⟩
      have hlen3 : (foldL (filled k k)).length = 1 + (k - 40 + 38) / 39 := by rw [foldL_len, HL.out]
      obtain ⟨g3, cap3, rfl, _, _⟩ := hown3.form (by rw [hlen3]; omega)
      rw [hlen3]
      have hbz := hb.trans (hb3.mono hb.size)
      clear hown3 hb3 hb SB hcv3 hown' hlen3 hlt
      have HL2 := HL
      clear HL
      go_wp2
      go_loopg [7, 8] (k + 39) (fun g t i wr => ∃ j : Nat, t = .int .i64 (1 + j : Int) ∧ i = .int .i64 (40 + 39 * j : Int) ∧ (j = 0 ∨ 40 + 39 * (j - 1) < k) ∧ g = k + 39 - 39 * j ∧ wr = w3)
      case atStart => exact ⟨0, rfl, rfl, .inl rfl, rfl, rfl⟩
      case round =>
        obtain ⟨j, rfl, rfl, hj, hg, rfl⟩ := hrel
        have G2 := Lib.hid hg; have J := Lib.hid hj
        have hj2 : 39 * j ≤ k + 39 := by omega
        clear hg hj
        by_cases hlt : 40 + 39 * j < k
        · have hlt2 : (40 : Int) + 39 * (j : Int) < (k : Int) := by omega
          go_wp2
          go_roundg (k + 39 - 39 * (j + 1))
          case measure => rw [G2.out]; omega
          case rel => exact ⟨j + 1, by go_num, by go_num, .inr (by omega), rfl, rfl⟩
        · have hlt2 : (k : Int) ≤ (40 : Int) + 39 * (j : Int) := by omega
          go_wp2
          go_ret
          exact ⟨ret_bool (by have := J.out; rw [beq_iff_eq]; omega), hbz⟩

theorem lineLong_top (n : Int) (w : World) (_ : (Lit.int .i64 n).wf = true) :
    Calls Try.prog 3 #[.int .i64 n] w fun e w' => e = .returned (.bool true) ∧ Below w.heap.size w w' := by
  by_cases h : 0 ≤ n ∧ n ≤ 2000
  · obtain ⟨k, rfl⟩ := Int.eq_ofNat_of_zero_le h.1
    exact lineLong_in k w (by omega)
  · have hfab : foldL [97, 98] = [[97, 98]] := by rw [foldL]; simp [foldRest_nil]
    have habs : bs [97, 98] = ({ data := #[97, 98] } : ByteArray) := rfl
    have hc : n < 0 ∨ 2000 < n := by omega
    clear h
    rcases hc with h | h
    all_goals
      go_enter Try.func3, Try.ntmps3
      go_wp2_with fail
      rw [← habs]
      refine (fold_any [97, 98] _ (by simp)).mono ?_
      rintro e w1 ⟨v, rfl, hown, hb1⟩
      rw [hfab] at hown
      obtain ⟨g1, cap1, rfl, hg1, hg2⟩ := hown.form (by simp)
      have hc1 := hown.cellAt 0 (by simp)
      have hc2 : w1.cell? ⟨g1, 0, none⟩ = some (.string { data := #[97, 98] }) := hc1
      clear hc1 hown hfab habs
      go_wp2
      go_ret
      exact ⟨rfl, hb1⟩

end Go.Proofs.Ytonoiaimknkpfaa
