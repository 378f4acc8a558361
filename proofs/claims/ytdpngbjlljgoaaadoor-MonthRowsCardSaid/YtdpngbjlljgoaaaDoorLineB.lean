/- The contracts of chimesame.Texts and line.Unfold. Conditions: Unfold: the pieces hold at most 4194304 bytes together. -/
import Derived.Test.YtdpngbjlljgoaaaDoorLineA
import Derived.Test.YtdpngbjlljgoaaaDoorShLine
import Derived.Test.YtdpngbjlljgoaaaDoorBuilder
import Derived.Deep.QuietTactic
import Derived.BigQuiet
import Derived.BigCall
import Derived.IntWalk
namespace Go.Proofs.YtdpngbjlljgoaaaDoor
open Go.RowKit
set_option linter.unusedSimpArgs false
set_option linter.unusedVariables false

/-- a slice of texts. -/
def StrsR (w : World) (v : Value) (L : List (List UInt8)) : Prop := Reads w v 1 L.length (strs L)

theorem StrsR.below {w w' : World} {v : Value} {L : List (List UInt8)} (h : StrsR w v L) (hb : Below w.heap.size w w') : StrsR w' v L := Reads.below h hb

theorem strsR_open {w : World} {v : Value} {L : List (List UInt8)} (h : StrsR w v L) : ∃ a cap, v = .slice a L.length cap ∧ L.length ≤ cap ∧ cap ≤ maxLen ∧
    (0 < L.length → ∃ b off, a = some ⟨b, off, none⟩ ∧ ∀ j (hj : j < L.length), w.cell? ⟨b, off + j, none⟩ = some (.string (bs L[j]))) := by
  obtain ⟨a, cap, h1, _, h3, h4, h5⟩ := h
  refine ⟨a, cap, h1, h3, h4, fun hn => ?_⟩
  obtain ⟨b, off, h6, h7⟩ := h5 hn
  exact ⟨b, off, h6, fun j hj => h7 j _ (by simp [strs, hj])⟩

theorem strsR_of_owns {w : World} {base : Nat} {e : TypeId} {v : Value} {L : List (List UInt8)} (h : w.ownsRow base e 1 v L.length (strs L)) : StrsR w v L := ownsRow_reads h

/-- are two lists of texts the same? -/
def textsB (a b : List (List UInt8)) : Bool := decide (a = b)

theorem textsB_no {a b : List (List UInt8)} {k : Nat} (h : k < a.length) (h2 : k < b.length) (e : a[k] ≠ b[k]) : textsB a b = false := by
  rw [textsB, decide_eq_false_iff_not]; rintro rfl; exact e rfl

theorem takeT_eq {a b : List (List UInt8)} {k : Nat} (h : k < a.length) (h2 : k < b.length) (e : a[k] = b[k]) (ht : a.take k = b.take k) : a.take (k + 1) = b.take (k + 1) := by
  rw [List.take_succ_eq_append_getElem h, List.take_succ_eq_append_getElem h2, ht, e]

set_option maxHeartbeats 1000000 in
theorem texts_any (u v : Value) (a b : List (List UInt8)) (w : World) (ha : StrsR w u a) (hb : StrsR w v b) :
    Calls Tryd.prog 25 #[u, v] w fun e w' => e = .returned (.bool (textsB a b)) ∧ Below w.heap.size w w' := by
  obtain ⟨p, cap, rfl, hc1, hc2, hcell⟩ := strsR_open ha
  obtain ⟨q, caq, rfl, hd1, hd2, hdell⟩ := strsR_open hb
  unfold maxLen at hc2 hd2
  have HC := Lib.hid hcell; have HD := Lib.hid hdell; clear hcell hdell ha hb
  by_cases hlen : a.length = b.length
  · have HL := Lib.hid hlen
    have hl2 : ((a.length : Int) != (b.length : Int)) = false := by simp; omega
    have hl3 : a.length ≤ b.length := by omega
    clear hlen
    go_enter Tryd.func25, Tryd.ntmps25
    go_wp2
    go_loopg [5] a.length (fun g i wr => ∃ k : Nat, k ≤ a.length ∧ i = .int .i64 k ∧ Hid (a.take k = b.take k) ∧ g = a.length - k ∧ ∃ n, wr = w.drewN n)
    case atStart => exact ⟨0, Nat.zero_le _, rfl, Lib.hid (by simp), rfl, 0, rfl⟩
    case round =>
      obtain ⟨k, hk, rfl, hS, hg, n, rfl⟩ := hrel
      have G := Lib.hid hg; clear hg
      by_cases hlt : k < a.length
      · obtain ⟨b1, off1, rfl, hcs⟩ := HC.out (by omega)
        obtain ⟨b2, off2, rfl, hds⟩ := HD.out (by omega)
        have hlb : k < b.length := by omega
        have c0 := hcs k hlt
        have d0 := hds k hlb
        obtain ⟨x, hx⟩ : ∃ x, x = bs a[k] := ⟨_, rfl⟩
        obtain ⟨y, hy⟩ : ∃ y, y = bs b[k] := ⟨_, rfl⟩
        rw [← hx] at c0; rw [← hy] at d0
        have X := Lib.hid (show x.toList = a[k] by rw [hx, bs_toList]); have Y := Lib.hid (show y.toList = b[k] by rw [hy, bs_toList]); clear hx hy hcs hds
        have i1 : (0 : Int) ≤ (k : Int) := Int.natCast_nonneg _
        have i2 : (k : Int) < (a.length : Int) := by omega
        have i3 : (k : Int) < (b.length : Int) := by omega
        by_cases he : a[k] = b[k]
        · have E := Lib.hid (takeT_eq hlt hlb he hS.out)
          have he2 : (x.toList == y.toList) = true := by rw [X.out, Y.out]; simpa using he
          have he3 : (x.toList != y.toList) = false := by simp [bne, he2]
          clear he
          go_wp2
          go_quiet (fail)
          go_wp2
          go_roundg (a.length - (k + 1))
          case measure => rw [G.out]; omega
          case rel => exact ⟨k + 1, by omega, by go_num, E, rfl, _, rfl⟩
        · have E := Lib.hid (textsB_no hlt hlb he)
          have he2 : (x.toList == y.toList) = false := by rw [X.out, Y.out]; simpa using he
          have he3 : (x.toList != y.toList) = true := by simp [bne, he2]
          clear he
          go_wp2
          go_quiet (fail)
          go_wp2
          go_ret
          exact ⟨by rw [E.out]; rfl, below_drewN (below_drewN (Below.refl _ _) _) _⟩
      · obtain rfl : k = a.length := by omega
        have E := Lib.hid (show textsB a b = true by have := hS.out; rw [List.take_length, HL.out, List.take_length] at this; rw [textsB, this]; simp)
        clear hS
        go_wp2
        go_ret
        exact ⟨by rw [E.out]; rfl, below_drewN (Below.refl _ _) _⟩
  · have HL := Lib.hid (show textsB a b = false by rw [textsB, decide_eq_false_iff_not]; rintro rfl; exact hlen rfl)
    have hl2 : ((a.length : Int) != (b.length : Int)) = true := by simp; omega
    clear hlen
    go_enter Tryd.func25, Tryd.ntmps25
    go_wp2
    go_ret
    exact ⟨by rw [HL.out]; rfl, Below.refl _ _⟩

theorem trim_sp (l : List UInt8) : Lib.trimPrefix l [32] = trimSp l := by
  unfold Lib.trimPrefix Lib.hasPrefix trimSp
  cases l with
  | nil => simp
  | cons c r =>
    by_cases h : c = 32
    · subst h; simp [List.isPrefixOf]
    · have h2 : ¬ (32 : UInt8) = c := fun e => h e.symm
      simp [List.isPrefixOf, h, h2]

theorem unfold_snoc (L : List (List UInt8)) (k : Nat) (h : k < L.length) : unfoldL (L.take (k + 1)) = unfoldL (L.take k) ++ (if k = 0 then L[k] else trimSp L[k]) := by
  cases L with
  | nil => simp at h
  | cons s r =>
    cases k with
    | zero => simp [unfoldL]
    | succ k =>
      have hk : k < r.length := by simpa using h
      rw [if_neg (by omega), List.take_succ_cons, List.take_succ_cons, unfoldL, unfoldL, List.take_succ_eq_append_getElem hk, List.map_append, List.flatten_append, ← List.append_assoc]
      congr 1
      simp

theorem trimSp_len (s : List UInt8) : (trimSp s).length ≤ s.length := by unfold trimSp; split <;> simp

theorem unfold_len : ∀ L : List (List UInt8), (unfoldL L).length ≤ L.flatten.length
  | [] => by simp [unfoldL]
  | s :: r => by
    have h : ∀ r : List (List UInt8), ((r.map trimSp).flatten).length ≤ r.flatten.length := by
      intro r
      induction r with
      | nil => simp
      | cons a b ih => have := trimSp_len a; simp only [List.map_cons, List.flatten_cons, List.length_append]; omega
    have := h r
    simp only [unfoldL, List.flatten_cons, List.length_append]; omega

theorem flat_take (L : List (List UInt8)) (k : Nat) : (L.take k).flatten.length ≤ L.flatten.length := by
  have h : (L.take k).flatten ++ (L.drop k).flatten = L.flatten := by rw [← List.flatten_append, List.take_append_drop]
  have := congrArg List.length h
  rw [List.length_append] at this
  omega

theorem flat_at (L : List (List UInt8)) (k : Nat) (h : k < L.length) : (L.take k).flatten.length + L[k].length ≤ L.flatten.length := by
  have := flat_take L (k + 1)
  rw [List.take_succ_eq_append_getElem h, List.flatten_append, List.length_append] at this
  simpa using this

set_option maxRecDepth 100000 in
set_option maxHeartbeats 4000000 in
theorem unfold_loop (v : Value) (L : List (List UInt8)) (w : World) (hL : StrsR w v L) (hs : L.flatten.length ≤ 4194304) (b : Bool) (hb : textsB (foldL (unfoldL L)) L = b) :
    Calls Tryd.prog 29 #[v] w fun e w' => e = .returned (.tuple #[.string (bs (if b = true then unfoldL L else [])), if b = true then .nilIface else .iface 113 (.int .i64 2)]) ∧ Below w.heap.size w w' := by
  obtain ⟨a, cap, rfl, hc1, hc2, hcell⟩ := strsR_open hL
  unfold maxLen at hc2
  have HB := Lib.hid hb; have HC := Lib.hid hcell; have HL := Lib.hid hL
  clear hb hcell hL
  go_enter Tryd.func29, Tryd.ntmps29
  go_wp2
  go_loopg [13] L.length (fun g i wr => ∃ k : Nat, k ≤ L.length ∧ i = .int .i64 k ∧ g = L.length - k ∧ BldR wr w.heap.size w.heap.size (unfoldL (L.take k)) ∧ Below w.heap.size w wr)
  case atStart => exact ⟨0, Nat.zero_le _, rfl, rfl, bldR_new w, (Below.refl _ _).alloc (Nat.le_refl _) _⟩
  case round =>
    obtain ⟨k, hk, rfl, hg, hI, hb⟩ := hrel
    have G := Lib.hid hg; have B := Lib.hid hb; have I := Lib.hid hI
    have hbs := hb.size
    clear hg
    by_cases hlt : k < L.length
    · obtain ⟨bm, om, rfl, hcs⟩ := HC.out (by omega)
      have c0 := cell_below hb (hcs k hlt)
      have SN := Lib.hid (unfold_snoc L k hlt)
      have hlen : (unfoldL (L.take k)).length + L[k].length ≤ 4194304 := by have h1 := flat_at L k hlt; have h2 := unfold_len (L.take k); omega
      obtain ⟨s, hs0⟩ : ∃ s, s = L[k] := ⟨_, rfl⟩
      rw [← hs0] at c0 hlen
      have S := Lib.hid hs0
      have ts := Lib.hid (trimSp_len s)
      clear hs0 hcs hb hI
      have i1 : (0 : Int) ≤ (k : Int) := Int.natCast_nonneg _
      have i2 : (k : Int) < (L.length : Int) := by omega
      by_cases k0 : 0 < k
      · have hd : decide ((0 : Int) < (k : Int)) = true := decide_eq_true (by omega)
        go_wp2_with fail
        refine (Tryd.strings_TrimPrefix (bs s) _ _).mono ?_; rintro e w2 ⟨rfl, hw2⟩
        subst hw2
        rw [show Lib.trimPrefix (bs s).data.toList ({ data := #[32] } : ByteArray).data.toList = trimSp s by rw [show (bs s).data.toList = s by simp [bs]]; exact trim_sp s]
        rw [show ({ data := (trimSp s).toArray } : ByteArray) = bs (trimSp s) from rfl]
        go_wp2_with fail
        refine (bwrite_any w.heap.size w.heap.size _ (trimSp s) _ I.out (by have := ts.out; omega) hbs).mono ?_
        rintro e w3 ⟨rfl, h1, b1⟩
        have R := Lib.hid (show BldR w3 w.heap.size w.heap.size (unfoldL (L.take (k + 1))) by
          rw [SN.out, if_neg (by omega), ← S.out]; exact h1)
        have B3 := Lib.hid (B.out.trans b1)
        clear h1 b1
        go_wp2
        go_roundg (L.length - (k + 1))
        case measure => rw [G.out]; omega
        case rel => exact ⟨k + 1, by omega, by go_num, rfl, R.out, B3.out⟩
      · have hd : decide ((0 : Int) < (k : Int)) = false := decide_eq_false (by omega)
        go_wp2_with fail
        refine (bwrite_any w.heap.size w.heap.size _ s _ I.out (by omega) hbs).mono ?_
        rintro e w3 ⟨rfl, h1, b1⟩
        have R := Lib.hid (show BldR w3 w.heap.size w.heap.size (unfoldL (L.take (k + 1))) by
          rw [SN.out, if_pos (by omega), ← S.out]; exact h1)
        have B3 := Lib.hid (B.out.trans b1)
        clear h1 b1
        go_wp2
        go_roundg (L.length - (k + 1))
        case measure => rw [G.out]; omega
        case rel => exact ⟨k + 1, by omega, by go_num, rfl, R.out, B3.out⟩
    · obtain rfl : k = L.length := by omega
      rw [List.take_length] at hI
      have I2 := Lib.hid hI
      have hul := unfold_len L
      clear hI hb I
      go_wp2_with fail
      refine (bstring_any w.heap.size w.heap.size (unfoldL L) _ I2.out).mono ?_
      rintro e w3 ⟨rfl, _, b3⟩
      have B3 := Lib.hid (B.out.trans b3); clear b3
      go_wp2_with fail
      refine (fold_any (unfoldL L) _ (by omega)).mono ?_
      rintro e w4 ⟨u, rfl, hown, b4⟩
      have hU := strsR_of_owns hown
      have hL4 := HL.out.below (B3.out.trans (b4.mono B3.out.size))
      have B4 := Lib.hid (B3.out.trans (b4.mono B3.out.size)); clear b4 hown
      obtain ⟨F, hF⟩ : ∃ F, F = foldL (unfoldL L) := ⟨_, rfl⟩
      rw [← hF] at hU
      have FE := Lib.hid (show textsB F L = b by rw [hF]; exact HB.out)
      have hFl : F.length ≤ 4194304 := by rw [hF, foldL_len]; omega
      have O := Lib.hid (show ∃ o, o = bs (unfoldL L) from ⟨_, rfl⟩)
      obtain ⟨o, ho⟩ := O.out
      rw [← ho]
      have OE := Lib.hid ho
      clear hF ho
      obtain ⟨a2, cap2, rfl, _, hd2, hfell⟩ := strsR_open hU
      obtain ⟨a3, cap3, e3, _, _, hdell⟩ := strsR_open hL4
      cases e3
      have HF := Lib.hid hfell; have HD := Lib.hid hdell
      unfold maxLen at hd2
      clear hfell hdell hU hL4 I2 hul
      by_cases hlen : F.length = L.length
      · have HE := Lib.hid hlen
        have hl2 : ((F.length : Int) != (L.length : Int)) = false := by simp; omega
        have hl3 : F.length ≤ L.length := by omega
        clear hlen
        go_wp2
        go_loopg [36] F.length (fun g i wr => ∃ k : Nat, k ≤ F.length ∧ i = .int .i64 k ∧ Hid (F.take k = L.take k) ∧ g = F.length - k ∧ ∃ n, wr = w4.drewN n)
        case atStart => exact ⟨0, Nat.zero_le _, rfl, Lib.hid (by simp), rfl, 0, rfl⟩
        case round =>
          obtain ⟨k, hk, rfl, hS, hg, n, rfl⟩ := hrel
          have G := Lib.hid hg; clear hg
          by_cases hlt : k < F.length
          · obtain ⟨b1, off1, rfl, hcs⟩ := HF.out (by omega)
            obtain ⟨b2, off2, rfl, hds⟩ := HD.out (by omega)
            have hlb : k < L.length := by omega
            have c0 := hcs k hlt
            have d0 := hds k hlb
            obtain ⟨x, hx⟩ : ∃ x, x = bs F[k] := ⟨_, rfl⟩
            obtain ⟨y, hy⟩ : ∃ y, y = bs L[k] := ⟨_, rfl⟩
            rw [← hx] at c0; rw [← hy] at d0
            have X := Lib.hid (show x.toList = F[k] by rw [hx, bs_toList]); have Y := Lib.hid (show y.toList = L[k] by rw [hy, bs_toList]); clear hx hy hcs hds
            have i1 : (0 : Int) ≤ (k : Int) := Int.natCast_nonneg _
            have i2 : (k : Int) < (F.length : Int) := by omega
            have i3 : (k : Int) < (L.length : Int) := by omega
            by_cases he : F[k] = L[k]
            · have E := Lib.hid (takeT_eq hlt hlb he hS.out)
              have he2 : (x.toList == y.toList) = true := by rw [X.out, Y.out]; simpa using he
              have he3 : (x.toList != y.toList) = false := by simp [bne, he2]
              clear he
              go_wp2
              go_roundg (F.length - (k + 1))
              case measure => rw [G.out]; omega
              case rel => exact ⟨k + 1, by omega, by go_num, E, rfl, _, rfl⟩
            · obtain rfl : b = false := by rw [← FE.out]; exact textsB_no hlt hlb he
              have he2 : (x.toList == y.toList) = false := by rw [X.out, Y.out]; simpa using he
              have he3 : (x.toList != y.toList) = true := by simp [bne, he2]
              clear he
              go_wp2
              go_ret2
              exact ⟨rfl, B4.out.trans (below_drewN (Below.refl _ _) _)⟩
          · obtain rfl : k = F.length := by omega
            obtain rfl : b = true := by
              have := hS.out
              rw [List.take_length, HE.out, List.take_length] at this
              rw [← FE.out, textsB, this]; simp
            clear hS
            go_wp2
            go_ret2
            exact ⟨by rw [← OE.out]; rfl, B4.out.trans (below_drewN (Below.refl _ _) _)⟩
      · obtain rfl : b = false := by rw [← FE.out, textsB, decide_eq_false_iff_not]; rintro rfl; exact hlen rfl
        have hl2 : ((F.length : Int) != (L.length : Int)) = true := by simp; omega
        clear hlen
        go_wp2
        go_ret2
        exact ⟨rfl, B4.out⟩

end Go.Proofs.YtdpngbjlljgoaaaDoor
