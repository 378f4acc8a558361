/- The contracts of line.Escape and line.Plain. Condition: texts of at most 4194304 bytes. -/
import Derived.Test.YtdpngbjlljgoaaaDoorLineM
import Derived.Test.YtdpngbjlljgoaaaDoorDayA
import Derived.Deep.AppendLies
import Derived.Laws.OwnMore
import Derived.Laws.IdiomStrings
import Derived.Laws.BytesArg
import Derived.Lib.ConvBytes
import Derived.Lib.SmallJoins
namespace Go.Proofs.YtdpngbjlljgoaaaDoor
open Go.RowKit
set_option linter.unusedSimpArgs false
set_option linter.unusedVariables false

/-- bytes as cells. -/
def byV (l : List UInt8) : List Value := l.map fun b => .int .u8 (b.toNat : Int)

theorem u8Info : (Tryd.prog.info? 5).map (fun i => (i.zero, i.size, i.bytes)) = some (some (.int .u8 0), 1, 1) := by kernel_rfl

theorem byV_snoc (a b : List UInt8) : byV (a ++ b) = byV a ++ byV b := by simp [byV]

/-- 'string(b)' of a slice of bytes that the call owns. -/
theorem conv_own {w : World} {base : Nat} {v : Value} {n : Nat} (x : List UInt8) (hn : n = x.length) (h : w.ownsRow base 5 1 v n (byV x)) :
    (convert 125 9 v).run Tryd.prog w = .ok (.string (bs x)) w := by
  subst hn
  rcases h.2 with ⟨rfl, h0⟩ | ⟨g, cap, cur, rfl, hb, hg, hn, hc, hs, ht⟩
  · have hx : x = [] := List.length_eq_zero_iff.1 h0
    subst hx
    exact run_convert_bytes_nil (P := Tryd.prog) w 125 5 Tryd.underlying125 Tryd.underlying5 0 0 _ Tryd.underlying9
  · refine run_convert_bytes_back (P := Tryd.prog) w 125 9 5 ⟨g, 0, none⟩ cap x Tryd.underlying125 Tryd.underlying5 Tryd.underlying9 fun j hj => ?_
    rw [show ((⟨g, 0, none⟩ : Addr).add j) = ⟨g, j, none⟩ by (by_cases h0 : j = 0 <;> simp [Addr.add, h0])]
    rw [h.cellAt j (by omega)]
    simp [byV, hj]

/-- what holds at the loop's head of Escape. -/
def EscI (wb : World) (l : List UInt8) (g : Nat) (v i : Value) (wr : World) : Prop :=
  ∃ k : Nat, k ≤ l.length ∧ i = .int .i64 k ∧ g = l.length - k ∧ wr.ownsRow wb.heap.size 5 1 v (esc (l.take k)).length (byV (esc (l.take k))) ∧ Below wb.heap.size wb wr

theorem escI_next {wb w3 : World} {l d : List UInt8} {v : Value} {k m : Nat} (h : k < l.length) (hd : escB l[k] = d) (hm : m = (esc (l.take k)).length + d.length)
    (ho : w3.ownsRow wb.heap.size 5 1 v m (byV (esc (l.take k)) ++ byV d)) (hb : Below wb.heap.size wb w3) : EscI wb l (l.length - (k + 1)) v (.int .i64 ((k + 1 : Nat) : Int)) w3 := by
  have e : esc (l.take (k + 1)) = esc (l.take k) ++ d := by rw [List.take_succ_eq_append_getElem h, esc_snoc, hd]
  refine ⟨k + 1, by omega, rfl, rfl, ?_, hb⟩
  rw [e, byV_snoc, List.length_append]
  subst hm
  exact ho

set_option maxRecDepth 100000 in
set_option maxHeartbeats 4000000 in
theorem escape_any (l : List UInt8) (w : World) (hs : l.length ≤ 4194304) :
    Calls Tryd.prog 32 #[.string (bs l)] w fun e w' => e = .returned (.string (bs (esc l))) ∧ Below w.heap.size w w' := by
  obtain ⟨i0, hi, hz0, hz1, hz2⟩ := info_parts u8Info
  have hcv := Lib.run_convert_string_bytes (P := Tryd.prog) w 9 125 5 (bs l) Tryd.underlying9 Tryd.underlying125 Tryd.underlying5
  obtain ⟨cap, hcap⟩ : ∃ cap, cap = grownCap w (bs l).size 0 5 := ⟨_, rfl⟩
  obtain ⟨wb, hwb⟩ : ∃ wb, wb = Lib.bytesWorld w 5 (bs l) := ⟨_, rfl⟩
  have hbw : Below w.heap.size w wb := by rw [hwb]; exact Joins.below_bytesWorld _ w _ _ (Nat.le_refl _)
  have hcell : ∀ j (hj : j < l.length), wb.cell? ⟨w.heap.size, j, none⟩ = some (.int .u8 (l[j].toNat : Int)) := fun j hj => by
    rw [hwb, Lib.bytesWorld_cell w _ _ j (by rw [bs_size]; exact hj)]
    simp [bs, hj]
  have hbz : wb.heap.size = w.heap.size + 1 := by rw [hwb]; exact Lib.bytesWorld_size _ _ _
  rw [← hcap, ← hwb, bs_size] at hcv
  have BW := Lib.hid hbw; have CL := Lib.hid hcell; have BZ := Lib.hid hbz
  have SZ := Lib.hid (bs_size l)
  clear hcap hwb hbw hcell hbz
  go_enter Tryd.func32, Tryd.ntmps32
  go_wp2
  clear hcv
  go_loopg [3, 9] l.length (EscI wb l)
  case atStart => exact ⟨0, Nat.zero_le _, rfl, rfl, World.ownsRow_nil _ _ _ _, Below.refl _ _⟩
  case round =>
    obtain ⟨k, hk, rfl, hg, hown, hb⟩ := hrel
    have G := Lib.hid hg; clear hg
    have B := Lib.hid hb
    by_cases hlt : k < l.length
    · have c0 := cell_below hb (CL.out k hlt)
      have hlen := esc_len (l.take k)
      have hlt2 : (esc (l.take k)).length ≤ 8388608 := by have := List.length_take_le k l; omega
      obtain ⟨c, hc⟩ : ∃ c, c = l[k] := ⟨_, rfl⟩
      rw [← hc] at c0
      have C := Lib.hid hc
      obtain ⟨n, hn⟩ : ∃ n : Int, n = (c.toNat : Int) := ⟨_, rfl⟩
      rw [← hn] at c0
      have N := Lib.hid hn
      clear hc hn hlen hb
      have hbs := B.out.size
      have i1 : (0 : Int) ≤ (k : Int) := Int.natCast_nonneg _
      have i2 : (k : Int) < (l.length : Int) := by omega
      have NU := Lib.hid (show ∀ m : Nat, m < 256 → (n = (m : Int) ↔ c = UInt8.ofNat m) from fun m hm => by rw [N.out, ← UInt8.toNat_inj, UInt8.toNat_ofNat']; omega)
      by_cases a92 : n = 92
      · have e92 : (n == 92) = true := by simpa using a92
        have hc : c = 92 := (NU.out 92 (by omega)).1 a92
        clear a92
        have E := Lib.hid (show escB l[k] = [92, c] by rw [← C.out]; rw [hc]; rfl)
        go_wp2_with (at_builtin; refine wpList_append_lies _ rfl _ _ 125 rfl wb.heap.size 5 i0 _ 1 1 Tryd.underlying125 hi hz0 hz1 hz2 rfl (by decide) _ _ _ rfl (hown.alloc _) ⟨wr.heap.size, 0, none⟩ 2 2 [.int .u8 92, .int .u8 n] rfl rfl ?c1x1 ?c1x2 (by decide) (by unfold maxLen; omega) (by omega) (by simp; omega) _ rfl ?_)
        case c1x1 => exact World.news_of_block (cs := #[.int .u8 92, .int .u8 n]) (heap_alloc_new wr _)
        case c1x2 => intro u hu; simp at hu; first | (subst hu; rfl) | (rcases hu with rfl | rfl <;> rfl)
        intro g cap1 w1 hown1 hgrow1 hat1 hlt1
        have hB1 : Below wb.heap.size wb w1 := (B.out.alloc hbs _).grown hgrow1 (by simp; omega) (ownBlock_ge hown)
        have R := Lib.hid (escI_next (m := (esc (l.take k)).length + 2) hlt E.out rfl (by rw [show byV [92, c] = [.int .u8 92, .int .u8 n] by simp [byV, N.out]]; exact hown1) hB1)
        clear hB1 hown1 hgrow1 hat1 hlt1 hown
        go_wp2
        go_roundg (l.length - (k + 1))
        case measure => rw [G.out]; omega
        case rel => exact R.out
      have e92 : (n == 92) = false := by simpa using a92
      by_cases a59 : n = 59
      · have e59 : (n == 59) = true := by simpa using a59
        have hc : c = 59 := (NU.out 59 (by omega)).1 a59
        clear a59
        have E := Lib.hid (show escB l[k] = [92, c] by rw [← C.out]; rw [hc]; rfl)
        go_wp2_with (at_builtin; refine wpList_append_lies _ rfl _ _ 125 rfl wb.heap.size 5 i0 _ 1 1 Tryd.underlying125 hi hz0 hz1 hz2 rfl (by decide) _ _ _ rfl (hown.alloc _) ⟨wr.heap.size, 0, none⟩ 2 2 [.int .u8 92, .int .u8 n] rfl rfl ?c2x1 ?c2x2 (by decide) (by unfold maxLen; omega) (by omega) (by simp; omega) _ rfl ?_)
        case c2x1 => exact World.news_of_block (cs := #[.int .u8 92, .int .u8 n]) (heap_alloc_new wr _)
        case c2x2 => intro u hu; simp at hu; first | (subst hu; rfl) | (rcases hu with rfl | rfl <;> rfl)
        intro g cap1 w1 hown1 hgrow1 hat1 hlt1
        have hB1 : Below wb.heap.size wb w1 := (B.out.alloc hbs _).grown hgrow1 (by simp; omega) (ownBlock_ge hown)
        have R := Lib.hid (escI_next (m := (esc (l.take k)).length + 2) hlt E.out rfl (by rw [show byV [92, c] = [.int .u8 92, .int .u8 n] by simp [byV, N.out]]; exact hown1) hB1)
        clear hB1 hown1 hgrow1 hat1 hlt1 hown
        go_wp2
        go_roundg (l.length - (k + 1))
        case measure => rw [G.out]; omega
        case rel => exact R.out
      have e59 : (n == 59) = false := by simpa using a59
      by_cases a44 : n = 44
      · have e44 : (n == 44) = true := by simpa using a44
        have hc : c = 44 := (NU.out 44 (by omega)).1 a44
        clear a44
        have E := Lib.hid (show escB l[k] = [92, c] by rw [← C.out]; rw [hc]; rfl)
        go_wp2_with (at_builtin; refine wpList_append_lies _ rfl _ _ 125 rfl wb.heap.size 5 i0 _ 1 1 Tryd.underlying125 hi hz0 hz1 hz2 rfl (by decide) _ _ _ rfl (hown.alloc _) ⟨wr.heap.size, 0, none⟩ 2 2 [.int .u8 92, .int .u8 n] rfl rfl ?c3x1 ?c3x2 (by decide) (by unfold maxLen; omega) (by omega) (by simp; omega) _ rfl ?_)
        case c3x1 => exact World.news_of_block (cs := #[.int .u8 92, .int .u8 n]) (heap_alloc_new wr _)
        case c3x2 => intro u hu; simp at hu; first | (subst hu; rfl) | (rcases hu with rfl | rfl <;> rfl)
        intro g cap1 w1 hown1 hgrow1 hat1 hlt1
        have hB1 : Below wb.heap.size wb w1 := (B.out.alloc hbs _).grown hgrow1 (by simp; omega) (ownBlock_ge hown)
        have R := Lib.hid (escI_next (m := (esc (l.take k)).length + 2) hlt E.out rfl (by rw [show byV [92, c] = [.int .u8 92, .int .u8 n] by simp [byV, N.out]]; exact hown1) hB1)
        clear hB1 hown1 hgrow1 hat1 hlt1 hown
        go_wp2
        go_roundg (l.length - (k + 1))
        case measure => rw [G.out]; omega
        case rel => exact R.out
      have e44 : (n == 44) = false := by simpa using a44
      by_cases a10 : n = 10
      · have e10 : (n == 10) = true := by simpa using a10
        have hc : c = 10 := (NU.out 10 (by omega)).1 a10
        clear a10 a92 a59 a44
        have E := Lib.hid (show escB l[k] = [92, 110] by rw [← C.out]; rw [hc]; rfl)
        go_wp2_with (at_builtin; refine wpList_append_lies _ rfl _ _ 125 rfl wb.heap.size 5 i0 _ 1 1 Tryd.underlying125 hi hz0 hz1 hz2 rfl (by decide) _ _ _ rfl (hown.alloc _) ⟨wr.heap.size, 0, none⟩ 2 2 [.int .u8 92, .int .u8 110] rfl rfl ?c4x1 ?c4x2 (by decide) (by unfold maxLen; omega) (by omega) (by simp; omega) _ rfl ?_)
        case c4x1 => exact World.news_of_block (cs := #[.int .u8 92, .int .u8 110]) (heap_alloc_new wr _)
        case c4x2 => intro u hu; simp at hu; first | (subst hu; rfl) | (rcases hu with rfl | rfl <;> rfl)
        intro g cap1 w1 hown1 hgrow1 hat1 hlt1
        have hB1 : Below wb.heap.size wb w1 := (B.out.alloc hbs _).grown hgrow1 (by simp; omega) (ownBlock_ge hown)
        have R := Lib.hid (escI_next (m := (esc (l.take k)).length + 2) hlt E.out rfl (by rw [show byV [92, 110] = [.int .u8 92, .int .u8 110] by simp [byV, N.out]]; exact hown1) hB1)
        clear hB1 hown1 hgrow1 hat1 hlt1 hown
        go_wp2
        go_roundg (l.length - (k + 1))
        case measure => rw [G.out]; omega
        case rel => exact R.out
      · have e10 : (n == 10) = false := by simpa using a10
        have hne : ¬ (c = 92 ∨ c = 59 ∨ c = 44) := fun h => h.elim (fun h => a92 ((NU.out 92 (by omega)).2 h)) fun h => h.elim (fun h => a59 ((NU.out 59 (by omega)).2 h)) fun h => a44 ((NU.out 44 (by omega)).2 h)
        have hne2 : ¬ c = 10 := fun h => a10 ((NU.out 10 (by omega)).2 h)
        have HN := Lib.hid hne; have HN2 := Lib.hid hne2
        clear a10 a92 a59 a44 hne hne2
        have E := Lib.hid (show escB l[k] = [c] by rw [← C.out]; rw [escB, if_neg HN.out, if_neg HN2.out])
        go_wp2_with (at_builtin; refine wpList_append_lies _ rfl _ _ 125 rfl wb.heap.size 5 i0 _ 1 1 Tryd.underlying125 hi hz0 hz1 hz2 rfl (by decide) _ _ _ rfl (hown.alloc _) ⟨wr.heap.size, 0, none⟩ 1 1 [.int .u8 n] rfl rfl ?c5x1 ?c5x2 (by decide) (by unfold maxLen; omega) (by omega) (by simp; omega) _ rfl ?_)
        case c5x1 => exact World.news_of_block (cs := #[.int .u8 n]) (heap_alloc_new wr _)
        case c5x2 => intro u hu; simp at hu; first | (subst hu; rfl) | (rcases hu with rfl | rfl <;> rfl)
        intro g cap1 w1 hown1 hgrow1 hat1 hlt1
        have hB1 : Below wb.heap.size wb w1 := (B.out.alloc hbs _).grown hgrow1 (by simp; omega) (ownBlock_ge hown)
        have R := Lib.hid (escI_next (m := (esc (l.take k)).length + 1) hlt E.out rfl (by rw [show byV [c] = [.int .u8 n] by simp [byV, N.out]]; exact hown1) hB1)
        clear hB1 hown1 hgrow1 hat1 hlt1 hown
        go_wp2
        go_roundg (l.length - (k + 1))
        case measure => rw [G.out]; omega
        case rel => exact R.out
    · obtain rfl : k = l.length := by omega
      rw [List.take_length] at hown
      have hcv := conv_own (esc l) rfl hown
      clear hown hb
      go_wp2
      go_ret
      exact ⟨rfl, BW.out.trans (B.out.mono BW.out.size)⟩

/-- what holds at the loop's head of Plain. -/
def PlainI (w : World) (l : List UInt8) (g : Nat) (v i : Value) (wr : World) : Prop :=
  ∃ (k : Nat) (done : List UInt8), k ≤ l.length ∧ i = .int .i64 k ∧ g = l.length - k ∧ done ++ unesc (l.drop k) = unesc l ∧ done.length ≤ k ∧ wr.ownsRow w.heap.size 5 1 v done.length (byV done) ∧ Below w.heap.size w wr

theorem plainI_next {w w3 : World} {l done : List UInt8} {v : Value} {c : UInt8} {k j m : Nat} (hj : k < j) (hjl : j ≤ l.length) (hd : done ++ unesc (l.drop k) = unesc l) (hdl : done.length ≤ k) (hu : unesc (l.drop k) = c :: unesc (l.drop j)) (hm : m = done.length + 1)
    (ho : w3.ownsRow w.heap.size 5 1 v m (byV done ++ [.int .u8 (c.toNat : Int)])) (hb : Below w.heap.size w w3) : PlainI w l (l.length - j) v (.int .i64 (j : Int)) w3 := by
  refine ⟨j, done ++ [c], hjl, rfl, rfl, ?_, by simp; omega, ?_, hb⟩
  · rw [← hd, hu]; simp
  · rw [byV_snoc, List.length_append]
    subst hm
    exact ho

theorem bs_get (l : List UInt8) (k : Nat) (h : k < l.length) (h2 : k < (bs l).size) : (bs l)[k] = l[k] := by
  rfl

set_option maxRecDepth 100000 in
set_option maxHeartbeats 4000000 in
theorem plain_loop (l : List UInt8) (w : World) (hs : l.length ≤ 4194304) (b : Bool) (hb : decide (esc (unesc l) = l) = b) :
    Calls Tryd.prog 24 #[.string (bs l)] w fun e w' => e = .returned (.tuple #[.string (bs (if b = true then unesc l else [])), if b = true then .nilIface else .iface 113 (.int .i64 2)]) ∧ Below w.heap.size w w' := by
  obtain ⟨i0, hi, hz0, hz1, hz2⟩ := info_parts u8Info
  have HB := Lib.hid hb; clear hb
  obtain ⟨s, hs0⟩ : ∃ s, s = bs l := ⟨_, rfl⟩
  have hsz : s.size = l.length := by rw [hs0, bs_size]
  have hget : ∀ k (h : k < l.length) (h2 : k < s.size), s[k] = l[k] := by subst hs0; exact fun k h h2 => bs_get l k h h2
  rw [← hs0]
  have S0 := Lib.hid hs0; have SZ := Lib.hid hsz; have GT := Lib.hid hget
  have hsl : s.size ≤ 4194304 := by omega
  clear hs0 hget hsz
  go_enter Tryd.func24, Tryd.ntmps24
  go_wp2
  go_loopg [4, 5] l.length (PlainI w l)
  case atStart => exact ⟨0, [], Nat.zero_le _, rfl, rfl, by simp, by simp, World.ownsRow_nil _ _ _ _, Below.refl _ _⟩
  case round =>
    obtain ⟨k, done, hk, rfl, hg, hd, hdl, hown, hb⟩ := hrel
    have G := Lib.hid hg; have D := Lib.hid hd; have B := Lib.hid hb
    have hbs := hb.size
    clear hg hd hb
    by_cases hlt : k < s.size
    · have hlt2 : k < l.length := by rw [← SZ.out]; exact hlt
      obtain ⟨c, hc⟩ : ∃ c, c = s[k] := ⟨_, rfl⟩
      have C := Lib.hid (show l[k] = c by rw [hc]; exact (GT.out k hlt2 hlt).symm)
      obtain ⟨n, hn⟩ : ∃ n : Int, n = (c.toNat : Int) := ⟨_, rfl⟩
      have N := Lib.hid hn
      have hcn : ((s[k]).toNat : Int) = n := by rw [hn, hc]
      clear hn hc
      have hdk : l.drop k = c :: l.drop (k + 1) := by rw [List.drop_eq_getElem_cons hlt2, C.out]
      have DK := Lib.hid hdk; clear hdk
      have hls := SZ.out
      have i1 : (0 : Int) ≤ (k : Int) := Int.natCast_nonneg _
      have i2 : (k : Int) < (s.size : Int) := by omega
      have hk4 : k ≤ 4194304 := by omega
      by_cases h92 : c = 92
      · have e92 : (n == 92) = true := by rw [N.out, h92]; rfl
        have C2 := Lib.hid h92; clear h92
        by_cases hk1 : k + 1 < s.size
        · have hk1l : k + 1 < l.length := by omega
          obtain ⟨d, hd⟩ : ∃ d, d = s[k + 1] := ⟨_, rfl⟩
          have D2 := Lib.hid (show l[k + 1] = d by rw [hd]; exact (GT.out (k + 1) hk1l hk1).symm)
          obtain ⟨dn, hdn⟩ : ∃ dn : Int, dn = (d.toNat : Int) := ⟨_, rfl⟩
          have DN := Lib.hid hdn
          have hcd : ((s[k + 1]).toNat : Int) = dn := by rw [hdn, hd]
          have DK2 := Lib.hid (show l.drop k = 92 :: d :: l.drop (k + 2) by rw [DK.out, C2.out, List.drop_eq_getElem_cons hk1l, D2.out])
          clear hdn hd
          have i3 : (k : Int) + 1 < (s.size : Int) := by omega
          by_cases h110 : d = 110
          · have e110 : (dn == 110) = true := by rw [DN.out, h110]; rfl
            have D3 := Lib.hid h110; clear h110 hls
            go_wp2_with (at_builtin; refine wpList_append_lies _ rfl _ _ 125 rfl w.heap.size 5 i0 _ 1 1 Tryd.underlying125 hi hz0 hz1 hz2 rfl (by decide) _ _ _ rfl (hown.alloc _) ⟨wr.heap.size, 0, none⟩ 1 1 [.int .u8 10] rfl rfl ?p11 ?p12 (by decide) (by unfold maxLen; omega) (by omega) (by simp; omega) _ rfl ?_)
            case p11 => exact cell_one_new _ _ _
            case p12 => intro u hu; simp at hu; subst hu; rfl
            intro g cap1 w1 hown1 hgrow1 hat1 hlt1
            have hB1 : Below w.heap.size w w1 := (B.out.alloc hbs _).grown hgrow1 (by simp; omega) (ownBlock_ge hown)
            have R := Lib.hid (plainI_next (c := 10) (m := done.length + 1) (j := k + 2) (by omega) (by omega) D.out hdl (by rw [DK2.out, unesc_pair, if_pos D3.out]) rfl hown1 hB1)
            clear hB1 hown1 hgrow1 hat1 hlt1 hown
            go_wp2
            go_roundg (l.length - (k + 2))
            case measure => rw [G.out]; omega
            case rel =>
              have h := R.out
              rw [show ((k + 2 : Nat) : Int) = (k : Int) + 1 + 1 by omega] at h
              exact h
          · have e110 : (dn == 110) = false := by rw [beq_eq_false_iff_ne, DN.out]; intro h; exact h110 (UInt8.toNat_inj.1 (by show d.toNat = 110; omega))
            have D3 := Lib.hid h110; clear h110 hls
            go_wp2_with (at_builtin; refine wpList_append_lies _ rfl _ _ 125 rfl w.heap.size 5 i0 _ 1 1 Tryd.underlying125 hi hz0 hz1 hz2 rfl (by decide) _ _ _ rfl (hown.alloc _) ⟨wr.heap.size, 0, none⟩ 1 1 [.int .u8 dn] rfl rfl ?p21 ?p22 (by decide) (by unfold maxLen; omega) (by omega) (by simp; omega) _ rfl ?_)
            case p21 => exact cell_one_new _ _ _
            case p22 => intro u hu; simp at hu; subst hu; rfl
            intro g cap1 w1 hown1 hgrow1 hat1 hlt1
            have hB1 : Below w.heap.size w w1 := (B.out.alloc hbs _).grown hgrow1 (by simp; omega) (ownBlock_ge hown)
            have R := Lib.hid (plainI_next (c := d) (m := done.length + 1) (j := k + 2) (by omega) (by omega) D.out hdl (by rw [DK2.out, unesc_pair, if_neg D3.out]) rfl (by rw [← DN.out]; exact hown1) hB1)
            clear hB1 hown1 hgrow1 hat1 hlt1 hown
            go_wp2
            go_roundg (l.length - (k + 2))
            case measure => rw [G.out]; omega
            case rel =>
              have h := R.out
              rw [show ((k + 2 : Nat) : Int) = (k : Int) + 1 + 1 by omega] at h
              exact h
        · have i3 : ¬ (k : Int) + 1 < (s.size : Int) := by omega
          have DK3 := Lib.hid (show l.drop k = [92] by rw [DK.out, C2.out, List.drop_of_length_le (by omega)])
          have DK4 := Lib.hid (show l.drop (k + 1) = [] from List.drop_of_length_le (by omega))
          clear hls
          go_wp2_with (at_builtin; refine wpList_append_lies _ rfl _ _ 125 rfl w.heap.size 5 i0 _ 1 1 Tryd.underlying125 hi hz0 hz1 hz2 rfl (by decide) _ _ _ rfl (hown.alloc _) ⟨wr.heap.size, 0, none⟩ 1 1 [.int .u8 n] rfl rfl (cell_one_new _ _ _) (by simp [Value.oneCell']) (by decide) (by unfold maxLen; omega) (by omega) (by simp; omega) _ rfl ?_)
          intro g cap1 w1 hown1 hgrow1 hat1 hlt1
          have hB1 : Below w.heap.size w w1 := (B.out.alloc hbs _).grown hgrow1 (by simp; omega) (ownBlock_ge hown)
          have R := Lib.hid (plainI_next (c := c) (m := done.length + 1) (j := k + 1) (by omega) (by omega) D.out hdl (by rw [DK3.out, DK4.out, C2.out]; rfl) rfl (by rw [← N.out]; exact hown1) hB1)
          clear hB1 hown1 hgrow1 hat1 hlt1 hown
          go_wp2
          go_roundg (l.length - (k + 1))
          case measure => rw [G.out]; omega
          case rel =>
            have h := R.out
            rw [show ((k + 1 : Nat) : Int) = (k : Int) + 1 by omega] at h
            exact h
      · have e92 : (n == 92) = false := by rw [beq_eq_false_iff_ne, N.out]; intro h; exact h92 (UInt8.toNat_inj.1 (by show c.toNat = 92; omega))
        have C2 := Lib.hid h92; clear h92 hls
        go_wp2_with (at_builtin; refine wpList_append_lies _ rfl _ _ 125 rfl w.heap.size 5 i0 _ 1 1 Tryd.underlying125 hi hz0 hz1 hz2 rfl (by decide) _ _ _ rfl (hown.alloc _) ⟨wr.heap.size, 0, none⟩ 1 1 [.int .u8 n] rfl rfl ?p41 ?p42 (by decide) (by unfold maxLen; omega) (by omega) (by simp; omega) _ rfl ?_)
        case p41 => exact cell_one_new _ _ _
        case p42 => intro u hu; simp at hu; subst hu; rfl
        intro g cap1 w1 hown1 hgrow1 hat1 hlt1
        have hB1 : Below w.heap.size w w1 := (B.out.alloc hbs _).grown hgrow1 (by simp; omega) (ownBlock_ge hown)
        have R := Lib.hid (plainI_next (c := c) (m := done.length + 1) (j := k + 1) (by omega) (by omega) D.out hdl (by rw [DK.out, unesc_plain _ _ C2.out]) rfl (by rw [← N.out]; exact hown1) hB1)
        clear hB1 hown1 hgrow1 hat1 hlt1 hown
        go_wp2
        go_roundg (l.length - (k + 1))
        case measure => rw [G.out]; omega
        case rel =>
          have h := R.out
          rw [show ((k + 1 : Nat) : Int) = (k : Int) + 1 by omega] at h
          exact h
    · have hkl : k = l.length := by have := SZ.out; omega
      have hks : (k : Int) = (s.size : Int) := by have := SZ.out; omega
      have hdone : done = unesc l := by have := D.out; rw [hkl, List.drop_length] at this; simpa [unesc] using this
      have hlen2 := unesc_len l
      rw [hdone] at hown
      have hcv := conv_own (unesc l) rfl hown
      obtain ⟨ob, hob⟩ : ∃ ob, ob = bs (unesc l) := ⟨_, rfl⟩
      rw [← hob] at hcv
      have OB := Lib.hid hob
      clear hown hob hdone hdl
      go_wp2_with fail
      rw [OB.out]
      refine (escape_any (unesc l) _ (by omega)).mono ?_; rintro e w2 ⟨rfl, hb2⟩
      have hcmp : ((bs (esc (unesc l))).toList == s.toList) = b := by
        rw [S0.out, bs_toList, bs_toList, ← HB.out, Bool.eq_iff_iff]; simp
      have B2 := Lib.hid (B.out.trans (hb2.mono B.out.size)); clear hb2
      cases b
      · go_wp2
        go_ret2
        exact ⟨rfl, B2.out⟩
      · go_wp2
        go_ret2
        exact ⟨by simp [OB.out], B2.out⟩

end Go.Proofs.YtdpngbjlljgoaaaDoor
